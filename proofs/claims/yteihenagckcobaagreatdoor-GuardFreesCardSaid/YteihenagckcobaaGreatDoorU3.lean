/- Texts joined. -/
import Derived.Lib.Overlaps
import Derived.Laws.Externs
import Derived.Test.YteihenagckcobaaGreatDoorU2
set_option linter.unusedVariables false
set_option linter.unusedSimpArgs false
namespace Go.Proofs
open Go.Vc
set_option maxRecDepth 100000
def Zv.h:Hn:=.q .o1 (.q (.q (.cS (.seq [.op,.op,.op,.op,.cX false 3 (RI.ops 3)])) .aK) (.q (.q .o3 (.k (.loop [(15,.I)] (.q .o1 (.q (.c .l .l) (.q (.k (.q .o6 (.q (.cS (.ib true [1] [(37,.one .b)] (.take 0 (.all [(1,.take 2 (.take 3 (.split 23 (.take 4 (.take 5 (.take 6 (.take 7 (.take 8 (.take 9 (.take 10 (.take 11 (.take 12 (.take 13 (.take 14 (.take 15 (.take 16 (.take 17 (.done))))))))))))))) (.take 4 (.take 5 (.take 6 (.split 26 (.take 7 (.take 9 (.take 10 (.take 11 (.take 12 (.take 13 (.all [(8,.all [(14,.take 15 (.take 16 (.take 17 (.done))))]),(14,.all [(8,.take 15 (.take 16 (.take 17 (.done))))])]))))))) (.take 7 (.take 8 (.take 9 (.take 10 (.take 11 (.take 12 (.take 13 (.take 14 (.take 15 (.take 16 (.take 17 (.done)))))))))))))))))))])))) .aK))) .o2)))))) .aM))
def Zv.v (a:Sl)(b:Hp)(c:aO):Prop:=bW (λd e=>If d (c false e) (X9 [bN] (λf=>f 0 e) λg (h:Int) i=>If (h<((a.len:Nat):Int)) (Ix a.a a.len h 3 λj=>aQ j 0 i λk=>aQ j 1 i λl=>aQ j 2 i λm=>aV #[.I 0,.I 0,.I 0] 137 i λn o=>aR n 0 (.I k) o λp=>aR n 1 (.I l) p λq=>aR n 2 (.I m) q λr=>Jn [.b] (λ(s:Bool) t=>If s (c false t) (bL (h+1) λu=>g u t)) λv=>eN r λw=>aS w n 0 λx=>aS w n 1 λy=>aS w n 2 λz=>Qx.c x y z r λaa ab=>If (!aa) (v true ab) (If (h>0) (bL (h-1) λac=>Ix a.a a.len ac 3 λad=>(aQ n 0 ab λae=>aQ ad 0 ab λaf=>v (decide (ae<=af)) ab) ∧ (aQ ad 0 ab λag=>aQ n 0 ab λah=>v (decide (ah<=ag)) ab)) (v false ab))) (c true i))) λai=>If (((a.len:Nat):Int)<1) (ai true b) (ai (decide (((a.len:Nat):Int)>40)) b)
theorem Zv.o {a b c}(d:Zv.v a b c):Zv.c a b c:=Wa Tryz.func140 (x:=Zv.h) (R0 d)
def Z5.h:Hn:=.q .o4 (.q (.k (.q .o4 (.c .aL (.q (.cS (.ib true [] [(13,.one .b)] (.tk [0,1,2] (.split 16 (.tk [3,4,5,6,7,8,9,10,11,12,13,14,15,16] (.done)) (.tk [3,4,5,6] (.split 20 (.tk [7,8,9,10,11,12,13,14,15,16] (.done)) (.tk [7,8,9,10] (.split 24 (.tk [11,12,13,14,15,16] (.done)) (.take 11 (.take 13 (.all [(12,.take 14 (.take 15 (.take 16 (.done))))]))))))))))) .aJ)))) (.q .o4 (.q (.q .o2 .aJ) (.q .o3 .l))))
def Z5.v (a:Sl)(b c:Int)(d:Hp)(e:Int->Int->Hp->Prop):Prop:=aV #[.I b] 3 d λf g=>aV #[.I c] 3 g λh i=>Zv.c a i λj k=>If (!j) (e 0 2 k) (Jn [.b] (λ(l:Bool) m=>If l (e 0 1 m) (Wl.c a ⟨203,#[],#[.pointer (some f),.pointer (some h)]⟩ m λn o=>If (n<0) (e 0 4 o) (e n 0 o))) λp=>eN k λq=>gC q bN f λ(r:Int)=>If (r<1) (p true k) (gC q bN h λ(s:Int)=>If (s<1) (p true k) (gC q bN h λ(t:Int)=>If (t>256) (p true k) (gC q bN h λ(u:Int)=>gC q bN h λ(v:Int)=>Z6.c u k λw x=>And (q x) <| p (w != v) x))))
theorem Z5.o {a b c d e}(f:Z5.v a b c d e):Z5.c a b c d e:=Wa Tryz.func145 (x:=Z5.h) (R0 f)
def Qx.h:Hn:=.q .o2 (.q (.cS (.seq [.op,.op,.op,.op,.cX true 3 (RI.ops 3),.op,.cX true 4 (RI.ops 4),.op,.cX true 3 (RI.ops 3),.op,.cX true 3 (RI.ops 3),.op,.cX true 6 (RI.ops 6),.op,.cX true 3 (RI.ops 3),.op,.cX true 3 (RI.ops 3),.op])) .l)
def Qx.v (a b c:Int)(d:Hp)(e:aO):Prop:=aV #[.I a,.I b,.I c] 137 d λf g=>aQ f 0 g λh=>bW (λi j=>bW (λk l=>bW (λm n=>bW (λo p=>bW (λq r=>bW (λs t=>bW (λu v=>e u v) λw=>If s (aQ f 2 t λx=>w (decide (x<=32)) t) (w false t)) λy=>If q (aQ f 2 r λz=>y (decide (z≥1)) r) (y false r)) λaa=>If o (aQ f 1 p λab=>bL (ab*256) λac=>aQ f 0 p λad=>aa (decide (ac≥ad)) p) (aa false p)) λae=>If m (aQ f 1 n λaf=>ae (decide (af<=4)) n) (ae false n)) λag=>If k (aQ f 1 l λah=>ag (decide (ah≥1)) l) (ag false l)) λai=>If i (aQ f 0 j λaj=>Nz 8 <| ai ((aj.tmod 8)==0) j) (ai false j)) λak=>If (h≥8) (aQ f 0 g λal=>ak (decide (al<=512)) g) (ak false g)
theorem Qx.o {a b c d e}(f:Qx.v a b c d e):Qx.c a b c d e:=Wa Tryz.func176 (x:=Qx.h) (R0 f)
def Zy.h:Hn:=.q .o2 (.q .o7 .l)
def Zy.v (a b c:Int)(d:Hp)(e:aN):Prop:=aV #[.I a,.I b,.I c] 137 d λf g=>aQ f 1 g λh=>bL (h*256) λi=>aQ f 0 g λj=>Nz j<|bL (i.tdiv j) λk=>e k g
theorem Zy.o {a b c d e}(f:Zy.v a b c d e):Zy.c a b c d e:=Wa Tryz.func177 (x:=Zy.h) (R0 f)
def Z6.h:Hn:=.q .o1 (.q .o1 (.q (.q .o1 (.k (.loop [(3,.I),(4,.I)] (.q (.q .o3 (.c .l .l)) (.q (.k .o2) .o3))))) .aL))
def Z6.v (a:Int)(b:Hp)(c:aN):Prop:=X9 [bN,bN] (λd=>d 0 1 b) λe (f:Int) (g:Int) h=>If (g<=a) (bL (g*2) λi=>e g i h) (c f h)
theorem Z6.o {a b c}(d:Z6.v a b c):Z6.c a b c:=Wa Tryz.func201 (x:=Z6.h) (R0 d)
def ZO.h:Hn:=.q .o2 (.q (.cS (.seq [.op,.op,.op,.op,.op,.cX true 5 (RI.ops 5),.op])) .l)
def ZO.v (a b c:Int)(d e:Addr)(f:Hp)(g:aO):Prop:=aV #[.I a,.I b,.I c] 137 f λh i=>aQ h 0 i λj=>bM d i λk=>bW (λl m=>g l m) λn=>If (j≥k) (aQ h 0 i λo=>bM e i λp=>Nz p <| n ((o.tmod p)==0) i) (n false i)
theorem ZO.o {a b c d e f g}(h:ZO.v a b c d e f g):ZO.c a b c d e f g:=Wa Tryz.func203 (x:=ZO.h) (R0 h)
def Zp.h:Hn:=.q .o3 (.q (.q .o3 .aJ) (.q .o4 .l))
def Zp.v (a b c:Int)(d:Hp)(e:Int->Int->Hp->Prop):Prop:=aV #[.I a,.I b,.I c] 137 d λf g=>aQ f 0 g λh=>aQ f 1 g λi=>aQ f 2 g λj=>Qx.c h i j g λk l=>If (!k) (e 0 1 l) (aQ f 0 l λm=>aQ f 1 l λn=>aQ f 2 l λo=>Zy.c m n o l λp q=>e p 0 q)
theorem Zp.o {a b c d e}(f:Zp.v a b c d e):Zp.c a b c d e:=Wa Tryz.func247 (x:=Zp.h) (R0 f)
end Go.Proofs
namespace Go.Ar
open Go Go.Vc Go.Proofs
variable {U:Hp}
theorem Il (x y z:Int){R:aO}(hR:∀σ',bK U σ'->R (Uf x y z) σ'):Qx.c x y z U R:=by
 refine Qx.o ?_;unfold Qx.v;refine nw (cs:=[.int .i64 x,.int .i64 y,.int .i64 z]) λh A e b=>?_;have s:Uf x y z=false->R false h:=λg=>g▸hR h e;have a:¬(8<=x/\x<=512/\x%8=0/\1<=y/\y<=4/\x<=y*256/\1<=z/\z<=32)->R false h:=λg=>s (by rw[←qd,Hi];exact g);refine b.rI rfl (bW.intro ?_);refine cQ (λr=>b.rI rfl (bW.intro ?_)) λr=>?_
 case refine_2=>
  iterate 6 refine bW.intro (cB rfl ?_)
  exact a O
 refine cQ (λm=>b.rI rfl (nz aB (bW.intro ?_))) λm=>?_
 case refine_2=>
  iterate 5 refine bW.intro (cB rfl ?_)
  exact a O
 rw[Qz O];refine cO (λd=>b.rI rfl (bW.intro ?_)) λd=>?_
 case refine_2=>
  have:¬x%8=0:=by simpa using d
  iterate 4 refine bW.intro (cB rfl ?_)
  exact a O
 have u:x%8=0:=by simpa using d
 refine cQ (λw=>b.rI rfl (bW.intro ?_)) λw=>?_
 case refine_2=>
  iterate 3 refine bW.intro (cB rfl ?_)
  exact a O
 refine cQ (λi=>b.rI rfl (ar O O (b.rI rfl (bW.intro ?_)))) λi=>?_
 case refine_2=>
  iterate 2 refine bW.intro (cB rfl ?_)
  exact a O
 refine cQ (λj=>b.rI rfl (bW.intro ?_)) λj=>?_
 case refine_2=>exact bW.intro (cB rfl (a O))
 refine cQ (λp=>b.rI rfl ?_) λp=>a O;have:decide (z<=32)=Uf x y z:=by
  rw[l5,Hi];simp;omega
 rw[this];exact hR h e
theorem JS {c:bZ}(hc:c.ok){R:aN}(hR:∀σ',bK U σ'->R (c.n:Int) σ'):Zy.c c.size c.aF c.batch U R:=by
 refine Zy.o ?_;unfold Zy.v;have h:=hc;unfold bZ.ok at h;refine nw (cs:=[.int .i64 c.size,.int .i64 c.aF,.int .i64 c.batch]) λh b e a=>?_;refine a.rI rfl (cP (m:=c.aF*256) aA O (a.rI rfl (nz O ?_)));refine cP (m:=c.n) ?_ (by have:=hc.kq;omega) (hR _ e);rw[Yr O];simp[bZ.n]
theorem Fb (x y z:Int){R:Int->Int->Hp->Prop}(h1:∀c:bZ,c.ok->x=c.size->y=c.aF->z=c.batch->∀σ',bK U σ'->R (c.n:Int) 0 σ')(h0:Uf x y z=false->∀σ',bK U σ'->R 0 1 σ'):Zp.c x y z U R:=by
 refine Zp.o ?_;unfold Zp.v;refine nw (cs:=[.int .i64 x,.int .i64 y,.int .i64 z]) λh m e b=>?_;refine b.rI rfl (b.rI rfl (b.rI rfl (Il _ _ _ λi e2=>?_)));have a:=e2.bT b id;cases hk:Uf x y z
 ·exact cD rfl (h0 hk _ (e.trans e2))
 ·obtain⟨c,d,_,rfl,rfl,rfl⟩:=Gm hk;exact cB rfl (a.rI rfl (a.rI rfl (a.rI rfl (JS d λj g=>h1 c d rfl rfl rfl _ ((e.trans e2).trans g)))))
end Go.Ar
namespace Go.Proofs
open Go.Vc
set_option maxRecDepth 100000
def Xj.h:Hn:=.q .o1 (.q (.cS (.seq [.op,.op,.op,.cX true 6 (RI.ops 6),.op])) .l)
def Xj.v (a:R2)(b:Hp)(c:aO):Prop:=bW (λd e=>c d e) λf=>If (!a.isNone) (bE a 0 b λh=>f (decide (((h.len:Nat):Int)>0)) b) (f false b)
theorem Xj.o {a b c}(d:Xj.v a b c):Xj.c a b c:=Wa Tryz.func191 (x:=Xj.h) (R0 d)
def Kt.h:Hn:=.q .o2 (.q (.q (.cS (.seq [.op,.op,.op,.cX false 2 [.op,.op],.op,.cX false 3 (RI.ops 3)])) .aJ) (.q .o6 .l))
def Kt.v (a:Int)(b:Hp)(c:Option Addr->Int->Hp->Prop):Prop:=bW (λd e=>bW (λf g=>If f (c none 1 g) (Mk a a 8 3 [.I 0] g λh i=>aV #[.slice h.a h.len h.cap] 280 i λj k=>c (some j) 0 k)) λl=>If d (l true e) (Nz 16 <| l ((a.tmod 16) != 0) e)) λm=>If (a<16) (m true b) (m (decide (a>1024)) b)
theorem Kt.o {a b c}(d:Kt.v a b c):Kt.c a b c:=Wa Tryz.func198 (x:=Kt.h) (R0 d)
def Xm.h:Hn:=.q .o1 (.q .o6 .l)
def Xm.v (a:R2)(b c:Int)(d:Hp)(e:aN):Prop:=aV #[.I 1] 3 d λf g=>Xz.c a b c 2 ⟨some f,1,1⟩ g λh i=>e h i
theorem Xm.o {a b c d e}(f:Xm.v a b c d e):Xm.c a b c d e:=Wa Tryz.func220 (x:=Xm.h) (R0 f)
def YC.h:Hn:=.q .o1 (.q .o7 .l)
def YC.v (a:R2)(b:Hp)(c:aN):Prop:=bE a 0 b λe=>Nz 16<|bL (((e.len:Nat):Int).tdiv 16) λf=>c f b
theorem YC.o {a b c}(d:YC.v a b c):YC.c a b c:=Wa Tryz.func224 (x:=YC.h) (R0 d)
def Y4.h:Hn:=.q .o1 (.q (.o 11) .l)
def Y4.v (a:R2)(b:Int)(c:Hp)(d:Sl->Hp->Prop):Prop:=bE a 0 c λf=>bL (b*16) λg=>bL (b+1) λh=>bL (h*16) λi=>eX f 1 g i (f.cap:Nat) λj=>d j c
theorem Y4.o {a b c d}(e:Y4.v a b c d):Y4.c a b c d:=Wa Tryz.func226 (x:=Y4.h) (R0 e)
def Xz.h:Hn:=.q .o2 (.q (.k (.q .o4 (.c .aM (.q (.cS (.seq [.op,.op,.op,.cX false 2 [.op,.op],.op,.cX false 7 (RI.ops 7),.op,.cX false 9 (RI.ops 9),.op])) .aK)))) (.q .gH (.q (.q .o3 .aK) (.q .o3 .aM))))
def Xz.v (a:R2)(b c d:Int)(e:Sl)(f:Hp)(g:aN):Prop:=aV #[.slice e.a e.len e.cap] 34 f λh i=>Xj.c a i λj k=>If (!j) (g 5 k) (bW (λl m=>bW (λn o=>bW (λp q=>If p (g 1 q) (bE a 0 q λs=>bL (b+c) λt=>eX s 1 b t (s.cap:Nat) λu=>Wx.c u ⟨271,#[],#[.pointer (some h)]⟩ q λv w=>If v (g 5 w) (Qj.c u d w λx=>g 0 x))) λy=>If n (y true o) (bE a 0 o λaa=>bL (((aa.len:Nat):Int)-b) λab=>y (decide (c>ab)) o)) λac=>If l (ac true m) (bE a 0 m λae=>ac (decide (b>((ae.len:Nat):Int))) m)) λaf=>If (b<0) (af true k) (af (decide (c<1)) k))
theorem Xz.o {a b c d e f g}(h:Xz.v a b c d e f g):Xz.c a b c d e f g:=Wa Tryz.func230 (x:=Xz.h) (R0 h)
def Yh.h:Hn:=.q .o2 (.q (.k (.q .o4 (.c .aL (.q (.cS (.seq [.op,.op,.op,.cX false 4 (RI.ops 4),.op])) .aJ)))) (.q .o5 .l))
def Yh.v (a:R2)(b:Int)(c:Hp)(d:Sl->Int->Hp->Prop):Prop:=Xj.c a c λe f=>If (!e) (d ⟨none,0,0⟩ 5 f) (bW (λg h=>If g (d ⟨none,0,0⟩ 1 h) (Y4.c a b h λi j=>d i 0 j)) λk=>If (b<0) (k true f) (YC.c a f λl m=>k (decide (b≥l)) m))
theorem Yh.o {a b c d}(e:Yh.v a b c d):Yh.c a b c d:=Wa Tryz.func233 (x:=Yh.h) (R0 e)
def Qj.h:Hn:=.q .o3 (.k (.loop [(7,.I)] (.q .o1 (.q (.c .l .l) (.q (.k (.q .o2 .o5)) .o2)))))
def Qj.v (a:Sl)(b:Int)(c:Hp)(d:aP):Prop:=X9 [bN] (λe=>e 0 c) λf (g:Int) h=>If (g<((a.len:Nat):Int)) (Ix a.a a.len g 1 λi=>dX i (.I b) h λj=>bL (g+1) λk=>f k j) (d h)
theorem Qj.o {a b c d}(e:Qj.v a b c d):Qj.c a b c d:=Wa Tryz.func235 (x:=Qj.h) (R0 e)
def Xu.h:Hn:=.q .o1 (.q .o6 .l)
def Xu.v (a:R2)(b c:Int)(d:Hp)(e:aN):Prop:=aV #[.I 2,.I 3] 3 d λf g=>Xz.c a b c 1 ⟨some f,2,2⟩ g λh i=>e h i
theorem Xu.o {a b c d e}(f:Xu.v a b c d e):Xu.c a b c d e:=Wa Tryz.func255 (x:=Xu.h) (R0 f)
def Yo.h:Hn:=.q .o1 (.q .o5 .l)
def Yo.v (a:Int)(b:Addr)(c:Hp)(d:aO):Prop:=jm b c λe=>Wp.c e a c λf g=>d (!f) g
theorem Yo.o {a b c d}(e:Yo.v a b c d):Yo.c a b c d:=Wa Tryz.func271 (x:=Yo.h) (R0 e)
def XL.h:Hn:=.q .o1 (.q (.q (.cS (.seq [.op,.op,.op,.op,.cX false 2 [.op,.op],.op,.cX false 7 (RI.ops 7)])) .aK) (.q .o8 .l))
def XL.v (a:R2)(b:Int)(c:Hp)(d:aN):Prop:=Xj.c a c λe f=>bW (λg h=>bW (λi j=>If i (d (-1) j) (bE a 0 j λl=>Ix l.a l.len b 1 λm=>bM m j λn=>d n j)) λo=>If g (o true h) (bE a 0 h λq=>o (decide (b≥((q.len:Nat):Int))) h)) λr=>If (!e) (r true f) (r (decide (b<0)) f)
theorem XL.o {a b c d}(e:XL.v a b c d):XL.c a b c d:=Wa Tryz.func281 (x:=XL.h) (R0 e)
def X1.h:Hn:=.q .o1 (.q .o8 (.q (.k (.q .o3 (.c .aL (.q .o5 .aK)))) (.q .o2 .aM)))
def X1.v (a:R2)(b:Int)(c:Hp)(d:aN):Prop:=Yh.c a b c λe f g=>If (f != 0) (d f g) (Ix e.a e.len 0 1 λh=>bM h g λi=>If (i != 0) (d 5 g) (Qj.c e 3 g λj=>d 0 j))
theorem X1.o {a b c d}(e:X1.v a b c d):X1.c a b c d:=Wa Tryz.func287 (x:=X1.h) (R0 e)
end Go.Proofs
namespace Go.Ar
open Go Go.Vc Go.Proofs
open Go.Bu (Zb)
variable {U:Hp}{F:Rg}{p q:Nat}{st:List Nat}
structure ij (U:Hp) (p q:Nat) (st:List Nat):Prop where
 hd:∃cap,st.length<=cap/\bY U p [.slice (some ⟨q,0,none⟩) st.length cap]
 row:∃rest,bY U q (ints st++rest)
 ne:p≠q
 n1:16<=st.length
 n2:st.length<=1024
 n3:st.length%16=0
theorem ij.bS {σ':Hp}(h:ij U p q st)(e:Ext F U σ')(hp:¬F p)(hq:¬F q):ij σ' p q st:=
 ⟨by obtain⟨c,a,b⟩:=h.hd;exact⟨c,a,e.bT b hp⟩,by obtain⟨r,a⟩:=h.row;exact⟨r,e.bT a hq⟩,h.ne,h.n1,h.n2,h.n3⟩
theorem ij.bO {σ':Hp}(h:ij U p q st)(e:bK U σ'):ij σ' p q st:=h.bS e id id
theorem ij.lt (h:ij U p q st):p<U.size/\q<U.size:=by
 obtain⟨_,_,b⟩:=h.hd;obtain⟨_,a⟩:=h.row;exact⟨b.lt,a.lt⟩
theorem ij.rS (h:ij U p q st){K:Sl->Prop}(hK:∀cap,st.length<=cap->K ⟨some ⟨q,0,none⟩,st.length,cap⟩):jm (Addr.add ⟨p,0,none⟩ 0) U K:=by
 obtain⟨c,b,a⟩:=h.hd;exact a.rS rfl (hK c b)
theorem ij.part (h:ij U p q st){s:Sl}{a n:Nat}(ha:s.a=some ⟨q,a,none⟩)(hn:s.len=n)(hl:a+n<=st.length):cV s 1 (ints ((st.drop a).take n)) U (· = q):=by
 obtain⟨r,e⟩:=h.row;have b:((st.drop a).take n).length=n:=by simp;omega
 refine e.gQ ha (by rw[QG,b,hn];simp) λj d=>?_;rw[QG,b]at d;rw[ze (by rw[QG];omega)];simp[ints,zj,d,kP]
theorem jH {b o n c:Nat}{cs:List Value}(hb:bY U b cs)(hl:o+n<=cs.length)(hn:n<=1000000)(v:Nat){R:aP}
 (hR:∀σ',Qq U σ' b->bY σ' b (cs.take o++List.replicate n (.int .i64 (v:Int))++cs.drop (o+n))->R σ'):Qj.c ⟨some ⟨b,o,none⟩,n,c⟩ v U R:=by
 refine Qj.o ?_;unfold Qj.v;refine Z0 (a:=bN) (λ(t:Int) p=>∃i:Nat,t=(i:Int)/\i<=n/\Qq U p b/\bY p b (cs.take o++List.replicate i (.int .i64 (v:Int))++cs.drop (o+i))) (λt _=>n-t.toNat) ⟨0,rfl,O,⟨rfl,λ_ _=>rfl⟩,by simpa using hb⟩ ?_;rintro t p ⟨i,rfl,y,u,g⟩;refine cQ (λr=>?_) λs=>?_
 ·simp only at r;refine ix O aC ?_;rw[add_lit];refine g.s0 aE λx d j=>?_;refine cP (m:=i+1) O O ⟨⟨i+1,rfl,O,⟨d.1.trans u.1,λk w=>(d.2 k w).trans (u.2 k w)⟩,?_⟩,O⟩;have:(cs.take o++List.replicate i (Value.int .i64 (v:Int))++cs.drop (o+i)).set (o+(i:Int).toNat*1) (Value.int .i64 (v:Int))=cs.take o++List.replicate (i+1) (Value.int .i64 (v:Int))++cs.drop (o+(i+1)):=by
   rw[List.set_append_right _ _ aE];have e:o+(i:Int).toNat*1-(cs.take o++List.replicate i (Value.int .i64 (v:Int))).length=0:=by simp;omega
   rw[e,uc O,List.set_cons_zero,Co];simp[j3,wD]
  rw[this]at j;exact j
 ·simp only at s;have:i=n:=by omega
  subst this;exact hR p u g
theorem ij.fill (h:ij U p q st){a n:Nat}{r:List Value}{σ':Hp}{v:Nat}(hrow:bY U q (ints st++r))(hl:a+n<=st.length)(ho:Qq U σ' q)
 (hb:bY σ' q ((ints st++r).take a++List.replicate n (.int .i64 (v:Int))++(ints st++r).drop (a+n))):ij σ' p q (gg st a (a+n) v):=by
 obtain⟨c,e,d⟩:=h.hd;have b:=KB st a (a+n) v;refine⟨⟨c,by rw[b];exact e,?_⟩,⟨r,?_⟩,h.ne,by rw[b];exact h.n1,by rw[b];exact h.n2,by rw[b];exact h.n3⟩
 ·rw[b];exact Ws ho d h.ne
 ·rw[Oj O hl,UQ,UQ];have e1:(ints st++r).take a=ints (st.take a):=by
   rw[oV (by rw[QG];omega)];simp[ints]
  have e2:(ints st++r).drop (a+n)=ints (st.drop (a+n))++r:=by
   rw[List.drop_append_of_le_length (by rw[QG];omega)];simp[ints]
  have g:ints (List.replicate (a+n-a) v)=List.replicate n (.int .i64 (v:Int)):=by
   rw[y8];simp[ints]
  rw[e1,e2]at hb;rw[g];simpa[j3]using hb
theorem ij.jH (h:ij U p q st){a n c:Nat}(hl:a+n<=st.length)(v:Nat){R:aP}(hR:∀σ',Ext (· = q) U σ'->ij σ' p q (gg st a (a+n) v)->R σ') :
 Qj.c ⟨some ⟨q,a,none⟩,n,c⟩ v U R:=by
 obtain⟨r,b⟩:=h.row;have:=h.n2;exact Ar.jH b (by simp[QG];omega) O v λσ' d e=>hR σ' d.ext (h.fill b hl d e)
theorem A4 (h:ij U p q st){R:aO}(hR:R true U):Xj.c (aW p) U R:=by
 refine Xj.o ?_;unfold Xj.v;refine bW.intro (cD rfl (aG (h.rS λcap _=>?_)));have:=h.n1;rw[zJ aC];exact hR
theorem IU (h:ij U p q st){R:aN}(hR:R ((st.length/16:Nat):Int) U):YC.c (aW p) U R:=by
 refine YC.o ?_;unfold YC.v;have:=h.n2;refine aG (h.rS λcap _=>nz aB ?_);refine cP (m:=st.length/16) ?_ O hR;rw[Yr O];simp
theorem RJ (h:ij U p q st){k:Nat}(hk:16*k+16<=st.length){R:Sl->Hp->Prop}(hR:∀c,R ⟨some ⟨q,16*k,none⟩,16,c⟩ U):Y4.c (aW p) (k:Int) U R:=by
 refine Y4.o ?_;unfold Y4.v;have:=h.n2;refine aG (h.rS λcap a=>?_);refine cP (m:=16*k) O O (cP (m:=k+1) O O (cP (m:=16*k+16) O O ?_));refine iT O aC aC ?_;have e:16*k+16-16*k=16:=by omega
 rw[zB aC,e];simp only[zX,add_lit,ns,zH];exact hR _
theorem OT (h:ij U p q st)(k:Int){R:Sl->Int->Hp->Prop}(h1:∀(x:Nat) c,k=(x:Int)->16*x+16<=st.length->R ⟨some ⟨q,16*x,none⟩,16,c⟩ 0 U)(h0:uH st.length k=false->R ⟨none,0,0⟩ 1 U) :
 Yh.c (aW p) k U R:=by
 refine Yh.o ?_;unfold Yh.v;have n3:=h.n3;refine A4 h (cB rfl (bW.intro (cQ (λa=>cD rfl (h0 ?_)) λa=>IU h ?_)))
 ·simp[uH];omega
 ·refine cQ (λd=>h0 ?_) λb=>?_
  ·simp[uH];omega
  ·obtain⟨x,rfl⟩:=zc (show 0<=k by omega);exact RJ h O λc=>h1 x c rfl O
theorem CZ {n x:Nat}(h:16*x+16<=n):uH n (x:Int)=true:=by simp[uH];omega
theorem ij.first (h:ij U p q st){x c:Nat}(hx:16*x+16<=st.length){K:Int->Prop}(hK:K ((st.getD (16*x) 0:Nat):Int)) :
 Ix (some ⟨q,16*x,none⟩) 16 0 1 λa=>gA .i64 a U K:=by
 have b:=h.part (s:=⟨some ⟨q,16*x,none⟩,16,c⟩) (n:=16) rfl rfl hx;refine b.r8 (i:=0) (x:=st.getD (16*x) 0) ?_ hK;simp[zj,kP,zP];rw[cT O];simp
theorem MK (h:ij U p q st)(k:Int){R:aN}(hR:∀σ',Ext (· = q) U σ'->ij σ' p q (iS st k)->R (kz st k) σ'):X1.c (aW p) k U R:=by
 refine X1.o ?_;unfold X1.v;refine OT h k (λx c i g=>?_) λi=>?_
 ·subst i;have b:=CZ g;refine cB rfl (h.first (c:=c) g (cO (λd=>?_) λd=>?_))
  ·have e1:¬st.getD (16*x) 0=0:=by simpa using d
   have:kz st (x:Int)=5:=by simp only[kz,b,dE,zS,zB e1]
   have e2:iS st (x:Int)=st:=by simp[iS,this]
   have:=hR U (Ext.refl _ _);rw[e2]at this;simpa[*]using this h
  ·have e1:st.getD (16*x) 0=0:=by simpa using d
   have a:kz st (x:Int)=0:=by simp only[kz,b,dE,zS,e1]
   have e2:iS st (x:Int)=gg st (16*x) (16*x+16) 3:=by simp[iS,a]
   refine h.jH g 3 λσ' e j=>?_;have:=hR σ' e;rw[a,e2]at this;exact this j
 ·have a:kz st k=1:=by simp[kz,i]
  have e2:iS st k=st:=by simp[iS,a]
  refine cD rfl ?_;have:=hR U (Ext.refl _ _);rw[a,e2]at this;exact this h
theorem D4 {s:Sl}{xs:List Nat}(h:cV s 1 (ints xs) U F)(hl:xs.length<=1000000)(v:Nat){R:aN}(h1:∀i:Nat,xs[i]?=some v->(∀j:Nat,j<i->xs[j]?≠some v)->R (i:Int) U)(h0:v∉xs->R (-1) U) :
 WD.c s (v:Int) U R:=by
 refine WD.o ?_;unfold WD.v;have x:=h.oU;refine Z0 (a:=bN) (λ(t:Int) w=>∃i:Nat,t=(i:Int)/\i<=xs.length/\w=U/\∀j,j<i->xs[j]?≠some v) (λt _=>xs.length-t.toNat) ⟨0,rfl,O,rfl,λj d=>O⟩ ?_;rintro t w ⟨i,rfl,B,rfl,b⟩;refine cQ (λA=>?_) λy=>?_
 ·have g:i<xs.length:=by omega
  have r:xs[i]?=some xs[i]:=cT g;refine h.r8 r ?_;rw[lR];refine cO (λp=>?_) λp=>?_
  ·have:v=xs[i]:=by simpa using p
   exact h1 i (by rw[r,this]) b
  ·have u:¬v=xs[i]:=by simpa using p
   refine cP (m:=i+1) O O ⟨⟨i+1,rfl,O,rfl,λj d=>?_⟩,O⟩;by_cases e:j=i
   ·subst e;rw[r];intro e2;cases e2;exact u rfl
   ·exact b j O
 ·refine h0 λz=>?_;obtain⟨j,d⟩:=zQ z;have:=(cW.1 d).1;exact b j O d
theorem Ld {s:Sl}{xs:List Nat}(h:cV s 1 (ints xs) U F)(hl:xs.length<=1000000)(v:Nat){R:aO}(hR:R (xs.contains v) U):Wp.c s (v:Int) U R:=by
 refine Wp.o ?_;unfold Wp.v;refine D4 h hl v (λi b _=>?_) λa=>?_
 ·have:xs.contains v=true:=by simpa using zG b
  rw[this]at hR;rw[zJ O];exact hR
 ·have:xs.contains v=false:=by simpa using a
  rw[this]at hR;exact hR
theorem Lt {s:Sl}{xs:List Int}(h:cV s 1 (xs.map (Value.int .i64)) U F)(hl:xs.length<=1000000000)(v:Int){R:aO}(hR:R (xs.contains v) U):Wp.c s v U R:=by
 refine Wp.o ?_;unfold Wp.v;refine WD.o ?_;unfold WD.v;have x:s.len=xs.length:=by have:=h.1;simp at this;omega
 refine Z0 (a:=bN) (λ(t:Int) u=>∃i:Nat,t=(i:Int)/\i<=xs.length/\u=U/\∀j,j<i->xs[j]?≠some v) (λt _=>xs.length-t.toNat) ⟨0,rfl,O,rfl,λj d=>O⟩ ?_;rintro t u ⟨i,rfl,A,rfl,b⟩;refine cQ (λz=>?_) λy=>?_
 ·have g:i<xs.length:=by omega
  have w:xs[i]?=some xs[i]:=cT g;refine h.mf w (cO (λp=>?_) λp=>?_)
  ·have e:v=xs[i]:=by simpa using p
   have:xs.contains v=true:=by rw[e];simp
   rw[this]at hR;show R (decide ((i:Int)≥0)) _;rw[zJ O];exact hR
  ·have r:¬v=xs[i]:=by simpa using p
   refine cP (m:=i+1) O O ⟨⟨i+1,rfl,O,rfl,λj d=>?_⟩,O⟩;by_cases e:j=i
   ·subst e;rw[w];intro e2;cases e2;exact r rfl
   ·exact b j O
 ·have:xs.contains v=false:=by
   simp only[r5,decide_eq_false_iff_not];intro hm;obtain⟨j,d⟩:=zQ hm;have:=(cW.1 d).1;exact b j O d
  rw[this]at hR;exact hR
def FO (f:Fv)(p:Nat->Bool)(U:Hp):Prop:=∀(x:Nat) (σ':Hp) (R:aO),bK U σ'->(∀σ'',bK σ' σ''->R (p x) σ'')->VW Tryz.prog f [.int .i64 (x:Int)] [.one .b] σ' R
theorem LA {s:Sl}{xs:List Nat}(h:cV s 1 (ints xs) U F)(hl:xs.length<=1000000){f:Fv}{pr:Nat->Bool}(hf:FO f pr U){R:aO}(hR:∀σ',bK U σ'->R (xs.any pr) σ') :
 Wx.c s f U R:=by
 refine Wx.o ?_;unfold Wx.v;refine WO.o ?_;unfold WO.v;have w:=h.oU;refine Z0 (a:=bN) (λ(t:Int) u=>∃i:Nat,t=(i:Int)/\i<=xs.length/\bK U u/\∀j x,j<i->xs[j]?=some x->pr x=false) (λt _=>xs.length-t.toNat) ⟨0,rfl,O,Ext.refl _ _,λj x r=>O⟩ ?_;rintro t u ⟨i,rfl,B,e,d⟩;refine cQ (λz=>?_) λy=>?_
 ·have g:i<xs.length:=by omega
  have p:xs[i]?=some xs[i]:=cT g;refine(aH.bO h e).r8 p (hf _ _ _ e λA e2=>?_);cases hp:pr xs[i]
  ·refine cB rfl (cP (m:=i+1) O O ⟨⟨i+1,rfl,O,e.trans e2,λj x r b=>?_⟩,O⟩);by_cases e3:j=i
   ·subst e3;rw[p]at b;cases b;exact hp
   ·exact d j x O b
  ·refine cD rfl ?_;have:xs.any pr=true:=kf.2 ⟨_,zo g,hp⟩;show R (decide ((i:Int)≥0)) _;rw[zJ O,←this];exact hR _ (e.trans e2)
 ·have:xs.any pr=false:=by
   rw[mB];intro x p;obtain⟨j,r⟩:=zQ p;have:=(cW.1 r).1;simp[d j x O r]
  show R (decide ((-1:Int)≥0)) _;rw[show decide ((-1:Int)≥0)=false from rfl,←this];exact hR _ e
theorem O3 {c:Nat}{s:Sl}{fr:List Nat}{σ0:Hp}(hb:bY σ0 c [.slice s.a s.len s.cap])(hs:cV s 1 (ints fr) σ0 F)(hl:fr.length<=1000):FO ⟨271,#[],#[.pointer (some ⟨c,0,none⟩)]⟩ (λx=>!fr.contains x) σ0:=by
 intro x σ' R e hR;refine pV (all := #[.int .i64 (x:Int),.pointer (some ⟨c,0,none⟩)]) (by kernel_rfl) aA ?_;refine Yo.o ?_;unfold Yo.v;refine(e.bT hb id).uj rfl ?_;exact Ld (aH.bO hs e) O x (hR _ (Ext.refl _ _))
theorem Ii (h:ij U p q st)(a m:Int)(v:Nat){s:Sl}{fr:List Nat}(hs:cV s 1 (ints fr) U F)(hl:fr.length<=1000){R:aN}(hR:∀σ',Ext (· = q) U σ'->ij σ' p q (Ua st a m v fr)->R (oF st a m fr) σ') :
 Xz.c (aW p) a m v s U R:=by
 refine Xz.o ?_;unfold Xz.v;have n2:=h.n2;have P:=h.lt.2;refine nw (cs:=[.slice s.a s.len s.cap]) λv1 N g G=>?_;have e:=h.bO g;have d:¬(0<=a/\1<=m/\m<=st.length-a)->R 1 v1:=λE=>by
  have b:Zb st.length a m=false:=by simp only[Zb,←uw];exact zM E
  have e1:oF st a m fr=1:=by simp[oF,b]
  have e2:Ua st a m v fr=st:=by simp[Ua,e1]
  have:=hR v1 g.to;rw[e1,e2]at this;exact this e
 refine A4 e (cB rfl (bW.intro ?_));refine cQ (λH=>bW.intro (cD rfl (bW.intro (cD rfl (cD rfl (d O)))))) λH=>?_;refine bW.intro (cQ (λK=>bW.intro (cD rfl (cD rfl (d O)))) λK=>?_);refine aG (e.rS λcap A=>bW.intro (cQ (λu=>cD rfl (d (by simp only at *;omega))) λu=>?_));simp only at u;refine aG (e.rS λcap A=>ar aC aC (cQ (λB=>d (by simp only at *;omega)) λB=>?_));simp only at B;obtain⟨x,rfl⟩:=zc (show 0<=a by omega);obtain⟨y,rfl⟩:=zc (show 0<=m by omega);have i:x+y<=st.length:=by omega
 have b:Zb st.length (x:Int) (y:Int)=true:=by simp only[Zb,zF,zU];omega
 refine aG (e.rS λcap A=>cP (m:=x+y) O O (iT O aC aC ?_));rw[zB aC];simp only[zX,add_lit,ns,zH];have C:x+y-x=y:=by omega
 rw[C];have J:=e.part (s:=⟨some ⟨q,x,none⟩,y,cap-x⟩) (n:=y) rfl rfl i;refine LA J aE (O3 (s:=s) G (aH.bO hs g) hl) λD e2=>?_;have w:=e.bO e2;have j:((st.drop x).take y).any (λz=>!fr.contains z) = !uv st x y fr:=by
  rw[uv,List.all_eq_not_any_not,Bool.not_not]
 rw[j];cases hA:uv st x y fr
 ·have e1:oF st (x:Int) (y:Int) fr=5:=by simp[oF,b,hA]
  have r:Ua st (x:Int) (y:Int) v fr=st:=by simp[Ua,e1]
  have:=hR D (g.to.trans e2.to);rw[e1,r]at this;exact cD rfl (this w)
 ·have e1:oF st (x:Int) (y:Int) fr=0:=by simp[oF,b,hA]
  have r:Ua st (x:Int) (y:Int) v fr=gg st x (x+y) v:=by simp[Ua,e1]
  refine cB rfl (w.jH i v λv3 M L=>?_);have:=hR v3 (g.to.trans (e2.to.trans M));rw[e1,r]at this;exact this L
theorem xE {h:Hp}{b:Nat}{xs:List Nat}{n c:Nat}(hb:bY h b (ints xs))(hn:n=xs.length):cV ⟨some ⟨b,0,none⟩,n,c⟩ 1 (ints xs) h (· = b):=
 hb.gQ (o:=0) rfl (by rw[QG];simp[hn]) λj _=>by rw[zH]
theorem Mw (h:ij U p q st)(a m:Int){R:aN}(hR:∀σ',Ext (· = q) U σ'->ij σ' p q (Ua st a m 1 [2,3])->R (oF st a m [2,3]) σ'):Xu.c (aW p) a m U R:=by
 refine Xu.o ?_;unfold Xu.v;refine nw (cs:=ints [2,3]) λv i e b=>?_;exact Ii (h.bO e) a m 1 (xE b rfl) aA λσ' d g=>hR σ' (e.to.trans d) g
theorem SO (h:ij U p q st)(a m:Int){R:aN}(hR:∀σ',Ext (· = q) U σ'->ij σ' p q (Ua st a m 2 [1])->R (oF st a m [1]) σ'):Xm.c (aW p) a m U R:=by
 refine Xm.o ?_;unfold Xm.v;refine nw (cs:=ints [1]) λv i e b=>?_;exact Ii (h.bO e) a m 2 (xE b rfl) aA λσ' d g=>hR σ' (e.to.trans d) g
def xN (st:List Nat)(x:Int):Int:=if 0<=x/\x<st.length then((st.getD x.toNat 0:Nat):Int)else -1
theorem NQ (h:ij U p q st)(x:Int){R:aN}(hR:R (xN st x) U):XL.c (aW p) x U R:=by
 refine XL.o ?_;unfold XL.v;have n2:=h.n2;unfold xN at hR;refine A4 h (bW.intro (cB rfl (bW.intro (cQ (λi=>cD rfl ?_) λi=>aG (h.rS λcap g=>cQ (λb=>?_) λb=>?_)))))
 ·rw[zB O]at hR;exact hR
 ·simp only at b;rw[zB O]at hR;exact hR
 ·simp only at b;rw[zC O]at hR;obtain⟨y,rfl⟩:=zc (show 0<=x by omega);refine aG (h.rS λcap g=>?_);have e:=h.part (s:=⟨some ⟨q,0,none⟩,st.length,cap⟩) (a:=0) (n:=st.length) rfl rfl O;rw[yu,mg]at e;have d:y<st.length:=by omega
  refine e.r8 (cT d) ?_;simpa[zP,cT d]using hR
theorem U8 {s:Sl}{vs:List Value}(h:cV s 1 vs U F)(h1:∀v∈vs,dN v=true)(hl:s.len<=1000000){R:Sl->Hp->Prop}
 (hR:∀s' σ',s'.len=s.len->bK U σ'->bR s' 1 vs σ' (λb=>U.size<=b)->R s' σ'):WC.c s U R:=by
 refine WC.o ?_;unfold WC.v;exact DK h aB rfl h1 aB hl hR
theorem Mv {n:Nat}(h1:16<=n)(h2:n<=1024)(h3:n%16=0){R:Option Addr->Int->Hp->Prop}(hR:∀σ' p q,bK U σ'->U.size<=p->U.size<=q->ij σ' p q (List.replicate n 0)->R (some ⟨p,0,none⟩) 0 σ'):Kt.c (n:Int) U R:=by
 refine Kt.o ?_;unfold Kt.v;refine bW.intro (fT O (bW.intro (fT O (nz aB ?_))));rw[Qz O];have:(((n:Int)%16) != 0)=false:=by
  have:((n:Int)%16)=0:=by omega
  rw[this];rfl
 rw[this];refine cB rfl (mk O O λv j e a=>nw (cs:=[.slice (some ⟨U.size,0,none⟩) n n]) λi g e2 b=>?_);have d:(List.replicate n [Value.int .i64 0]).flatten=ints (List.replicate n 0):=by
  have:[Value.int .i64 0]=ints [0]:=rfl;rw[this];clear a hR
  induction n with
  | zero=>rfl
  | succ n ih=>simp[vR,ints]
 rw[d]at a;refine hR _ _ _ (e.trans e2) O (zD _) ⟨⟨n,by simp,by simpa using b⟩,⟨[],by simpa using e2.bT a id⟩,O,by simpa using h1,by simpa using h2,by simpa using h3⟩
end Go.Ar
namespace Go.Proofs
open Go.Vc
set_option maxRecDepth 100000
def Zz.h:Hn:=.q .o1 (.q (.q .o3 .aJ) (.q (.cS (.tail 10 (RI.ops 10) [.op])) .l))
def Zz.v (a:R2)(b:Hp)(c:Int->Int->Hp->Prop):Prop:=aV #[.I 0,.I 0] 251 b λd e=>Yl.c a e λf g=>If (!f) (aR d 0 (.I 0) g λh=>aR d 1 (.I 0) h λi=>aQ d 0 i λj=>aQ d 1 i λk=>c j k i) (bD a 0 g λm=>bU a λn=>bM ((n.add 1).add 1) g λo=>aR d 0 (.I m) g λp=>aR d 1 (.I o) p λq=>aQ d 0 q λr=>aQ d 1 q λs=>c r s q)
theorem Zz.o {a b c}(d:Zz.v a b c):Zz.c a b c:=Wa Tryz.func179 (x:=Zz.h) (R0 d)
def Ye.h:Hn:=.q .o1 (.q (.q .o3 .aK) (.q .o6 .l))
def Ye.v (a:R2)(b:Hp)(c:aN):Prop:=Yl.c a b λd e=>If (!d) (c 0 e) (bE a 4 e λg=>c ((g.len:Nat):Int) e)
theorem Ye.o {a b c}(d:Ye.v a b c):Ye.c a b c:=Wa Tryz.func182 (x:=Ye.h) (R0 d)
def Yl.h:Hn:=.q .o1 (.q (.cS (.seq [.op,.op,.op,.cX true 6 (RI.ops 6),.op])) .l)
def Yl.v (a:R2)(b:Hp)(c:aO):Prop:=bW (λd e=>c d e) λf=>If (!a.isNone) (bE a 4 b λh=>f (decide (((h.len:Nat):Int)>0)) b) (f false b)
theorem Yl.o {a b c}(d:Yl.v a b c):Yl.c a b c:=Wa Tryz.func242 (x:=Yl.h) (R0 d)
def Kr.h:Hn:=.q .o3 (.q .o7 (.q (.q (.cS (.seq [.op,.op,.op,.cX false 2 [.op,.op],.op,.cX false 5 (RI.ops 5)])) .aJ) (.q (.cS (.held true [] (.tk [0,1,2] (.all [(3,.take 4 (.all [(5,.take 6 (.take 7 (.done)))]))])))) .l)))
def Kr.v (a b c d:Int)(e:Hp)(f:Option Addr->Int->Hp->Prop):Prop:=aV #[.I b,.I c,.I d] 137 e λg h=>aQ g 0 h λi=>aQ g 1 h λj=>aQ g 2 h λk=>Zp.c i j k h λl m n=>bW (λo p=>bW (λq r=>If q (f none 1 r) (eN r λs=>aS s g 0 λt=>aS s g 1 λu=>aS s g 2 λv=>Mk l l 8 3 [.I 0] r λw x=>And (s x) <| aV #[.I a,.I t,.I u,.I v,.slice w.a w.len w.cap,.I 0] 322 x λy z=>And (s z) <| f (some y) 0 z)) λaa=>If o (aa true p) (aQ g 1 p λab=>bL (1024-ab) λac=>aa (decide (a>ac)) p)) λad=>If (m != 0) (ad true n) (ad (decide (a<0)) n)
theorem Kr.o {a b c d e f}(g:Kr.v a b c d e f):Kr.c a b c d e f:=Wa Tryz.func257 (x:=Kr.h) (R0 g)
def Zq.h:Hn:=.q .o1 (.q .o8 (.q (.k (.q .o3 (.c .aL (.q .o9 .aK)))) (.q .o4 .aM)))
def Zq.v (a:R2)(b:Int)(c:Hp)(d:aN):Prop:=X4.c a b c λe f g=>If (f != 0) (d f g) (bE a 4 g λi=>Ix i.a i.len e 1 λj=>bM j g λk=>If (k==0) (d 9 g) (aV #[.I e] 3 g λl m=>YW.c a 0 ⟨some l,1,1⟩ m λn=>d 0 n))
theorem Zq.o {a b c d}(e:Zq.v a b c d):Zq.c a b c d:=Wa Tryz.func278 (x:=Zq.h) (R0 e)
def Zh.h:Hn:=.q .o2 (.q (.q .o3 .aJ) (.q .o6 (.q (.q .o2 .aJ) (.q .o4 (.q .o5 .l)))))
def Zh.v (a:R2)(b:Hp)(c:Int->Int->Hp->Prop):Prop:=Yl.c a b λd e=>If (!d) (c 0 5 e) (bE a 4 e λg=>WD.c g 0 e λh i=>If (h<0) (c 0 6 i) (aV #[.I h] 3 i λj k=>YW.c a 1 ⟨some j,1,1⟩ k λl=>Yj.c a h l λm n=>c m 0 n))
theorem Zh.o {a b c}(d:Zh.v a b c):Zh.c a b c:=Wa Tryz.func283 (x:=Zh.h) (R0 d)
def X8.h:Hn:=.q .o2 (.q (.q .o3 .aJ) (.q .o5 (.q (.q (.cS (.ib false [] [(32,.one .b)] (.take 0 (.take 1 (.all [(2,.take 3 (.take 4 (.split 18 (.take 5 (.take 6 (.take 7 (.take 8 (.take 9 (.take 10 (.take 11 (.take 12 (.take 13 (.take 14 (.take 15 (.take 16 (.take 17 (.take 18 (.done))))))))))))))) (.take 5 (.take 6 (.take 7 (.take 8 (.take 11 (.take 12 (.take 13 (.take 14 (.all [(9,.take 10 (.all [(15,.take 16 (.take 17 (.take 18 (.done))))])),(15,.all [(9,.take 10 (.take 16 (.take 17 (.take 18 (.done)))))])]))))))))))))]))))) .aJ) (.q .o9 .l))))
def X8.v (a:R2)(b:Int)(c:Hp)(d:Int->Int->Hp->Prop):Prop:=Yl.c a c λe f=>If (!e) (d 0 5 f) (Yj.c a 0 f λg h=>bL (b-g) λi=>Jn [.b] (λ(j:Bool) k=>If j (d 0 8 k) (bU a λl=>bM ((l.add 1).add 0) k λm=>Nz m<|bL (i.tdiv m) λn=>d n 0 k)) λo=>Yj.c a 0 h λp q=>If (b<p) (o true q) (bU a λr=>bU a λs=>(aX r 4 q λt=>bM ((s.add 1).add 0) q λu=>bL (((t.len:Nat):Int)*u) λv=>o (decide (i≥v)) q) ∧ (bM ((s.add 1).add 0) q λw=>aX r 4 q λx=>bL (((x.len:Nat):Int)*w) λy=>o (decide (i≥y)) q)))
theorem X8.o {a b c d}(e:X8.v a b c d):X8.c a b c d:=Wa Tryz.func290 (x:=X8.h) (R0 e)
def Yb.h:Hn:=.q .o2 (.q .o8 (.q (.q .o2 (.c (.q .o3 .l) .l)) (.q .gH .l)))
def Yb.v (a:R2)(b:Int)(c:Hp)(d:Bool->Int->Hp->Prop):Prop:=X4.c a b c λe f g=>If (f != 0) (d false f g) (bE a 4 g λi=>Ix i.a i.len e 1 λj=>bM j g λk=>d (k==1) 0 g)
theorem Yb.o {a b c d}(e:Yb.v a b c d):Yb.c a b c d:=Wa Tryz.func292 (x:=Yb.h) (R0 e)
def X4.h:Hn:=.q .o2 (.q .o8 (.q (.q (.cS (.seq [.op,.op,.op,.cX true 5 (RI.ops 5)])) .aJ) (.q .o4 .l)))
def X4.v (a:R2)(b:Int)(c:Hp)(d:Int->Int->Hp->Prop):Prop:=X8.c a b c λe f g=>bW (λh i=>If h (d 0 8 i) (d e f i)) λj=>If (f==0) (Yj.c a e g λk l=>j (k != b) l) (j false g)
theorem X4.o {a b c d}(e:X4.v a b c d):X4.c a b c d:=Wa Tryz.func304 (x:=X4.h) (R0 e)
def YW.h:Hn:=.q .o3 (.k (.loop [(10,.I)] (.q .o1 (.q (.c .l .l) (.q (.k (.q .o3 (.q (.cS (.tail 16 (RI.ops 16) [.op])) .o8))) .o2)))))
def YW.v (a:R2)(b:Int)(c:Sl)(d:Hp)(e:aP):Prop:=X9 [bN] (λf=>f 0 d) λg (h:Int) i=>If (h<((c.len:Nat):Int)) (Ix c.a c.len h 1 λj=>bM j i λk=>bD a 5 i λm=>bE a 4 i λo=>Ix o.a o.len k 1 λp=>bM p i λq=>bL (b-q) λr=>bL (m+r) λs=>bU a λt=>aR t 5 (.I s) i λu=>bE a 4 u λw=>Ix w.a w.len k 1 λx=>dX x (.I b) u λy=>bL (h+1) λz=>g z y) (e i)
theorem YW.o {a b c d e}(f:YW.v a b c d e):YW.c a b c d e:=Wa Tryz.func305 (x:=YW.h) (R0 f)
def Yj.h:Hn:=.q .o1 (.q (.oq 14) .l)
def Yj.v (a:R2)(b:Int)(c:Hp)(d:aN):Prop:=bD a 0 c λf=>bL (f*256) λg=>bU a λh=>bM ((h.add 1).add 0) c λi=>bL (b*i) λj=>bL (g+j) λk=>d k c
theorem Yj.o {a b c d}(e:Yj.v a b c d):Yj.c a b c d:=Wa Tryz.func306 (x:=Yj.h) (R0 e)
end Go.Proofs
namespace Go.Ar
open Go Go.Vc Go.Proofs
variable {U:Hp}{F:Rg}{p q:Nat}{c:bZ}{s:cF}
def nb (tk:List Bool):List Nat:=tk.map λb=>if b then 1 else 0
theorem G6 (tk:List Bool):(nb tk).length=tk.length:=by simp[nb]
theorem HE {tk:List Bool}{i:Nat}{b:Bool}(h:tk[i]?=some b):(nb tk)[i]?=some (if b then 1 else 0):=by simp[nb,h]
theorem Jm (tk:List Bool)(i:Nat)(b:Bool):nb (tk.set i b)=(nb tk).set i (if b then 1 else 0):=by simp[nb,xd]
structure gV (U:Hp) (p q:Nat) (c:bZ) (s:cF):Prop where
 hd:∃cap,c.n<=cap/\bY U p [.int .i64 (s.st:Int),.int .i64 (c.size:Int),.int .i64 (c.aF:Int),.int .i64 (c.batch:Int),.slice (some ⟨q,0,none⟩) c.n cap,.int .i64 (s.many:Int)]
 row:∃rest,bY U q (ints (nb s.tk)++rest)
 ne:p≠q
 len:s.tk.length=c.n
 ok:c.ok
 fit:s.st+c.aF<=1024
theorem gV.bS {σ':Hp}(h:gV U p q c s)(e:Ext F U σ')(hp:¬F p)(hq:¬F q):gV σ' p q c s:=
 ⟨by obtain⟨c,a,b⟩:=h.hd;exact⟨c,a,e.bT b hp⟩,by obtain⟨r,a⟩:=h.row;exact⟨r,e.bT a hq⟩,h.ne,h.len,h.ok,h.fit⟩
theorem gV.bO {σ':Hp}(h:gV U p q c s)(e:bK U σ'):gV σ' p q c s:=h.bS e id id
theorem gV.lt (h:gV U p q c s):p<U.size/\q<U.size:=by
 obtain⟨_,_,b⟩:=h.hd;obtain⟨_,a⟩:=h.row;exact⟨b.lt,a.lt⟩
theorem gV.rS (h:gV U p q c s){K:Sl->Prop}(hK:∀cap,c.n<=cap->K ⟨some ⟨q,0,none⟩,c.n,cap⟩):jm (Addr.add ⟨p,0,none⟩ 4) U K:=by
 obtain⟨d,b,a⟩:=h.hd;exact a.rS rfl (hK d b)
theorem gV.rI (h:gV U p q c s){i:Nat}{x:Int}(hx:∀a b:Value,([.int .i64 (s.st:Int),.int .i64 (c.size:Int),.int .i64 (c.aF:Int),.int .i64 (c.batch:Int),a,.int .i64 (s.many:Int)]:List Value)[0+i]?=some (.int .i64 x)){K:Int->Prop}(hK:K x):gA .i64 (Addr.add ⟨p,0,none⟩ i) U K:=by
 obtain⟨g,e,d⟩:=h.hd;exact d.rI (hx _ .nilFunc) hK
theorem gV.eY (h:gV U p q c s){i j:Nat}{x:Int}(hx:∀a b:Value,([.int .i64 (s.st:Int),.int .i64 (c.size:Int),.int .i64 (c.aF:Int),.int .i64 (c.batch:Int),a,.int .i64 (s.many:Int)]:List Value)[0+i+j]?=some (.int .i64 x)){K:Int->Prop}(hK:K x):gA .i64 (Addr.add (Addr.add ⟨p,0,none⟩ i) j) U K:=by
 obtain⟨g,e,d⟩:=h.hd;exact d.eY (hx _ .nilFunc) hK
theorem gV.kW (h:gV U p q c s)(cap:Nat):cV ⟨some ⟨q,0,none⟩,c.n,cap⟩ 1 (ints (nb s.tk)) U (· = q):=by
 obtain⟨r,a⟩:=h.row;refine a.gQ (o:=0) rfl (by rw[QG,G6,h.len];simp) λj b=>?_;rw[zH,ze b]
theorem Gk (h:gV U p q c s){R:aO}(hR:R true U):Yl.c (aW p) U R:=by
 refine Yl.o ?_;unfold Yl.v;refine bW.intro (cD rfl (aG (h.rS λcap _=>?_)));have:=h.ok.rZ;rw[zJ aC];exact hR
theorem L5 (h:gV U p q c s){R:aN}(hR:R (c.n:Int) U):Ye.c (aW p) U R:=by
 refine Ye.o ?_;unfold Ye.v;exact Gk h (cB rfl (aG (h.rS λcap _=>hR)))
theorem xQ (h:gV U p q c s)(i:Nat)(hi:i<=1000){R:aN}(hR:R ((at_ c s i:Nat):Int) U):Yj.c (aW p) (i:Int) U R:=by
 refine Yj.o ?_;unfold Yj.v;have a:=h.ok;unfold bZ.ok at a;have:=h.fit;have b:i*c.size<=1000*512:=l0 hi O;refine aG (h.rI (λ_ _=>rfl) (cP (m:=s.st*256) aA O (aG (h.eY (λ_ _=>rfl) ?_))));exact cP (m:=i*c.size) aA O (cP (m:=at_ c s i) (by simp[at_]) (by unfold at_;omega) hR)
theorem AF (h:gV U p q c s)(x:Int)(hx2:x<=9223372036854775807){R:Int->Int->Hp->Prop}(h1:∀i,idx c s x=some i->R (i:Int) 0 U)(h0:idx c s x=none->R 0 8 U):X8.c (aW p) x U R:=by
 refine X8.o ?_;unfold X8.v;have B:=h.ok;unfold bZ.ok at B;have A:=h.ok.kq;have r:=h.fit;have a:=h.len;have D:c.n*c.size<=128*512:=l0 A O;refine Gk h (cB rfl (xQ h 0 O ?_));have j:at_ c s 0=s.st*256:=by simp[at_]
 rw[j];refine xy ?_;refine Jn.intro (xQ h 0 O ?_);rw[j];refine cQ (λC=>cD rfl (h0 ?_)) λz=>?_
 ·unfold idx;rw[zC O]
 ·rw[Uv O O];obtain⟨y,E⟩:=zc (show 0<=x by omega);have key:If (decide (x-((s.st*256:Nat):Int)≥((c.n*c.size:Nat):Int))) (R 0 8 U)
   (bU (some ⟨p,0,none⟩) λe=>gA .i64 ((e.add 1).add 0) U λb=>Nz b<|Ar .i64 ((x-((s.st*256:Nat):Int)).tdiv b) λg=>R g 0 U):=by
   refine cQ (λu=>h0 ?_) λw=>aG (h.eY (λ_ _=>rfl) (nz O ?_))
   ·unfold idx;rw[a,zC O]
   ·have:idx c s x=some ((x-((s.st*256:Nat):Int)).toNat/c.size):=by unfold idx;rw[a,zB O]
    refine cP (m:=(x-((s.st*256:Nat):Int)).toNat/c.size) ?_ ?_ (h1 _ this)
    ·rw[Yr O];have:x-((s.st*256:Nat):Int)=(((x-((s.st*256:Nat):Int)).toNat:Nat):Int):=by omega
     rw[this];simp
    ·have:=Nat.div_le_self (x-((s.st*256:Nat):Int)).toNat c.size;omega
  refine aG (aG ⟨h.rS λcap d=>h.eY (λ_ _=>rfl) (cP (m:=c.n*c.size) aA O key),h.eY (λ_ _=>rfl) (h.rS λcap d=>cP (m:=c.n*c.size) aA O key)⟩)
theorem Fj (h:gV U p q c s)(x:Int)(hx2:x<=9223372036854775807){R:Int->Int->Hp->Prop}(h1:∀i,obj c s x=some i->i<c.n->R (i:Int) 0 U)(h0:obj c s x=none->R 0 8 U):X4.c (aW p) x U R:=by
 refine X4.o ?_;unfold X4.v;have g:=h.ok;unfold bZ.ok at g;have j:=h.ok.kq;refine AF h x hx2 (λi b=>bW.intro (cD rfl ?_)) λb=>bW.intro (cB rfl (cB rfl (h0 (by unfold obj;rw[b]))));have a:=((VO O).1 b).2.2;rw[h.len]at a;refine xQ h i O (cO (λd=>h0 ?_) λd=>h1 i ?_ a)
 ·have:¬x=((at_ c s i:Nat):Int):=λe=>by rw[e]at d;simp at d
  unfold obj;rw[b];simp[this]
 ·have:x=((at_ c s i:Nat):Int):=by
   have:((at_ c s i:Nat):Int)=x:=by simpa using d
   exact this.symm
  unfold obj;rw[b];simp[this]
def cF.is (s:cF)(i:Nat):Bool:=s.tk.getD i false
theorem cF.kU {s:cF}{i:Nat}(hi:i<s.tk.length):s.tk[i]?=some (s.is i):=by
 simp[cF.is,zP,cT hi]
theorem LO (h:gV U p q c s)(x:Int)(hx2:x<=9223372036854775807){R:Bool->Int->Hp->Prop}(h1:∀i,obj c s x=some i->R (s.is i) 0 U)(h0:obj c s x=none->R false 8 U):Yb.c (aW p) x U R:=by
 refine Yb.o ?_;unfold Yb.v;refine Fj h x hx2 (λi b a=>cB rfl (aG (h.rS λcap d=>?_))) λb=>cD rfl (h0 b);rw[←h.len]at a;refine(h.kW cap).r8 (HE (cF.kU a)) ?_;have:=h1 i b;cases hb:s.is i<;>rw[hb]at this<;>simpa using this
theorem GC {s:cF}{i:Nat}(hi:i<s.tk.length)(v:Bool):((s.put i v).many:Int)=s.many+((if v then 1 else 0)-(if s.is i then 1 else 0)):=by
 have key:∀(l:List Bool) (i:Nat) (b:Bool),l[i]?=some b->(((l.set i v).count true:Nat):Int)=(l.count true:Nat)+((if v then 1 else 0)-(if b then 1 else 0)):=by
  intro l
  induction l with
  | nil=>intro i b h;simp at h
  | cons x l ih=>
   intro i b h;cases i with
   | zero=>
    simp at h;subst h;cases v<;>cases x<;>simp[List.count_cons]<;>omega
   | succ i=>
    have:=ih i b (by simpa using h);simp only[rK,List.count_cons]
    push_cast
    omega
 exact key s.tk i _ (cF.kU hi)
theorem B4 (s:cF):s.many<=s.tk.length:=List.count_le_length
theorem FK (h:gV U p q c s){i:Nat}(hi:i<c.n)(v:Bool){sl:Sl}{G:Rg}(hs:cV sl 1 (ints [i]) U G){R:aP}(hR:∀σ',Ext (λb=>b=p\/b=q) U σ'->gV σ' p q c (s.put i v)->R σ') :
 YW.c (aW p) (if v then 1 else 0) sl U R:=by
 refine YW.o ?_;unfold YW.v;have K:sl.len=1:=hs.oU;have P:=h.ok.kq;have E:=h.len;have V:=B4 s;have A:i<s.tk.length:=by omega
 have d:=GC A v;refine Z0 (a:=bN) (λ(t:Int) C=>t=0/\C=U\/t=1/\Ext (λb=>b=p\/b=q) U C/\gV C p q c (s.put i v)) (λt _=>1-t.toNat) (.inl ⟨rfl,rfl⟩) ?_;rintro t C (⟨rfl,rfl⟩|⟨rfl,e,M⟩)
 ·refine lQ O ?_;refine hs.r8 (i:=0) (x:=i) rfl (aG (h.rI (λ_ _=>rfl) (aG (h.rS λcap H=>?_))));refine(h.kW cap).r8 (HE (cF.kU A)) ?_;have L:(0:Int)<=(if v then 1 else 0)/\(if v then(1:Int)else 0)<=1:=by cases v<;>simp
  have J:(0:Int)<=((if s.is i then 1 else 0:Nat):Int)/\((if s.is i then 1 else 0:Nat):Int)<=1:=by cases s.is i<;>simp
  have g:((if s.is i then 1 else 0:Nat):Int)=(if s.is i then 1 else 0):=by cases s.is i<;>rfl
  refine ar O O (ar O O (aG ?_));obtain⟨N,D,hd⟩:=h.hd;obtain⟨r,z⟩:=h.row;refine hd.s1 aA λQ y B=>?_;have j:=Ws y z (Ne.symm h.ne);refine aG (B.rS rfl (ix O aC ?_));rw[add_lit];refine j.s0 (by simp[QG,G6];omega) λS w u=>?_;refine cP (m:=1) O O ⟨.inr ⟨rfl,?_,?_⟩,by decide⟩
  ·exact(Ext.eJ (F:=λb=>b=p\/b=q) y (.inl rfl)).trans (Ext.eJ w (.inr rfl))
  ·refine⟨⟨N,D,?_⟩,⟨r,?_⟩,h.ne,by simp[cF.put,h.len],h.ok,h.fit⟩
   ·have:=Ws w B h.ne;rw[d,←g];exact this
   ·have e:(ints (nb s.tk)++r).set (0+(i:Int).toNat*1) (.int .i64 (if v then 1 else 0))=ints (nb (s.put i v).tk)++r:=by
     rw[List.set_append_left _ _ (by simp[QG,G6];omega)]
     congr 1
     simp only[cF.put,Jm,ints,xd];have:(0+(i:Int).toNat*1)=i:=by omega
     rw[this]
     congr 1
     cases v<;>rfl
    rw[e]at u;exact u
 ·exact fT O (hR _ e M)
theorem Jx (h:gV U p q c s){x:Int}{i:Nat}(hx2:x<=9223372036854775807)(ho:obj c s x=some i)(ht:s.is i=true){R:aN}(hR:∀σ',Ext (λb=>b=p\/b=q) U σ'->gV σ' p q c (s.put i false)->R 0 σ') :
 Zq.c (aW p) x U R:=by
 refine Zq.o ?_;unfold Zq.v;refine Fj h x hx2 (λj r a=>cB rfl (aG (h.rS λcap g=>?_))) λm=>by rw[ho]at m;cases m
 rw[ho]at r;cases r;have d:i<s.tk.length:=by rw[h.len];exact a
 refine(h.kW cap).r8 (HE (cF.kU d)) ?_;rw[ht];refine cB rfl (nw (cs:=ints [i]) λv A e y=>?_);have z:=h.lt;exact FK (h.bO e) a false (xE y rfl) λσ' u w=>hR σ' (e.to.trans u) w
theorem MN (h:gV U p q c s){i:Nat}(hlow:low s=some i){R:Int->Int->Hp->Prop}(hR:∀σ',Ext (λb=>b=p\/b=q) U σ'->gV σ' p q c (s.put i true)->R ((at_ c s i:Nat):Int) 0 σ') :
 Zh.c (aW p) U R:=by
 refine Zh.o ?_;unfold Zh.v;have D:=h.ok.kq;have d:=ng.1 hlow;obtain⟨m,B,C⟩:=d;have g:s.tk[i]=false:=by simpa using B
 refine Gk h (cB rfl (aG (h.rS λcap z=>?_)));refine D4 (h.kW cap) (by simp[G6,h.len];omega) 0 (λj x a=>?_) λa=>?_
 ·have u:j<s.tk.length:=by
   have:=(cW.1 x).1
   rwa [G6]at this
  have w:j=i:=by
   rcases pO j i with h1|h1|h1
   ·have:=C j h1;rw[HE (cT u)]at x;have:s.tk[j]=true:=by simpa using this
    simp[this]at x
   ·exact h1
   ·exact absurd (by rw[HE (cT m),g];rfl) (a i h1)
  subst w;rw[h.len]at m;refine fT O (nw (cs:=ints [j]) λv E e r=>?_);refine FK (h.bO e) m true (xE r rfl) λσ' A y=>xQ y j O (hR σ' (e.to.trans A) y)
 ·exfalso;apply a;exact zG (i:=i) (by rw[HE (cT m),g];rfl)
theorem MP (h:gV U p q c s){R:Int->Int->Hp->Prop}(hR:∀σ',bK U σ'->R (s.st:Int) (c.aF:Int) σ'):Zz.c (aW p) U R:=by
 refine Zz.o ?_;unfold Zz.v;refine nw (cs:=[.int .i64 0,.int .i64 0]) λv w e m=>?_;have d:=h.bO e;refine Gk d (cB rfl (aG (d.rI (λ_ _=>rfl) (aG (d.eY (λ_ _=>rfl) ?_)))));refine m.s1 aA λu g j=>j.s1 aA λv3 b a=>?_;refine a.rI rfl (a.rI rfl (hR _ ?_));exact Ext.fresh (Ext.fresh e (Ext.eJ (F:=(· = U.size)) g rfl) λi r=>O) (Ext.eJ (F:=(· = U.size)) b rfl) λi r=>by omega
theorem JJ (n:Nat):(List.replicate n [Value.int .i64 0]).flatten=ints (List.replicate n 0):=by
 induction n with
 | zero=>rfl
 | succ n ih=>simp only[vR,vO,ih];rfl
theorem PS (hc:c.ok){st:Nat}(hf:st+c.aF<=1024){R:Option Addr->Int->Hp->Prop}(hR:∀σ' p q,bK U σ'->U.size<=p->U.size<=q->gV σ' p q c ⟨st,List.replicate c.n false⟩->R (some ⟨p,0,none⟩) 0 σ') :
 Kr.c (st:Int) c.size c.aF c.batch U R:=by
 refine Kr.o ?_;unfold Kr.v;have H:=hc;unfold bZ.ok at H;have M:=hc.kq;refine nw (cs:=[.int .i64 c.size,.int .i64 c.aF,.int .i64 c.batch]) λv P e y=>?_;refine y.rI rfl (y.rI rfl (y.rI rfl (Fb _ _ _ (λg E e1 e2 D B z=>?_) λs=>?_)))
 case refine_2=>rw[(DE c).2 hc]at s;cases s
 have:g=c:=by
  obtain⟨a,b,d⟩:=c;obtain⟨N,L,K⟩:=g;simp only at e1 e2 D
  congr 1<;>omega
 subst this;have i:=z.bT y id;refine bW.intro (cB rfl (bW.intro (fT O (i.rI rfl (cP (m:=1024-g.aF) O O (fT O ?_))))));refine⟨λx=>bY x U.size [.int .i64 g.size,.int .i64 g.aF,.int .i64 g.batch],i,⟨_,λx u=>by rw[add_lit,u.cell];rfl,⟨_,λx u=>by rw[add_lit,u.cell];rfl,⟨_,λx u=>by rw[add_lit,u.cell];rfl,?_⟩⟩⟩⟩;refine mk O O λJ C j w=>⟨j.bT i id,nw (cs:=[.int .i64 (st:Int),.int .i64 g.size,.int .i64 g.aF,.int .i64 g.batch,.slice (some ⟨B.size,0,none⟩) g.n g.n,.int .i64 0]) λv3 F r A=>⟨(j.trans r).bT i id,?_⟩⟩;rw[JJ]at w;have G:=z.1;refine hR _ _ _ (((e.trans z).trans j).trans r) O (show U.size<=B.size by omega) ⟨⟨g.n,zD _,?_⟩,⟨[],?_⟩,O,by simp,hc,hf⟩
 ·have:cF.many ⟨st,List.replicate g.n false⟩=0:=by simp[cF.many,yI]
  rw[this];exact A
 ·have:nb (List.replicate g.n false)=List.replicate g.n 0:=by simp[nb]
  rw[this,kI];exact r.bT w id
end Go.Ar
namespace Go.Proofs
open Go.Vc
set_option maxRecDepth 100000
def XJ.h:Hn:=.q .o1 (.q (.q .o3 .aK) (.q .o1 (.q .gH .aL)))
def XJ.v (a:R2)(b:Hp)(c:Sl->Hp->Prop):Prop:=WG.c a b λd e=>If (!d) (c ⟨none,0,0⟩ e) (aV #[.slice none 0 0] 181 e λf g=>bE a 3 g λi=>We.c i ⟨223,#[],#[.pointer (some f)]⟩ g λj k=>bU a λl=>aR l 3 (.slice j.a j.len j.cap) k λm=>jm f m λn=>c n m)
theorem XJ.o {a b c}(d:XJ.v a b c):XJ.c a b c:=Wa Tryz.func166 (x:=XJ.h) (R0 d)
def WG.h:Hn:=.q .o1 (.q (.cS (.seq [.op,.op,.op,.cX true 6 (RI.ops 6),.op])) .l)
def WG.v (a:R2)(b:Hp)(c:aO):Prop:=bW (λd e=>c d e) λf=>If (!a.isNone) (bU a λg=>bM ((g.add 0).add 0) b λh=>f (decide (h>0)) b) (f false b)
theorem WG.o {a b c}(d:WG.v a b c):WG.c a b c:=Wa Tryz.func178 (x:=WG.h) (R0 d)
def Z7.h:Hn:=.q .o3 (.q (.q .o7 (.q .o2 .aJ)) (.q .o5 .l))
def Z7.v (a b c:Int)(d:Hp)(e:Option Addr->Int->Hp->Prop):Prop:=aV #[.I a,.I b,.I c] 137 d λf g=>aQ f 0 g λh=>aQ f 1 g λi=>aQ f 2 g λj=>Zp.c h i j g λk l m=>If (l != 0) (e none 1 m) (aQ f 0 m λn=>aQ f 1 m λo=>aQ f 2 m λp=>aV #[.I n,.I o,.I p,.slice none 0 0] 257 m λq r=>e (some q) 0 r)
theorem Z7.o {a b c d e}(f:Z7.v a b c d e):Z7.c a b c d e:=Wa Tryz.func199 (x:=Z7.h) (R0 f)
def W0.h:Hn:=.q .o2 (.q (.k (.q .o4 (.c .aL (.q .o3 .aJ)))) (.q .o1 (.q (.k (.loop [(6,.one .s)] (.q (.q .o4 (.c .l .l)) (.k (.q .o7 (.q (.q .o2 (.c .l .l)) .o5)))))) (.q .o3 .l))))
def W0.v (a:R2)(b:Int)(c:Hp)(d:Sl->Int->Hp->Prop):Prop:=WG.c a c λe f=>If (!e) (d ⟨none,0,0⟩ 5 f) (If (b<0) (d ⟨none,0,0⟩ 1 f) (X9 [.s] (λg=>g ⟨none,0,0⟩ f) λh (i:Sl) j=>If (((i.len:Nat):Int)<b) (YP.c a j λk l m=>If (!l) (d i 0 m) (aV #[.I k] 3 m λn o=>App i 1 8 3 [.I 0] ⟨some n,1,1⟩ o λp q=>h p q)) (d i 0 j)))
theorem W0.o {a b c d}(e:W0.v a b c d):W0.c a b c d:=Wa Tryz.func208 (x:=W0.h) (R0 e)
def YO.h:Hn:=.q .o1 (.q (.q .o3 .aK) (.q (.o 11) (.q (.q .o2 .aJ) (.q (.q .o6 (.k (.loop [(31,.I)] (.q .o1 (.q (.c .l .l) (.q (.k (.q .o4 (.q (.oq 17) .aK))) .o2)))))) (.q (.o 11) (.q (.o 15) .aM))))))
def YO.v (a:R2)(b:Int)(c:Hp)(d:aN):Prop:=WG.c a c λe f=>If (!e) (d 5 f) (bU a λg=>bM ((g.add 0).add 0) f λh=>bM ((g.add 0).add 1) f λi=>bM ((g.add 0).add 2) f λj=>Kr.c b h i j f λk l m=>If (l != 0) (d l m) (bE a 3 m λo=>X9 [bN] (λp=>p 0 m) λq (r:Int) s=>If (r<((o.len:Nat):Int)) (Ix o.a o.len r 3 λt=>aQ t 0 s λu=>aQ t 1 s λv=>aY t 2 s λw=>aV #[.I 0,.I 0,.pointer none] 262 s λx y=>aR x 0 (.I u) y λz=>aR x 1 (.I v) z λaa=>aR x 2 (.pointer w) aa λab=>bM ((x.add 0).add 1) ab λac=>bM ((x.add 0).add 1) ab λad=>bL ((if b>ac then b else ac)-(if b<ad then b else ad)) λae=>bU a λaf=>bM ((af.add 0).add 1) ab λag=>If (ae<ag) (d 9 ab) (bL (r+1) λah=>q ah ab)) (bE a 3 s λaj=>Wb.c aj b ⟨259,#[],#[]⟩ s λak al am=>bE a 3 am λao=>aV #[.I 0,.I b,.pointer k] 262 am λap aq=>Wf.c ao ak ⟨some ap,1,1⟩ aq λar au=>bU a λav=>aR av 3 (.slice ar.a ar.len ar.cap) au λaw=>d 0 aw)))
theorem YO.o {a b c d}(e:YO.v a b c d):YO.c a b c d:=Wa Tryz.func210 (x:=YO.h) (R0 e)
def XM.h:Hn:=.q .o2 (.j8 [] (.q .o4 (.c (.cS (.held true [6] (.tk [0,1,2] (.all [(3,.all [(4,.all [(5,.all [(6,.done)])])])])))) .l)) (.q .o5 .l))
def XM.v (a b:Int)(c:R2)(d:Addr)(e:Hp)(f:aO):Prop:=aV #[.I a,.I b,.pointer c] 262 e λg h=>Jn [] (λi=>bM ((g.add 0).add 0) i λj=>f (j==0) i) λk=>bM ((g.add 0).add 0) h λl=>If (l==0) (eN h λm=>gC m .s d λ(n:Sl)=>aU m g 2 λo=>Zz.c o h λp q r=>And (m r) <| aV #[.I p,.I q] 251 r λs t=>And (m t) <| App n 2 16 251 [.I 0,.I 0] ⟨some s,1,1⟩ t λu v=>And (m v) <| dX d (.slice u.a u.len u.cap) v λw=>k w) (k h)
theorem XM.o {a b c d e f}(g:XM.v a b c d e f):XM.c a b c d e f:=Wa Tryz.func223 (x:=XM.h) (R0 g)
def YH.h:Hn:=.q .o2 (.q (.q .o3 .aJ) (.q .o1 (.q (.q .o3 (.k (.loop [(6,.one .b),(19,.I)] (.q .o1 (.q (.c .l .l) (.q (.k (.q .o5 (.q .o8 (.q (.q .o2 (.c (.q .o3 .l) .l)) (.cS (.seq [.op,.op,.cX false 2 [.op,.op],.op,.cX false 5 (RI.ops 5),.op])))))) .o2)))))) (.q (.q .o1 .aJ) (.q (.q .o3 (.k (.loop [(49,.I)] (.q .o1 (.q (.c .l .l) (.q (.k (.q .o3 (.q .o4 (.q .o6 .gH)))) .o2)))))) (.q .o4 .l))))))
def YH.v (a:R2)(b:Sl)(c:Hp)(d:Sl->Int->Hp->Prop):Prop:=WG.c a c λe f=>If (!e) (d ⟨none,0,0⟩ 5 f) (X9 [.b,bN] (λg=>g false 0 f) λh (i:Bool) (j:Int) k=>If (j<((b.len:Nat):Int)) (Ix b.a b.len j 1 λl=>bM l k λm=>WY.c a m k λn o p=>If (o != 0) (d ⟨none,0,0⟩ o p) (bW (λq r=>bW (λs t=>bL (j+1) λu=>h s u t) λv=>If q (v true r) (eX b 1 0 j (b.cap:Nat) λw=>Wp.c w m r λx y=>v x y)) λz=>If i (z true p) (z (!n) p))) (If i (d ⟨none,0,0⟩ 9 k) (X9 [bN] (λaa=>aa 0 k) λab (ac:Int) ad=>If (ac<((b.len:Nat):Int)) (Ix b.a b.len ac 1 λae=>bM ae ad λaf=>Xy.c a af ad λag ah=>bF ag 2 ah λaj=>Zq.c aj af ah λak al=>bU ag λam=>bM ((am.add 0).add 0) al λan=>bL (an-1) λao=>bU ag λap=>dX ((ap.add 0).add 0) (.I ao) al λaq=>bL (ac+1) λar=>ab ar aq) (XJ.c a ad λau av=>d au 0 av))))
theorem YH.o {a b c d}(e:YH.v a b c d):YH.c a b c d:=Wa Tryz.func241 (x:=YH.h) (R0 e)
def YP.h:Hn:=.q .o2 (.q .o1 (.q (.q .o6 (.k (.loop [(4,.one .p),(14,.I)] (.q .o1 (.q (.c .l .l) (.q (.k (.q .o2 (.q .o7 (.q (.cS (.ib true [] [(48,.one .b)] (.tk [0,1,2,3,4,5,6,7,8] (.all [(9,.take 10 (.take 11 (.split 34 (.take 12 (.take 13 (.take 14 (.split 37 (.take 15 (.take 16 (.take 17 (.take 18 (.take 19 (.take 20 (.take 21 (.take 22 (.take 23 (.take 24 (.take 25 (.done)))))))))))) (.take 15 (.take 16 (.take 17 (.take 19 (.take 20 (.take 21 (.all [(18,.all [(22,.all [(23,.take 24 (.take 25 (.done)))])]),(22,.all [(18,.all [(23,.take 24 (.take 25 (.done)))])])]))))))))))) (.take 12 (.take 13 (.take 14 (.take 15 (.take 16 (.take 17 (.take 18 (.take 19 (.take 20 (.take 21 (.take 22 (.take 23 (.take 24 (.take 25 (.done))))))))))))))))))])))) (.c .o2 .l))))) .o2)))))) (.q (.q .o2 .aJ) (.q .gH (.q .gH (.q .o3 .l))))))
def YP.v (a:R2)(b:Hp)(c:Int->Bool->Hp->Prop):Prop:=bE a 3 b λe=>X9 [.p,bN] (λf=>f none 0 b) λg (h:R2) (i:Int) j=>If (i<((e.len:Nat):Int)) (bE a 3 j λl=>Ix l.a l.len i 3 λm=>Jn [.b] (λ(n:Bool) o=>If n (bL (i+1) λp=>g (some m) p o) (bL (i+1) λq=>g h q o)) λr=>eN j λs=>bU (some m) λt=>gC s bN ((t.add 0).add 0) λ(u:Int)=>bU (some m) λv=>aU s v 2 λw=>Ye.c w j λx y=>And (s y) <| If (u<x) (If h.isNone (r true y) (bU (some m) λz=>bU h λaa=>(bM ((z.add 0).add 0) y λab=>bM ((z.add 0).add 1) y λac=>And (s y) <| bM ((aa.add 0).add 0) y λad=>bM ((aa.add 0).add 1) y λae=>And (s y) <| WW.c ab ac ad ae y λaf ag=>And (s ag) <| r af ag) ∧ (bM ((aa.add 0).add 0) y λah=>bM ((aa.add 0).add 1) y λai=>And (s y) <| bM ((z.add 0).add 0) y λaj=>bM ((z.add 0).add 1) y λak=>And (s y) <| WW.c aj ak ah ai y λal am=>And (s am) <| r al am))) (r false y)) (If h.isNone (c 0 false j) (bF h 2 j λao=>Zh.c ao j λap aq ar=>bU h λau=>bM ((au.add 0).add 0) ar λav=>bL (av+1) λaw=>bU h λax=>dX ((ax.add 0).add 0) (.I aw) ar λay=>c ap true ay))
theorem YP.o {a b c}(d:YP.v a b c):YP.c a b c:=Wa Tryz.func252 (x:=YP.h) (R0 d)
def Yu.h:Hn:=.q .o2 (.q .o6 .l)
def Yu.v (a b:Int)(c:R2)(d:Int)(e:Hp)(f:aN):Prop:=aV #[.I a,.I b,.pointer c] 262 e λg h=>bM ((g.add 0).add 1) h λi=>bL (i-d) λj=>f j h
theorem Yu.o {a b c d e f}(g:Yu.v a b c d e f):Yu.c a b c d e f:=Wa Tryz.func259 (x:=Yu.h) (R0 g)
def Yd.h:Hn:=.q .o2 (.q (.q .o3 .aJ) (.q .o4 (.q (.q .o2 .aJ) (.q (.o 11) (.q (.oq 16) .l)))))
def Yd.v (a:R2)(b:Int)(c:Hp)(d:Int->Int->Hp->Prop):Prop:=WG.c a c λe f=>If (!e) (d 0 5 f) (Xy.c a b f λg h=>If g.isNone (d 0 8 h) (bF g 2 h λj=>X8.c j b h λk l m=>bU g λn=>bM ((n.add 0).add 1) m λo=>bL (o*256) λp=>bU a λq=>bM ((q.add 0).add 0) m λr=>bL (k*r) λs=>bL (p+s) λt=>d t 0 m))
theorem Yd.o {a b c d}(e:Yd.v a b c d):Yd.c a b c d:=Wa Tryz.func262 (x:=Yd.h) (R0 e)
def WY.h:Hn:=.q .o2 (.q (.q .o3 .aJ) (.q .o4 (.q (.q .o2 .aJ) (.q .gH .l))))
def WY.v (a:R2)(b:Int)(c:Hp)(d:Bool->Int->Hp->Prop):Prop:=WG.c a c λe f=>If (!e) (d false 5 f) (Xy.c a b f λg h=>If g.isNone (d false 8 h) (bF g 2 h λj=>Yb.c j b h λk l m=>d k l m))
theorem WY.o {a b c d}(e:WY.v a b c d):WY.c a b c d:=Wa Tryz.func265 (x:=WY.h) (R0 e)
def Xy.h:Hn:=.q .o1 (.q (.q .o6 (.k (.loop [(13,.I)] (.q .o1 (.q (.c .l .l) (.q (.k (.q .o2 (.q (.o 15) (.q .o2 (.c (.q .o7 .l) .l))))) .o2)))))) .aM)
def Xy.v (a:R2)(b:Int)(c:Hp)(d:Option Addr->Hp->Prop):Prop:=bE a 3 c λf=>X9 [bN] (λg=>g 0 c) λh (i:Int) j=>If (i<((f.len:Nat):Int)) (bE a 3 j λl=>Ix l.a l.len i 3 λm=>aY m 2 j λn=>X8.c n b j λo p q=>If (p==0) (bE a 3 q λs=>Ix s.a s.len i 3 λt=>d (some t) q) (bL (i+1) λu=>h u q)) (d none j)
theorem Xy.o {a b c d}(e:Xy.v a b c d):Xy.c a b c d:=Wa Tryz.func277 (x:=Xy.h) (R0 e)
def WW.h:Hn:=.q .o3 (.q (.cS (.seq [.op,.op,.op,.op,.op,.op,.cX false 12 [.op,.op,.op,.op,.op,.op,.cX true 5 (RI.ops 5)],.op])) .l)
def WW.v (a b c d:Int)(e:Hp)(f:aO):Prop:=aV #[.I a,.I b] 259 e λg h=>aV #[.I c,.I d] 259 h λi j=>aQ g 0 j λk=>aQ i 0 j λl=>bW (λm n=>f m n) λo=>If (k>l) (o true j) (aQ g 0 j λp=>aQ i 0 j λq=>bW (λr s=>o r s) λt=>If (p==q) (aQ g 1 j λu=>aQ i 1 j λv=>t (decide (u<v)) j) (t false j))
theorem WW.o {a b c d e f}(g:WW.v a b c d e f):WW.c a b c d e f:=Wa Tryz.func282 (x:=WW.h) (R0 g)
end Go.Proofs
namespace Go.Ar
open Go Go.Vc Go.Proofs
variable {U:Hp}{F:Rg}{p:Nat}{c:bZ}{ps:List (Nat×Nat)}{ss:List cF}
def dY (ps:List (Nat×Nat)):List Nat:=ps.flatMap λx=>[x.1,x.2]
theorem Hg {ps:List (Nat×Nat)}{b:Nat}:b∈dY ps↔∃x∈ps,b=x.1\/b=x.2:=by simp[dY]
def dP:List (Nat×Nat)->List cF->List Value
 | x::ps,s::ss=>.int .i64 (s.many:Int) :: .int .i64 (s.st:Int) :: .pointer (some ⟨x.1,0,none⟩)::dP ps ss
 | _,_=>[]
theorem QT:∀{ps:List (Nat×Nat)} {ss:List cF},ps.length=ss.length->(dP ps ss).length=3*ss.length
 | [],[],_=>rfl
 | x::ps,s::ss,h=>by simp only[dP,zY]at *;rw[QT O];omega
theorem QE:∀{ps:List (Nat×Nat)} {ss:List cF} {i:Nat} {x:Nat×Nat} {s:cF},ps[i]?=some x->ss[i]?=some s →
 (dP ps ss)[3*i]?=some (.int .i64 (s.many:Int))/\(dP ps ss)[3*i+1]?=some (.int .i64 (s.st:Int))/\(dP ps ss)[3*i+2]?=some (.pointer (some ⟨x.1,0,none⟩))
 | [],_,_,_,_,h,_=>by simp at h
 | _::_,[],_,_,_,_,h=>by simp at h
 | y::ps,t::ss,0,x,s,h1,h2=>by simp at h1 h2;subst h1;subst h2;simp[dP]
 | y::ps,t::ss,i+1,x,s,h1,h2=>by
  have:=QE (ps:=ps) (ss:=ss) (i:=i) (by simpa using h1) (by simpa using h2);simp only[dP];rw[show 3*(i+1)=3*i+3 by omega];simpa using this
theorem KY:∀{ps ps':List (Nat×Nat)} {ss ss':List cF},ps.length=ss.length->dP (ps++ps') (ss++ss')=dP ps ss++dP ps' ss'
 | [],_,[],_,_=>rfl
 | x::ps,_,s::ss,_,h=>by simp only[lp,dP,KY (ps:=ps) (ss:=ss) (by simpa using h)]
theorem Dv:∀{ps:List (Nat×Nat)} {ss:List cF},∀v∈dP ps ss,dN v=true
 | [],_,v,h=>by simp[dP]at h
 | _::_,[],v,h=>by simp[dP]at h
 | x::ps,s::ss,v,h=>by
  simp only[dP,zW]at h;rcases h with rfl|rfl|rfl|h
  ·rfl
  ·rfl
  ·rfl
  ·exact Dv v h
structure fB (U:Hp) (F:Rg) (p:Nat) (c:bZ) (ps:List (Nat×Nat)) (ss:List cF):Prop where
 hd:∃sl:Sl,bY U p [.int .i64 (c.size:Int),.int .i64 (c.aF:Int),.int .i64 (c.batch:Int),.slice sl.a sl.len sl.cap]/\bR sl 3 (dP ps ss) U (λb=>F b/\b≠p/\b∉dY ps)
 sp:∀(i:Nat) (x:Nat×Nat) s,ps[i]?=some x->ss[i]?=some s->gV U x.1 x.2 c s
 fp:F p
 fb:∀b∈dY ps,F b
 nd:(p::dY ps).Nodup
 len:ps.length=ss.length
 ok:c.ok
 py:ss.Pairwise (λa b=>a.st<b.st)
theorem fB.loc:dM λU F=>fB U F p c ps ss:=λU D F G h H m=>by
 obtain⟨sl,a,A⟩:=h.hd;have bS:∀b,b<U.size->F b->D[b]?=U[b]? := λb a d=>(m b a d).2;have y:∀{b:Nat} {cs:List Value},bY U b cs->F b->bY D b cs:=by
  rintro b cs ⟨e,B⟩ d;exact⟨e,(bS b (bY.lt ⟨e,B⟩) d).trans B⟩
 have lt:∀b∈dY ps,b<U.size:=by
  intro b a;obtain⟨x,j,u⟩:=Hg.1 a;obtain⟨i,C⟩:=zQ j;have z:=(cW.1 C).1;have:=(h.sp i x _ C (cT (by rw[←h.len];exact z))).lt;rcases u with rfl|rfl
  ·exact this.1
  ·exact this.2
 refine⟨⟨sl,y a h.fp,bR.loc _ _ _ _ _ _ _ A H λb a d=>⟨⟨(m b a d.1).1,d.2⟩,(m b a d.1).2⟩⟩,λi x s j w=>?_,(m p a.lt h.fp).1,λb a=>(m b (lt b a) (h.fb b a)).1,h.nd,h.len,h.ok,h.py⟩;have g:=h.sp i x s j w;have L:x.1∈dY ps:=Hg.2 ⟨x,zG j,.inl rfl⟩;have E:x.2∈dY ps:=Hg.2 ⟨x,zG j,.inr rfl⟩;obtain⟨J,K,hd⟩:=g.hd;obtain⟨r,A⟩:=g.row;exact⟨⟨J,K,y hd (h.fb _ L)⟩,⟨r,y A (h.fb _ E)⟩,g.ne,g.len,g.ok,g.fit⟩
theorem fB.bO {σ':Hp}(h:fB U F p c ps ss)(e:bK U σ'):fB σ' F p c ps ss:=dM.bO fB.loc h e
theorem fB.pJ (h:fB U F p c ps ss):ss.length<=1024:=by
 have key:∀i (hi:i<ss.length),i<=ss[i].st:=by
  intro i
  induction i with
  | zero=>intro _;omega
  | succ i ih=>
   intro hi;have e:=ih O;have b:=k6.1 h.py i (i+1) O hi O;omega
 rcases AY ss.length with h0|h0
 ·omega
 ·have a:ss.length-1<ss.length:=by omega
  have e:=key _ a;have d:ss.length-1<ps.length:=by rw[h.len];exact a
  have b:=(h.sp _ _ _ (cT d) (cT a)).fit;have:=h.ok.2.2.2.1;omega
structure rh (U:Hp) (F:Rg) (p:Nat) (ps:List (Nat×Nat)) (ss:List cF) (sl:Sl) (rb:Nat) (cs:List Value):Prop where
 a:sl.a=some ⟨rb,0,none⟩
 bT:bY U rb cs
 fr:F rb/\rb≠p/\rb∉dY ps
 get:∀{j:Nat} {v:Value},(dP ps ss)[j]?=some v->cs[j]?=some v
 Ao:3*ss.length<=cs.length
theorem fB.sl (h:fB U F p c ps ss):∃sl:Sl,bY U p [.int .i64 (c.size:Int),.int .i64 (c.aF:Int),.int .i64 (c.batch:Int),.slice sl.a sl.len sl.cap]/\sl.len=ss.length/\(ss≠[]->∃rb cs,rh U F p ps ss sl rb cs):=by
 obtain⟨sl,m,g⟩:=h.hd;have r:=g.1;rw[QT h.len]at r;refine⟨sl,m,O,λe=>?_⟩;have i:0<ss.length:=pX.2 e;rcases g.2 with⟨h0,_⟩|⟨b,cs,hq,ha,hbb,hle,hcl,ht⟩
 ·omega
 ·refine⟨b,cs,ha,hbb,hq,λ{j v} d=>?_,?_⟩
  ·rw[←ht,zj]at d;split at d
   ·exact d
   ·cases d
  ·have:=congrArg List.length ht;rw[zZ,QT h.len]at this;omega
theorem fB.jD (h:fB U F p c ps ss){i:Nat}(hi:i<ss.length):∃x s,ps[i]?=some x/\ss[i]?=some s/\gV U x.1 x.2 c s:=by
 have a:i<ps.length:=by rw[h.len];exact hi
 have b:ps[i]?=some ps[i]:=cT a;exact⟨_,_,b,cT hi,h.sp i _ _ b (cT hi)⟩
theorem VQ (h:fB U F p c ps ss){R:aO}(hR:R true U):WG.c (aW p) U R:=by
 refine WG.o ?_;unfold WG.v;obtain⟨sl,a,d,e⟩:=h.sl;have b:=h.ok;unfold bZ.ok at b;refine bW.intro (cD rfl (aG (a.eY rfl ?_)));rw[zJ O];exact hR
def iE (x:Int):Prop:=x<=9223372036854775807
theorem AM (h:fB U F p c ps ss)(x:Int)(hx:iE x){R:Option Addr->Hp->Prop}(h0:kL c ss x=none->R none U)
 (h1:∀(i:Nat) sl rb cs,kL c ss x=some i->i<ss.length->bY U p [.int .i64 (c.size:Int),.int .i64 (c.aF:Int),.int .i64 (c.batch:Int),.slice sl.a sl.len sl.cap]->rh U F p ps ss sl rb cs->R (some ⟨rb,3*i,none⟩) U):Xy.c (aW p) x U R:=by
 refine Xy.o ?_;unfold Xy.v;obtain⟨sl,A,Q,P⟩:=h.sl;have G:=h.pJ;refine aG (A.rS rfl ?_);refine Z0 (a:=bN) (λ(t:Int) D=>∃i:Nat,t=(i:Int)/\i<=ss.length/\D=U/\∀(j:Nat) s,j<i->ss[j]?=some s->idx c s x=none) (λt _=>ss.length-t.toNat) ⟨0,rfl,O,rfl,λj s z=>O⟩ ?_;rintro t D ⟨i,rfl,S,rfl,g⟩;refine cQ (λC=>?_) λB=>?_
 ·simp only at C;have b:i<ss.length:=by omega
  obtain⟨N,s,M,y,J⟩:=h.jD b;obtain⟨rb,cs,E⟩:=P (by rintro rfl;simp at b);have K:=QE M y;refine aG (A.rS rfl ?_);rw[E.a];refine ix O O ?_;rw[add_lit];refine E.bT.rP (x:=some ⟨N.1,0,none⟩) ?_ ?_
  ·have:=E.get K.2.2;rw[show 0+(i:Int).toNat*3+2=3*i+2 by omega];exact this
  have w:∀r,idx c s x=some r->kL c ss x=some i:=by
   intro r d;refine ng.2 ⟨b,?_,λj z=>?_⟩
   ·have:ss[i]=s:=by rw[cT b]at y;simpa using y
    rw[this,d];rfl
   ·rw[g j _ z (cT O)];simp
  refine AF J x hx (λr d=>cD rfl (aG (A.rS rfl ?_))) λL=>cB rfl ?_
  ·rw[E.a];refine ix O O ?_;rw[add_lit,show 0+(i:Int).toNat*3=3*i by omega];exact h1 i sl rb cs (w r d) b A E
  ·refine cP (m:=i+1) O O ⟨⟨i+1,rfl,O,rfl,λj H z u=>?_⟩,O⟩;by_cases e:j=i
   ·subst e;rw[y]at u;cases u;exact L
   ·exact g j H O u
 ·refine h0 ?_;refine tY.2 λs y=>?_;obtain⟨j,z⟩:=zQ y;have:=(cW.1 z).1;rw[g j s (by simp only at B;omega) z];rfl
theorem VC {x:Int}{k:Nat}{s:cF}(hk:kL c ss x=some k)(hs:ss[k]?=some s):dV c ss x=(obj c s x).map s.is:=by
 unfold dV;rw[hk];simp only[hs];rfl
theorem G4 {x:Int}(hk:kL c ss x=none):dV c ss x=none:=by unfold dV;rw[hk]
theorem CY (h:fB U F p c ps ss)(x:Int)(hx:iE x){R:Bool->Int->Hp->Prop}(h1:∀b,dV c ss x=some b->R b 0 U)(h0:dV c ss x=none->R false 8 U):WY.c (aW p) x U R:=by
 refine WY.o ?_;unfold WY.v;refine VQ h (cB rfl (AM h x hx (λd=>cD rfl (h0 (G4 d))) λi sl B A a y C E=>cB rfl (aG ?_)));obtain⟨m,s,r,g,u⟩:=h.jD y;have w:=QE r g;refine E.bT.rP (x:=some ⟨m.1,0,none⟩) (E.get w.2.2) ?_;have e:=VC a g;exact LO u x hx (λj z=>h1 _ (by rw[e,z];rfl)) λd=>h0 (by rw[e,d];rfl)
theorem HV {x:Int}{k:Nat}{s:cF}(hk:kL c ss x=some k)(hs:ss[k]?=some s):qC c ss x=(idx c s x).map (at_ c s):=by
 unfold qC;rw[hk];simp only[hs]
theorem Ct {x:Int}(hk:kL c ss x=none):qC c ss x=none:=by unfold qC;rw[hk]
theorem LJ {x:Int}{k:Nat}{s:cF}(hk:kL c ss x=some k)(hs:ss[k]?=some s):∃i,idx c s x=some i:=by
 obtain⟨b,a,_⟩:=ng.1 hk;have:ss[k]=s:=by rw[cT b]at hs;simpa using hs
 rw[this]at a;exact pW.1 a
theorem Su (h:fB U F p c ps ss)(x:Int)(hx:iE x){R:Int->Int->Hp->Prop}(h1:∀a,qC c ss x=some a->R (a:Int) 0 U)(h0:qC c ss x=none->R 0 8 U):Yd.c (aW p) x U R:=by
 refine Yd.o ?_;unfold Yd.v;refine VQ h (cB rfl (AM h x hx (λd=>cD rfl (h0 (Ct d))) λi sl L J e A G E=>cB rfl (aG ?_)));obtain⟨C,s,B,u,j⟩:=h.jD A;have y:=QE B u;obtain⟨r,g⟩:=LJ e u;have H:=HV e u;have D:=h.ok;unfold bZ.ok at D;have w:=((VO O).1 g).2.2;rw[j.len]at w;have d:=h.ok.kq;have z:=j.fit;have K:r*c.size<=128*512:=l0 O O;refine E.bT.rP (x:=some ⟨C.1,0,none⟩) (E.get y.2.2) ?_;refine AF j x hx (λM b=>?_) λd=>by rw[g]at d;cases d
 rw[g]at b;cases b;refine aG (E.bT.eY (x:=s.st) (E.get y.2.1) (cP (m:=s.st*256) aA O (aG (G.eY rfl ?_))));refine cP (m:=r*c.size) aA O (cP (m:=at_ c s r) (by simp[at_]) (by unfold at_;omega) (h1 _ (by rw[H,g];rfl)))
theorem wN {h:Hp}{rb i:Nat}{cs:List Value}{x y:Int}{z:Option Addr}{e:Nat}(hb:bY h rb cs)(h0:cs[3*i]?=some (.int .i64 x))(h1:cs[3*i+1]?=some (.int .i64 y))(h2:cs[3*i+2]?=some (.pointer z))
 {K:Int->Int->Option Addr->Prop} (hK:K x y z):gA .i64 (Addr.add ⟨rb,3*i,none⟩ 0) h λu=>gA .i64 (Addr.add ⟨rb,3*i,none⟩ 1) h λv=>fW (Addr.add ⟨rb,3*i,none⟩ 2) h λw=>K u v w:=
 hb.rI h0 (hb.rI h1 (hb.rP h2 hK))
theorem EZ {h:Hp}{x y:Int}{z:Option Addr}{e:Nat}{K:Addr->Hp->Prop}(hK:∀h',bK h h'->bY h' h.size [.int .i64 x,.int .i64 y,.pointer z]->K ⟨h.size,0,none⟩ h') :
 Nw (.cells #[.int .i64 0,.int .i64 0,.pointer none] e (0,0)) h λn v=>dX (n.add 0) (.int .i64 x) v λv1=>dX (n.add 1) (.int .i64 y) v1 λv2=>dX (n.add 2) (.pointer z) v2 λv3=>K n v3:=by
 refine nw (cs:=[.int .i64 0,.int .i64 0,.pointer none]) λv m e j=>j.s1 aA λv1 o1 g=>g.s1 aA λv2 o2 b=>b.s1 aA λv3 o3 d=>?_;refine hK v3 ?_ d;exact Ext.fresh (Ext.fresh (Ext.fresh e o1.ext λi a=>O) o2.ext λi a=>O) o3.ext λi a=>by omega
def iI (c:bZ)(l:List Nat):List Value:=l.flatMap λ(s:Nat)=>[.int .i64 (s:Int),.int .i64 (c.aF:Int)]
theorem IA (c:bZ)(l:List Nat):(iI c l).length=2*l.length:=by
 induction l with
 | nil=>rfl
 | cons x l ih=>simp only[iI,nG,zO,zY,lE]at *;omega
theorem MT (hc:c.ok){R:Option Addr->Int->Hp->Prop}(hR:∀σ' p,bK U σ'->U.size<=p->p<σ'.size->fB σ' (· = p) p c [] []->R (some ⟨p,0,none⟩) 0 σ'):Z7.c c.size c.aF c.batch U R:=by
 refine Z7.o ?_;unfold Z7.v;refine nw (cs:=[.int .i64 c.size,.int .i64 c.aF,.int .i64 c.batch]) λv y e d=>?_;refine d.rI rfl (d.rI rfl (d.rI rfl (Fb _ _ _ (λs m e1 e2 u w g=>?_) λb=>?_)))
 case refine_2=>rw[(DE c).2 hc]at b;cases b
 have a:=g.bT d id;refine cB rfl (a.rI rfl (a.rI rfl (a.rI rfl (nw (cs:=[.int .i64 c.size,.int .i64 c.aF,.int .i64 c.batch,.slice none 0 0]) λx r i j=>?_))));exact hR _ _ ((e.trans g).trans i) (by have:=g.1;omega) O ⟨⟨⟨none,0,0⟩,j,bR.nil _ _ _ _⟩,by simp,rfl,by simp[dY],by simp[dY],rfl,hc,by simp⟩
theorem PX (a b a' b':Nat){R:aO}(hR:∀σ',bK U σ'->R (decide (a>a')||(a==a'&&decide (b<b'))) σ'):WW.c (a:Int) (b:Int) (a':Int) (b':Int) U R:=by
 refine WW.o ?_;unfold WW.v;refine nw (cs:=[.int .i64 a,.int .i64 b]) λv s e m=>nw (cs:=[.int .i64 a',.int .i64 b']) λr p e1 g=>?_;have i:=e1.bT m id;have d:=hR _ (e.trans e1);refine i.rI rfl (g.rI rfl (bW.intro (cQ (λh=>?_) λh=>?_)))
 ·have:decide (a>a')=true:=by simpa using h
  rw[this,Bool.true_or]at d;exact d
 ·have:decide (a>a')=false:=by simpa using h
  rw[this,yi]at d;refine i.rI rfl (g.rI rfl (bW.intro ?_));rw[lR];refine cO (λj=>?_) λj=>?_
  ·rw[j,qp]at d;refine i.rI rfl (g.rI rfl ?_);have:decide ((b:Int)<(b':Int))=decide (b<b'):=by rw[decide_eq_decide];omega
   rw[this];exact d
  ·rw[j,ug]at d;exact d
theorem QK:∀{i k:Nat},Y9 ss i=some k->k<i/\∃s,ss[k]?=some s/\s.many<s.tk.length
 | 0,_,h=>by simp[Y9]at h
 | i+1,k,h=>by
  have up:Y9 ss i=some k->k<i+1/\∃s,ss[k]?=some s/\s.many<s.tk.length:=λh=>by
   have:=QK h;exact⟨O,this.2⟩
  simp only[Y9]at h;split at h
  ·rename_i x hx;split at h
   ·rename_i hlt;have a:i<i+1/\∃s,ss[i]?=some s/\s.many<s.tk.length:=⟨O,x,hx,hlt⟩;split at h
    ·rename_i j hj;split at h
     ·split at h
      ·cases h;exact a
      ·cases h;exact up hj
     ·cases h;exact a
    ·cases h;exact a
   ·exact up h
  ·exact up h
theorem Gj {s:cF}(h:s.many<s.tk.length):∃i,low s=some i/\i<s.tk.length/\s.is i=false:=by
 unfold low;cases hf:s.tk.findIdx? (· == false)with
 | some i=>
  obtain⟨a,b,_⟩:=ng.1 hf;refine⟨i,rfl,a,?_⟩;have:s.tk[i]=false:=by simpa using b
  simp[cF.is,zP,cT a,this]
 | none=>
  exfalso;have d:=tY.1 hf;have:s.many=s.tk.length:=by
   unfold cF.many;rw[List.count_eq_length];intro x hx;have:=d x hx;cases x
   ·simp at this
   ·rfl
  omega
theorem Cz:∀{ps:List (Nat×Nat)} {ss:List cF} {k:Nat} {s s':cF},ps.length=ss.length->ss[k]?=some s->s'.st=s.st->dP ps (ss.set k s')=(dP ps ss).set (3*k) (.int .i64 (s'.many:Int))
 | [],[],_,_,_,_,h,_=>by simp at h
 | [],_::_,_,_,_,h,_,_=>by simp at h
 | _::_,[],_,_,_,_,h,_=>by simp at h
 | x::ps,t::ss,0,s,s',_,h,e=>by simp at h;subst h;simp[dP,e]
 | x::ps,t::ss,k+1,s,s',hl,h,e=>by
  simp only[rK,dP];rw[Cz (ps:=ps) (ss:=ss) (s:=s) (by simpa using hl) (by simpa using h) e];rw[show 3*(k+1)=3*k+1+1+1 by omega];simp
theorem I4 {h:Hp}{b:Nat}{cs cs':List Value}(h1:bY h b cs)(h2:bY h b cs'):cs=cs':=by
 obtain⟨e,d⟩:=h1;obtain⟨g,a⟩:=h2;rw[d]at a;simp only[Option.some.injEq,Obj.cells.injEq]at a;simpa using congrArg Array.toList a.1
theorem Qi {x:Nat×Nat}{i:Nat}(hx:ps[i]?=some x):x.1∈dY ps/\x.2∈dY ps:=
 ⟨Hg.2 ⟨x,zG hx,.inl rfl⟩,Hg.2 ⟨x,zG hx,.inr rfl⟩⟩
theorem Iw:∀{ps:List (Nat×Nat)},(dY ps).Nodup->∀{i j:Nat} {x y:Nat×Nat},ps[i]?=some x->ps[j]?=some y->i≠j->∀b,(b=x.1\/b=x.2)->¬(b=y.1\/b=y.2)
 | [],_,_,_,_,_,h,_,_=>by simp at h
 | z::ps,hn,i,j,x,y,h1,h2,hij=>by
  have hn':z.1∉dY ps/\z.2∉dY ps/\z.1≠z.2/\(dY ps).Nodup:=by
   simp only[dY,nG,lp,tN,zt,zW,not_or]at hn;exact⟨hn.1.2,hn.2.1,hn.1.1,hn.2.2⟩
  intro b hb hb'
  match i,j,hij with
  | 0,0,h=>exact h rfl
  | 0,j+1,_=>
   simp at h1;subst h1;have:=Qi (ps:=ps) (i:=j) (by simpa using h2);rcases hb with rfl|rfl<;>rcases hb' with e|e<;>rw[e]at hn'<;>simp[this]at hn'
  | i+1,0,_=>
   simp at h2;subst h2;have:=Qi (ps:=ps) (i:=i) (by simpa using h1);rcases hb with rfl|rfl<;>rcases hb' with e|e<;>rw[←e]at hn'<;>simp[this]at hn'
  | i+1,j+1,h=>exact Iw hn'.2.2.2 (by simpa using h1) (by simpa using h2) O b hb hb'
theorem fB.lN (h:fB U F p c ps ss){k:Nat}{x:Nat×Nat}{s s':cF}(hx:ps[k]?=some x)(hs:ss[k]?=some s)(hst:s'.st=s.st){σ1:Hp}(e1:Ext (λb=>b=x.1\/b=x.2) U σ1)(hS:gV σ1 x.1 x.2 c s')
 {sl:Sl} {rb:Nat} {cs:List Value} (hb:bY U p [.int .i64 (c.size:Int),.int .i64 (c.aF:Int),.int .i64 (c.batch:Int),.slice sl.a sl.len sl.cap]) (E:rh U F p ps ss sl rb cs)
 {K:aP} (hK:∀σ2,Ext F U σ2->fB σ2 F p c ps (ss.set k s')->K σ2):dX ⟨rb,3*k,none⟩ (.int .i64 (s'.many:Int)) σ1 K:=by
 obtain⟨mL,H,Q⟩:=h.hd;have A:mL=sl:=by
  have:=I4 H hb;simp at this;obtain⟨a,n,c⟩:=sl;obtain⟨W,V,S⟩:=mL;simp at this ⊢;exact this
 subst A;have g:=Qi hx;have e:=h.nd;simp only[zt]at e;have u:=(cW.1 hs).1;have B:=(bR.loc mL 3 (dP ps ss)).bS Q e1 λb hb P=>λd=>P.2.2 (by rcases d with rfl|rfl;exact g.1;exact g.2);have C:=e1.bT hb λd=>e.1 (by rcases d with h|h<;>rw[h];exact g.1;exact g.2)
 refine B.st (j:=3*k) (by rw[QT h.len];omega) (λb w=>by rw[E.a]at w;cases w;rfl) λσ2 e2 D=>?_;have J:Ext F U σ2:=(e1.sub λi G=>h.fb i (by rcases G with rfl|rfl;exact g.1;exact g.2)).trans (e2.sub λi G=>G.1);refine hK σ2 J ⟨⟨mL,e2.bT C λd=>d.2.1 rfl,?_⟩,λi y t m z=>?_,h.fp,h.fb,h.nd,by simpa using h.len,h.ok,?_⟩
 ·rw[Cz h.len hs hst];exact D
 ·have r:=Qi m;have N:gV σ1 y.1 y.2 c t:=by
   by_cases hik:i=k
   ·subst hik;rw[hx]at m;cases m;rw[zL u]at z;cases z;exact hS
   ·rw[zk (Ne.symm hik)]at z;have L:=Iw e.2 m hx hik;exact(h.sp i y t m z).bS e1 (L _ (.inl rfl)) (L _ (.inr rfl))
  exact N.bS e2 (λd=>d.2.2 r.1) (λd=>d.2.2 r.2)
 ·have:(ss.set k s').map (·.st)=ss.map (·.st):=by
   apply zp;intro i;simp only[za];by_cases hik:i=k
   ·subst hik;rw[zL u,hs];simp[hst]
   ·rw[zk (Ne.symm hik)]
  have M:=h.py;rw[←p8 (f:=cF.st) (R:=(· < ·))]at M ⊢;rw[this];exact M
theorem MX (h:fB U F p c ps ss){R:Int->Bool->Hp->Prop}(h1:∀x ss',iW c ss=some (x,ss')->∀σ',Ext F U σ'->fB σ' F p c ps ss'->R (x:Int) true σ')(h0:iW c ss=none->∀σ',bK U σ'->R 0 false σ') :
 YP.c (aW p) U R:=by
 refine YP.o ?_;unfold YP.v;obtain⟨sl,Y,hl,hr⟩:=h.sl;have hfew:=h.pJ;have hn:=h.ok.kq;obtain⟨d,cs,E⟩:∃d cs,ss≠[]->rh U F p ps ss sl d cs:=by
  by_cases hne:ss=[]
  ·exact⟨0,[],λh=>absurd hne h⟩
  ·obtain⟨d,cs,E⟩:=hr hne;exact⟨d,cs,λ_=>E⟩
 refine aG (Y.rS rfl ?_);refine UC (a:=.p) (bb:=bN) (λ(iH:Option Addr) (t:Int) G=>∃i:Nat,t=(i:Int)/\i<=ss.length/\bK U G/\iH=(Y9 ss i).map λk=>⟨d,3*k,none⟩) (λ_ t _=>ss.length-t.toNat) ⟨0,rfl,O,Ext.refl _ _,rfl⟩ ?_;rintro iH t G ⟨i,rfl,hi,e,rfl⟩;refine cQ (λZ=>?_) λae=>?_
 ·simp only at Z;have K:i<ss.length:=by omega
  have E:=E (by rintro rfl;simp at K);obtain⟨P,s,N,H,z⟩:=h.jD K;have w:=QE N H;have W:=z.len;refine aG ((e.bT Y id).rS rfl ?_);rw[E.a];refine ix O O ?_;rw[add_lit,show 0+(i:Int).toNat*3=3*i by omega];have Eb:=e.bT E.bT id;have C:Y9 ss (i+1)=if s.many<s.tk.length then(match Y9 ss i with
   | some j=>match ss[j]? with
    | some y=>if vU s y then some i else some j
    | none=>some i
   | none=>some i)else Y9 ss i:=by
   simp only[Y9,H];rfl
  have J:∀(r:Bool) (v:Hp),bK U v->(if r then some i else Y9 ss i)=Y9 ss (i+1) →
   If r (Ar .i64 ((i:Int)+1) λb=>(∃j:Nat,b=(j:Int)/\j<=ss.length/\bK U v/\some (⟨d,3*i,none⟩:Addr)=(Y9 ss j).map λk=>⟨d,3*k,none⟩)/\ss.length-b.toNat<ss.length-(i:Int).toNat)
    (Ar .i64 ((i:Int)+1) λb=>(∃j:Nat,b=(j:Int)/\j<=ss.length/\bK U v/\((Y9 ss i).map λk=>(⟨d,3*k,none⟩:Addr))=(Y9 ss j).map λk=>⟨d,3*k,none⟩)/\ss.length-b.toNat<ss.length-(i:Int).toNat):=by
   intro r v ev hr';cases r
   ·refine cB rfl (cP (m:=i+1) O O ⟨⟨i+1,rfl,O,ev,?_⟩,O⟩);rw[←hr'];rfl
   ·refine cD rfl (cP (m:=i+1) O O ⟨⟨i+1,rfl,O,ev,?_⟩,O⟩);rw[←hr'];rfl
  refine Jn.intro ⟨λD=>bY D d cs,Eb,aG ⟨_,λD z=>by rw[add_lit,add_lit,z.cell];exact E.get w.1,aG ⟨_,λD z=>by rw[add_lit,z.cell];exact E.get w.2.2,?_⟩⟩⟩;refine L5 (z.bO e) ⟨Eb,?_⟩;refine cQ (λhlt2=>?_) λhge2=>?_
  ·have hm:s.many<s.tk.length:=by omega
   rw[zC hm]at C;cases hbf:Y9 ss i with
   | none=>
    rw[hbf]at C J;exact cD rfl (J true G e C.symm)
   | some j=>
    rw[hbf]at C J;obtain⟨hji,y,hy,hym⟩:=QK hbf;simp only[hy]at C;have V:j<ps.length:=by rw[h.len];omega
    have A:=QE (cT V) hy;have fin:WW.c (s.many:Int) (s.st:Int) (y.many:Int) (y.st:Int) G λaa v3=>bY v3 d cs ∧
     If aa (Ar .i64 ((i:Int)+1) λb=>(∃j:Nat,b=(j:Int)/\j<=ss.length/\bK U v3/\some (⟨d,3*i,none⟩:Addr)=(Y9 ss j).map λk=>⟨d,3*k,none⟩)/\ss.length-b.toNat<ss.length-(i:Int).toNat)
      (Ar .i64 ((i:Int)+1) λb=>(∃j':Nat,b=(j':Int)/\j'<=ss.length/\bK U v3/\((some j).map λk=>(⟨d,3*k,none⟩:Addr))=(Y9 ss j').map λk=>⟨d,3*k,none⟩)/\ss.length-b.toNat<ss.length-(i:Int).toNat):=by
     refine PX _ _ _ _ λv3 e3=>⟨e3.bT Eb id,J _ v3 (e.trans e3) ?_⟩;rw[C];rfl
    refine cB rfl (aG (aG ⟨?_,?_⟩))
    ·exact Eb.eY (E.get w.1) (Eb.eY (E.get w.2.1) ⟨Eb,Eb.eY (E.get A.1) (Eb.eY (E.get A.2.1) ⟨Eb,fin⟩)⟩)
    ·exact Eb.eY (E.get A.1) (Eb.eY (E.get A.2.1) ⟨Eb,Eb.eY (E.get w.1) (Eb.eY (E.get w.2.1) ⟨Eb,fin⟩)⟩)
  ·have hm:¬s.many<s.tk.length:=by omega
   rw[zB hm]at C;exact J false G e C.symm
 ·have ad:i=ss.length:=by simp only at ae;omega
  subst ad;cases hbf:Y9 ss ss.length with
  | none=>
   refine cD rfl (h0 ?_ _ e);simp[iW,iH,hbf]
  | some k=>
   obtain⟨hk,s,H,ab⟩:=QK hbf;have E:=E (by rintro rfl;simp at hk);obtain⟨P,s',N,L,z⟩:=h.jD hk;rw[H]at L;cases L;have w:=QE N H;obtain⟨r,B,Q,ac⟩:=Gj ab;have G:=h.bO e;have one:iW c ss=some (at_ c s r,ss.set k (s.put r true)):=by simp[iW,iH,hbf,H,B]
   have E':rh _ F p ps ss sl d cs:=⟨E.a,e.bT E.bT id,E.fr,E.get,E.Ao⟩;refine cB rfl (aG (E'.bT.rP (x:=some ⟨P.1,0,none⟩) (E.get w.2.2) ?_));refine MN (z.bO e) B λv5 e5 X=>aG ?_;have M:=Qi N;have S:¬(d=P.1\/d=P.2):=λhh=>E.fr.2.2 (by rcases hh with h|h<;>rw[h];exact M.1;exact M.2)
   have hml:=B4 s;have g:=GC Q true;rw[ac]at g;have u:(s.put r true).many=s.many+1:=by simp at g;omega
   have W:=z.len;refine(e5.bT E'.bT S).eY (E.get w.1) (cP (m:=s.many+1) O O (aG ?_));rw[add_lit,add_lit,j6,j6,←u];exact G.lN (s':=s.put r true) N H rfl e5 X (e.bT Y id) E' λv6 e6 h6=>h1 _ _ one v6 (e.to.trans e6) h6
theorem JH {k:Nat}{s s':cF}(hs:ss[k]?=some s):G7 (ss.set k s')+(s.tk.length-s.many)=G7 ss+(s'.tk.length-s'.many):=by
 unfold G7
 induction ss generalizing k with
 | nil=>simp at hs
 | cons x ss ih=>
  cases k with
  | zero=>simp at hs;subst hs;simp;omega
  | succ k=>
   have:=ih (by simpa using hs);simp only[rK,zR,nM];omega
theorem IV {x:Nat}{ss':List cF}(h:iW c ss=some (x,ss')):G7 ss'+1=G7 ss:=by
 unfold iW at h;split at h
 ·rename_i k hk;obtain⟨_,s,g,a⟩:=QK hk;rw[g]at h;simp only at h;split at h
  ·rename_i i hi;cases h;obtain⟨r,j,d,b⟩:=Gj a;rw[hi]at j;cases j;have p:=JH (s':=s.put i true) g;have e:=GC d true;rw[b]at e;have m:(s.put i true).tk.length=s.tk.length:=by simp[cF.put]
   simp at e;omega
  ·cases h
 ·cases h
theorem fB.room (h:fB U F p c ps ss):G7 ss<=131072:=by
 have key:∀l:List cF,(∀s∈l,s.tk.length<=128)->G7 l<=128*l.length:=by
  intro l
  induction l with
  | nil=>intro _;simp[G7]
  | cons x l ih=>
   intro hl;have r:=hl x aA;have m:=ih λs b=>hl s (by simp[b]);simp only[G7,zR,nM,zY]at *;omega
 have:=key ss λs b=>by
  obtain⟨i,e⟩:=zQ b;have d:=(cW.1 e).1;obtain⟨x,j,_,a,g⟩:=h.jD d;rw[e]at a;cases a;rw[g.len];exact h.ok.kq
 have:=h.pJ;omega
theorem Hq {m:Nat}{x:Nat}{ss':List cF}(h:iW c ss=some (x,ss')):QW c (m+1) ss=(x::(QW c m ss').1,(QW c m ss').2):=by
 simp[QW,h]
theorem Jh (h:fB U F p c ps ss)(m:Int)(hm:0<=m){R:Sl->Int->Hp->Prop}
 (hR:∀s σ',Ext F U σ'->bR s 1 (ints (QW c m.toNat ss).1) σ' (λb=>U.size<=b)->fB σ' (Cut F U) p c ps (QW c m.toNat ss).2->R s 0 σ'):W0.c (aW p) m U R:=by
 refine W0.o ?_;unfold W0.v;have h:=fB.loc.cut h;have J:=fB.room h;refine VQ h (cB rfl (fT O ?_));refine Z0 (a:=.s) (λ(out:Sl) C=>∃j d,Ext F U C/\bR out 1 (ints j) C (λb=>U.size<=b)/\fB C (Cut F U) p c ps d/\j.length<=m.toNat/\j.length+G7 d=G7 ss/\QW c m.toNat ss=(j++(QW c (m.toNat-j.length) d).1,(QW c (m.toNat-j.length) d).2))
  (λout _=>m.toNat-out.len) ⟨[],ss,Ext.refl _ _,bR.nil _ _ _ _,h,by simp,by simp,by simp⟩ ?_
 rintro out C ⟨j,d,e,g,E,Y,Z,u⟩;have M:=g.oU;refine cQ (λS=>?_) λX=>?_
 ·have r:m.toNat-j.length=(m.toNat-(j.length+1))+1:=by omega
  refine MX E (λx G w v2 e2 K=>cB rfl ?_) λy v2 e2=>cD rfl ?_
  ·have B:Ext F U v2:=e.trans (e2.sub λi L=>L.1);have z:=aI.bS g e2 λb _ D P=>by have:=P.2;omega
   refine z.push (vs:=[.int .i64 (x:Int)]) (λb D=>zh B.1 D) rfl rfl (by simp[dN]) O O λs' v4 Q N H=>?_;have W:=IV w;refine⟨⟨j++[x],G,B.dS N λi L=>.inr L,by rw[UQ];exact H,fB.loc.bS K N λb _ D P=>(by have:=D.2;omega),by simp;omega,by simp;omega,?_⟩,O⟩;rw[u,r,Hq w];simp
  ·have:QW c (m.toNat-j.length) d=([],d):=by rw[r];simp[QW,y]
   rw[this]at u;have A:=hR out v2 (e.trans e2.to);rw[u,kI]at A;exact A (aI.bO g e2) (E.bO e2)
 ·have V:m.toNat-j.length=0:=by omega
  rw[V]at u;have A:=hR out C e;rw[u]at A;simp only[QW,kI]at A;exact A g E
theorem RL (h:fB U F p c ps ss)(m:Int)(hm:m<0){R:Sl->Int->Hp->Prop}(hR:R ⟨none,0,0⟩ 1 U):W0.c (aW p) m U R:=by
 refine W0.o ?_;unfold W0.v;exact VQ h (cB rfl (lQ O hR))
def iR:List (Nat×Nat)->List cF->List (Nat×Nat)
 | x::ps,s::ss=>if s.many != 0 then x::iR ps ss else iR ps ss
 | _,_=>[]
theorem Hy:∀{ps:List (Nat×Nat)} {ss:List cF},ps.length=ss.length->(iR ps ss).length=(cG ss).length
 | [],[],_=>rfl
 | x::ps,s::ss,h=>by
  have ih:=Hy (ps:=ps) (ss:=ss) (by simpa using h);simp only[iR,cG,sI]at *;split<;>simp[ih]
theorem BI:∀{ps:List (Nat×Nat)} {ss:List cF},(iR ps ss).Sublist ps
 | [],_=>by simp[iR]
 | _::_,[]=>by simp[iR]
 | x::ps,s::ss=>by
  simp only[iR];split
  ·exact BI.cons_cons x
  ·exact BI.cons x
theorem D5:∀{ps ps':List (Nat×Nat)} {ss ss':List cF},ps.length=ss.length->iR (ps++ps') (ss++ss')=iR ps ss++iR ps' ss'
 | [],_,[],_,_=>rfl
 | x::ps,_,s::ss,_,h=>by
  simp only[lp,iR,D5 (ps:=ps) (ss:=ss) (by simpa using h)];split<;>rfl
theorem E6:∀{ps:List (Nat×Nat)} {ss:List cF} {i:Nat} {x:Nat×Nat} {s:cF},ps.length=ss.length->(iR ps ss)[i]?=some x->(cG ss)[i]?=some s->∃j:Nat,ps[j]?=some x/\ss[j]?=some s
 | [],[],_,_,_,_,h,_=>by simp[iR]at h
 | y::ps,t::ss,i,x,s,hl,h1,h2=>by
  have ih:=λi=>E6 (ps:=ps) (ss:=ss) (i:=i) (x:=x) (s:=s) (by simpa using hl);simp only[iR,cG,sI]at h1 h2;cases hm:(t.many != 0)
  ·rw[hm]at h1 h2;obtain⟨j,b,a⟩:=ih i h1 h2;exact⟨j+1,by simpa using b,by simpa using a⟩
  ·rw[hm]at h1 h2;cases i with
   | zero=>simp at h1 h2;exact⟨0,by simp[h1],by simp[h2]⟩
   | succ i=>
    obtain⟨j,b,a⟩:=ih i (by simpa using h1) (by simpa[cG]using h2);exact⟨j+1,by simpa using b,by simpa using a⟩
theorem SY (a b:List cF):cG (a++b)=cG a++cG b:=by simp[cG]
theorem Sv (a b:List cF):Qf (a++b)=Qf a++Qf b:=by simp[Qf]
theorem I9 (c:bZ)(a b:List Nat):iI c (a++b)=iI c a++iI c b:=by simp[iI]
theorem RQ {a b:List (Nat×Nat)}(h:a.Sublist b):(dY a).Sublist (dY b):=by
 induction h with
 | slnil=>exact List.Sublist.refl _
 | cons x _ ih=>exact(ih.cons _).cons _
 | cons_cons x _ ih=>exact(ih.cons_cons _).cons_cons _
theorem DF {h:Hp}{Q:Rg}{n3:Nat}{o:Sl}{l:List Nat}{x1 x2:Nat}{s:cF}(hb:bY h n3 [.slice o.a o.len o.cap])(hrow:bR o 2 (iI c l) h Q)(hQ:∀b,Q b->n3<b)(hl:l.length<=2000)(hS:gV h x1 x2 c s){R:aO}
 (hR:∀h' o',Ext (λb=>b=n3\/Q b) h h'->bY h' n3 [.slice (Sl.a o') o'.len o'.cap]->bR o' 2 (iI c (l++if s.many=0 then[s.st]else[])) h' (Grow Q h)->R (s.many==0) h') :
 VW Tryz.prog ⟨223,#[],#[.pointer (some ⟨n3,0,none⟩)]⟩ [.agg #[.int .i64 (s.many:Int),.int .i64 (s.st:Int),.pointer (some ⟨x1,0,none⟩)]] [.one .b] h R:=by
 refine pV (all := #[.agg #[.int .i64 (s.many:Int),.int .i64 (s.st:Int),.pointer (some ⟨x1,0,none⟩)],.pointer (some ⟨n3,0,none⟩)]) (by kernel_rfl) aA ?_;refine XM.o ?_;unfold XM.v;refine nw (cs:=[.int .i64 (s.many:Int),.int .i64 (s.st:Int),.pointer (some ⟨x1,0,none⟩)]) λv hz e d=>?_;have U:=hb.lt;have g:=e.bT hb id;have hrow:=(bR.loc o 2 (iI c l)).mono hrow (G:=λb=>Q b/\b<h.size) λb hb z=>⟨z,hb⟩;refine Jn.intro (d.eY rfl ?_);rw[uZ];refine cO (λH=>?_) λH=>?_
 ·have p:s.many=0:=by simpa using H
  rw[zC p]at hR;refine⟨λh'=>bY h' h.size [.int .i64 (s.many:Int),.int .i64 (s.st:Int),.pointer (some ⟨x1,0,none⟩)]/\bY h' n3 [.slice o.a o.len o.cap],⟨d,g⟩,⟨o,λh' hS=>by rw[hS.2.cell];rfl,⟨some ⟨x1,0,none⟩,λh' hS=>by rw[add_lit,hS.1.cell];rfl,?_⟩⟩⟩;refine MP (hS.bO e) λZ e2=>⟨⟨e2.bT d id,e2.bT g id⟩,?_⟩;have x:=e.trans e2;have m:=aI.bO hrow x;have y:=m.1;rw[IA]at y;refine nw (cs:=[.int .i64 (s.st:Int),.int .i64 (c.aF:Int)]) λv3 X w B=>⟨⟨(e2.trans w).bT d id,(e2.trans w).bT g id⟩,?_⟩;have r:=aI.bO m w;have N:=x.1;refine r.app (ys:=[.int .i64 (s.st:Int),.int .i64 (c.aF:Int)]) rfl rfl ?_ (by simp[dN]) ?_ ?_ mO λW L S E A=>?_
  ·intro j u hu;rw[add_lit,zH,B.cell];exact hu
  ·simp only;have:(o.len+1)*16<=2001*16:=l0 O O;omega
  ·simp only;omega
  ·have J:bY L h.size [.int .i64 (s.many:Int),.int .i64 (s.st:Int),.pointer (some ⟨x1,0,none⟩)]:=E.bT ((e2.trans w).bT d id) λF=>by have:=F.2;omega
   have K:bY L n3 [.slice o.a o.len o.cap]:=E.bT ((e2.trans w).bT g id) λF=>by have:=hQ _ F.1;omega
   refine⟨⟨J,K⟩,K.s0 aA λv5 o5 M=>(Ws o5 J O).eY rfl ?_⟩;have C:Ext (λb=>b=n3\/Q b) h v5:=(bK.to ((e.trans e2).trans w)).trans (E.sub λi D=>.inr D.1)|>.trans (o5.ext.sub λi D=>.inl D);rw[uZ];refine hR v5 W C M ?_;rw[I9];have:iI c [s.st]=[.int .i64 (s.st:Int),.int .i64 (c.aF:Int)]:=rfl;rw[this];have V:=aI.mono A (G:=Grow Q h) λb _ P=>by
    rcases P with h|h
    ·exact .inl h.1
    ·exact .inr O
   exact aI.bS V o5.ext λb _ z Y=>by
    rcases z with h|h
    ·have:=hQ _ h;omega
    ·omega
 ·have p:¬s.many=0:=by simpa using H
  rw[zB p,kI]at hR;refine d.eY rfl ?_;rw[uZ];exact hR v o e.to g (aI.bO (aI.mono hrow λb _ z=>.inl z.1) e)
def yh (n3:Nat)(c:bZ)(l:List Nat)(h:Hp):Prop:=∃o:Sl,bY h n3 [.slice o.a o.len o.cap]/\bR o 2 (iI c l) h (λb=>n3<b)
theorem Cd {A D:List Value}{x y z:Value}{k:Nat}(hk:k=A.length)(hD:3<=D.length):(((A++D).set k x).set (k+1) y).set (k+2) z=A++[x,y,z]++D.drop 3:=by
 subst hk
 match D,hD with
 | d0::d1::d2::D,_=>simp[List.set_append]
theorem HL {i:Nat}{s:cF}(hs:ss[i]?=some s):Qf (ss.take (i+1))=Qf (ss.take i)++(if s.many=0 then[s.st]else[]):=by
 rw[k8,hs,Sv]
 congr 1
 by_cases hm:s.many=0<;>simp[Qf,hm]
theorem HC {i:Nat}{s:cF}(hs:ss[i]?=some s):cG (ss.take (i+1))=cG (ss.take i)++(if s.many=0 then[]else[s]):=by
 rw[k8,hs,SY]
 congr 1
 by_cases hm:s.many=0<;>simp[cG,hm]
theorem Bv {i:Nat}{x:Nat×Nat}{s:cF}(hl:ps.length=ss.length)(hx:ps[i]?=some x)(hs:ss[i]?=some s):iR (ps.take (i+1)) (ss.take (i+1))=iR (ps.take i) (ss.take i)++(if s.many=0 then[]else[x]):=by
 rw[k8,k8,hs,hx,D5 (by simp[hl])]
 congr 1
 by_cases hm:s.many=0<;>simp[iR,hm]
theorem Sc (l:List cF):(Qf l).length<=l.length:=by unfold Qf;rw[zl];exact qX _ _
theorem Pz (l:List cF):(cG l).length<=l.length:=qX _ _
theorem Pg (h:fB U F p c ps ss){sl:Sl}{rb n3:Nat}{cs:List Value}{σ1:Hp}(e1:bK U σ1)(hlen:sl.len=ss.length)(hn3:U.size<=n3)(hE:ss≠[]->rh U F p ps ss sl rb cs/\sl.len<=sl.cap/\cs.length=sl.cap*3)(h0:yh n3 c [] σ1){R:Sl->Hp->Prop}
 (hR:∀h' mL,Ext (λb=>F b/\b≠p/\b∉dY ps\/n3<=b) σ1 h'->yh n3 c (Qf ss) h'->(mL=sl/\Qf ss=[]/\cG ss=ss/\iR ps ss=ps/\Ext (λb=>n3<=b) σ1 h'\/(bR mL 3 (dP (iR ps ss) (cG ss)) h' (λb=>F b/\b≠p/\b∉dY ps)))->R mL h') :
 We.c sl ⟨223,#[],#[.pointer (some ⟨n3,0,none⟩)]⟩ σ1 R:=by
 refine We.o ?_;unfold We.v;refine Wh.o ?_;unfold Wh.v;have hfew:=h.pJ;have r:=h.len;refine Z0 (a:=bN) (λ(t:Int) h'=>∃i:Nat,t=(i:Int)/\i<=ss.length/\Ext (λb=>n3<=b) σ1 h'/\yh n3 c [] h'/\Qf (ss.take i)=[]/\cG (ss.take i)=ss.take i/\iR (ps.take i) (ss.take i)=ps.take i) (λt _=>ss.length-t.toNat) ⟨0,rfl,O,Ext.refl _ _,h0,by simp[Qf],by simp[cG],by simp[iR]⟩ ?_;rintro t h' ⟨i,rfl,hi,e,⟨o,S,ab⟩,q1,q2,q3⟩;have eo:∀{v:Hp},Ext (λb=>n3<=b) σ1 v->Ext (λb=>n3<=b) U v:=λe=>e1.to.trans e;refine cQ (λhlt=>?_) λhge=>?_
 ·have ad:i<ss.length:=by omega
  obtain⟨E,hcap,hcl⟩:=hE (by rintro rfl;simp at ad);obtain⟨xx,s,hp,L,hS⟩:=h.jD ad;have eg:=QE hp L;have hrl:=E.bT.lt;have hSl:=hS.lt;rw[E.a];refine ix O O ?_;rw[add_lit,show 0+(i:Int).toNat*3=3*i by omega];refine wN (e:=0) ((eo e).bT E.bT O) (E.get eg.1) (E.get eg.2.1) (E.get eg.2.2) ?_;have hn3h:n3<h'.size:=S.lt;refine DF S ab (λb h=>h) aA (hS.bS (eo e) O O) λh2 o2 e2 ah A=>?_;have e2:Ext (λb=>n3<=b) h' h2:=e2.sub λb g=>by omega
  have A:=aI.mono A (G:=λb=>n3<b) λb _ g=>by
   rcases g with h|h
   ·exact h
   ·omega
  refine cO (λhm=>?_) λhm=>?_
  ·-- the first that goes
   have x:s.many=0:=by simpa using hm
   rw[zC x,tN]at A;have D:((i:Int)==(-1))=false:=by rw[mJ];omega
   show If ((i:Int)==(-1)) _ _;refine cB D (cP (m:=i+1) O O ?_);have q1':Qf (ss.take (i+1))=[s.st]:=by rw[HL L,q1,zC x];rfl
   have Q:cG (ss.take (i+1))=ss.take i:=by rw[HC L,q2,zC x,kI]
   have q3':iR (ps.take (i+1)) (ss.take (i+1))=ps.take i:=by rw[Bv r hp L,q3,zC x,kI]
   have hke:∀k,k<=ss.length->(dP (iR (ps.take k) (ss.take k)) (cG (ss.take k))).length=3*(cG (ss.take k)).length:=λk _=>QT (Hy (by simp[r]));have Eb2:bY h2 rb cs:=(eo (e.trans e2)).bT E.bT O;refine UC (a:=bN) (bb:=bN) (λ(i1 j1:Int) v=>∃j:Nat,j1=(j:Int)/\i<j/\j<=ss.length/\i1=((cG (ss.take j)).length:Int)/\(cG (ss.take j)).length<j/\Ext (λb=>b=rb\/n3<=b) σ1 v/\yh n3 c (Qf (ss.take j)) v ∧
    bY v rb (dP (iR (ps.take j) (ss.take j)) (cG (ss.take j))++cs.drop (3*(cG (ss.take j)).length))) (λ_ j1 _=>ss.length-j1.toNat) ?_ ?_
   ·refine⟨i+1,rfl,O,O,?_,?_,(e.trans e2).sub λb g=>.inr g,?_,?_⟩
    ·rw[Q,zZ];omega
    ·rw[Q,zZ];omega
    ·rw[q1'];exact⟨o2,ah,A⟩
    ·rw[Q,q3',zZ,pB O];have:dP (ps.take i) (ss.take i)++cs.drop (3*i)=cs:=by
      have h1:(dP (ps.take i) (ss.take i)).length=3*i:=by rw[QT (by simp[r]),zZ];omega
      apply zp;intro k;rcases kg k (3*i)with hk|hk
      ·rw[ze O];have h2:(dP ps ss)[k]?=(dP (ps.take i) (ss.take i))[k]? := by
        conv=>lhs;rw[←nU i ps,←nU i ss,KY (by simp[r])]
        rw[ze O]
       rw[←h2];have h3:k<(dP ps ss).length:=by rw[QT r];omega
       rw[cT h3];exact(E.get (cT h3)).symm
      ·rw[zr O,kP,h1]
       congr 1;omega
     rw[this];exact Eb2
   ·rintro i1 j1 v ⟨j,rfl,hij,hj,rfl,hKj,ev,⟨o3,C,J⟩,z⟩;have y:=hke j hj;have evo:Ext (λb=>b=rb\/n3<=b) U v:=e1.to.trans ev;refine cQ (λhlt2=>?_) λhge2=>?_
    ·have hj':j<ss.length:=by omega
     obtain⟨yy,u,N,H,aa⟩:=h.jD hj';have V:=QE N H;have hSul:=aa.lt;have af:=Qi N;refine ix O O ?_;rw[add_lit,show 0+(j:Int).toNat*3=3*j by omega];have get:∀d,d<3->∀w,(dP ps ss)[3*j+d]?=some w->(dP (iR (ps.take j) (ss.take j)) (cG (ss.take j))++cs.drop (3*(cG (ss.take j)).length))[3*j+d]?=some w:=by
      intro d hd w hw;rw[zr O,kP,y,show 3*(cG (ss.take j)).length+(3*j+d-3*(cG (ss.take j)).length)=3*j+d by omega];exact E.get hw
     refine wN (e:=0) z (get 0 O _ V.1) (get 1 O _ V.2.1) (get 2 O _ V.2.2) (EZ λv5 X b5=>b5.rI rfl (b5.rI rfl (b5.rP rfl ?_)));have hn3v:n3<v.size:=C.lt;have Z:=aI.mono J (G:=λb=>n3<b/\b<v.size) λb g hf=>⟨hf,g⟩;have M:=Sc (ss.take j);rw[zZ]at M;refine DF (X.bT C id) (aI.bO Z X) (λb g=>g.1) O ((aa.bS evo (λW=>by rcases W with h|h;exact E.fr.2.2 (h▸af.1);omega) (λW=>by rcases W with h|h;exact E.fr.2.2 (h▸af.2);omega)).bO X) λv6 o6 e6 ag B=>?_;have hsz5:=X.1;have B:=aI.mono B (G:=λb=>n3<b) λb _ g=>by
      rcases g with h|h
      ·exact h.1
      ·omega
     have b6:bY v6 v.size [.int .i64 (u.many:Int),.int .i64 (u.st:Int),.pointer (some ⟨yy.1,0,none⟩)]:=e6.bT b5 λW=>by rcases W with h|h;omega;have:=h.2;omega
     have hrb:rb<U.size:=E.bT.lt;have K:=e6.bT (X.bT z id) λW=>by rcases W with h|h;omega;have:=h.1;omega
     have ac:Ext (λb=>b=rb\/n3<=b) σ1 v6:=(ev.trans X.to).trans (e6.sub λb g=>by rcases g with h|h;omega;have:=h.1;omega);rw[←HL H]at B;have st:=HC H;have kt:=Bv r N H;by_cases hum:u.many=0
     ·rw[zC hum,kI]at st kt;have:(u.many==0)=true:=by simp[hum]
      rw[this];refine cB rfl (cP (m:=j+1) O O ⟨⟨j+1,rfl,O,O,?_,?_,ac,⟨o6,ag,B⟩,?_⟩,O⟩)
      ·rw[st]
      ·rw[st];omega
      ·rw[st,kt];exact K
     ·rw[zB hum]at st kt;have:(u.many==0)=false:=by simp[hum]
      rw[this];refine cD rfl (b6.rI rfl (b6.rI rfl (b6.rP rfl (ix O O ?_))));rw[add_lit,show 0+((cG (ss.take j)).length:Int).toNat*3=3*(cG (ss.take j)).length by omega];have hlen6:(dP (iR (ps.take j) (ss.take j)) (cG (ss.take j))++cs.drop (3*(cG (ss.take j)).length)).length=cs.length:=by
       rw[zO,y,j5];omega
      refine K.s1 O λv7 o7 b7=>b7.s1 aE λv8 o8 b8=>b8.s1 aE λv9 o9 b9=>?_;rw[j6,Cd y.symm (by rw[j5];omega),List.drop_drop]at b9;have ev9:Ext (λb=>b=rb\/n3<=b) σ1 v9:=((ac.trans (o7.ext.sub λb g=>.inl g)).trans (o8.ext.sub λb g=>.inl g)).trans (o9.ext.sub λb g=>.inl g);have Y:Ext (· = rb) v6 v9:=(o7.ext.trans o8.ext).trans o9.ext;refine cP (m:=(cG (ss.take j)).length+1) O O (cP (m:=j+1) O O ⟨⟨j+1,rfl,O,O,?_,?_,ev9,⟨o6,Y.bT ag O,aI.bS B Y λb _ g he=>O⟩,?_⟩,O⟩)
      ·rw[st];simp
      ·rw[st];simp;omega
      ·rw[st,kt,KY (Hy (by simp[r]))];simp only[zO,zY,lE,dP];rw[show 3*((cG (ss.take j)).length+(0+1))=3*(cG (ss.take j)).length+3 by omega];exact b9
    ·have hjj:j=ss.length:=by omega
     subst hjj;rw[mg]at *;have P:ps.take ss.length=ps:=by rw[←r,mg]
     rw[P]at z y;have M:=Pz ss;refine iT O O O ?_;have hK3:3*(cG ss).length<=cs.length:=by omega
     have hlt3:(cG ss).length<ss.length:=hKj;rw[zB O];simp only[E.a,zX,add_lit,zH];refine⟨by simp[dN],?_⟩;simp only;have hz:(List.replicate (sl.len-(cG ss).length) [Value.int .i64 0,.int .i64 0,.pointer none]).flatten.length=3*(sl.len-(cG ss).length):=by
      rw[wY,uI,wK];simp;omega
     refine VT (o:=(cG ss).length*3) (i:=0) z (by rw[hz,zO,y,j5];omega) λv10 gH b10=>?_;refine iT (lo:=0) O O O ?_;have ae:Ext (λb=>b=rb\/n3<=b) σ1 v10:=ev.trans (gH.ext.sub λb g=>.inl g);refine hR v10 _ (ae.sub λb g=>?_) ⟨o3,Ws gH C (by have:=E.bT.lt;omega),aI.bS J gH.ext λb _ g he=>by have:=E.bT.lt;omega⟩ (.inr ?_)
     ·rcases g with rfl|h
      ·exact .inl E.fr
      ·exact .inr h
     ·refine⟨by rw[QT (Hy r)];simp;omega,.inr ⟨rb,_,E.fr,?_,b10,?_,?_,?_⟩⟩
      ·simp only[E.a];split<;>simp[add_lit]
      ·simp only;omega
      ·simp only[zO,zZ,j5,hz,y];omega
      ·rw[QT (Hy r),j6,show(cG ss).length*3=3*(cG ss).length by omega];rw[j3,oV (by rw[zZ,zO,y];omega),yH,Nat.min_self];rw[oV O,mN O]
  ·have x:¬s.many=0:=by simpa using hm
   rw[zB x,kI]at A;refine cP (m:=i+1) O O ⟨⟨i+1,rfl,O,e.trans e2,⟨o2,ah,A⟩,?_,?_,?_⟩,O⟩
   ·rw[HL L,q1,zB x];rfl
   ·rw[HC L,q2,zB x,k8,L];rfl
   ·rw[Bv r hp L,q3,zB x,k8,hp];rfl
 ·have hii:i=ss.length:=by omega
  subst hii;rw[mg]at *;have P:ps.take ss.length=ps:=by rw[←r,mg]
  rw[P]at q3;have D:((-1:Int)==(-1))=true:=rfl;refine cD D (hR h' sl (e.sub λb g=>.inr g) ?_ (.inl ⟨rfl,q1,q2,q3,e⟩));rw[q1];exact⟨o,S,ab⟩
theorem fB.mL (h:fB U F p c ps ss):∃sl:Sl,bY U p [.int .i64 (c.size:Int),.int .i64 (c.aF:Int),.int .i64 (c.batch:Int),.slice sl.a sl.len sl.cap]/\sl.len=ss.length/\bR sl 3 (dP ps ss) U (λb=>F b/\b≠p/\b∉dY ps) ∧
 ∃rb cs,(ss≠[]->rh U F p ps ss sl rb cs/\sl.len<=sl.cap/\cs.length=sl.cap*3):=by
 obtain⟨sl,i,g⟩:=h.hd;have m:=g.1;rw[QT h.len]at m;refine⟨sl,i,O,g,?_⟩;rcases g.2 with⟨h0,_⟩|⟨b,cs,hq,ha,hbb,hle,hcl,ht⟩
 ·exact⟨0,[],λe=>by have:=pX.2 e;omega⟩
 ·refine⟨b,cs,λ_=>⟨⟨ha,hbb,hq,λ{j v} d=>?_,?_⟩,hle,hcl⟩⟩
  ·rw[←ht,zj]at d;split at d
   ·exact d
   ·cases d
  ·have:=congrArg List.length ht;rw[zZ,QT h.len]at this;omega
theorem Rz (h:fB U F p c ps ss){R:Sl->Hp->Prop}
 (hR:∀o σ',Ext F U σ'->bR o 2 (iI c (Qf ss)) σ' (λb=>U.size<=b)->fB σ' (Cut F U) p c (iR ps ss) (cG ss)->R o σ'):XJ.c (aW p) U R:=by
 refine XJ.o ?_;unfold XJ.v;have h:=fB.loc.cut h;obtain⟨sl,a,B,u,W,cs,L⟩:=h.mL;refine VQ h (cB rfl (nw (cs:=[.slice none 0 0]) λS N e1 G=>aG ((e1.bT a id).rS rfl ?_)));refine Pg h e1 B (zD _) L ⟨⟨none,0,0⟩,G,bR.nil _ _ _ _⟩ λV mL e2 ⟨o,y,C⟩ r=>aG ?_;have K:=a.lt;have e:=h.nd;have d:=RQ (BI (ps:=ps) (ss:=ss));simp only[zt]at e;refine(e2.bT (e1.bT a id) λD=>by rcases D with h|h;exact h.2.1 rfl;omega).s1 aA λv3 o3 E=>?_;have w:=Ws o3 y (by have:=y.lt;omega);refine w.uj rfl (hR o v3 ?_ (aI.bS (aI.mono C λb _ a=>O) o3.ext λb _ a g=>O) ?_)
 ·refine(e1.to.dS e2 λb a=>?_).dS o3.ext λb a=>?_
  ·rcases a with h|h
   ·exact .inl h.1.1
   ·exact .inr h
  ·subst a;exact .inl h.fp.1
 ·have z:∀b,b∈dY ps->b<U.size->¬(Cut F U b/\b≠p/\b∉dY ps\/U.size<=b):=λb a M D=>by
   rcases D with h|h
   ·exact h.2.2 a
   ·omega
  refine⟨⟨mL,E,?_⟩,λi x s P Q=>?_,h.fp,λb a=>h.fb b (d.subset a),?_,Hy h.len,h.ok,h.py.sublist sW⟩
  ·rcases r with⟨rfl,_,q2,q3,ex⟩|hr
   ·rw[q2,q3];exact aI.bS (aI.bS (aI.bO u e1) ex λb _ a g=>by have:=a.1.2;omega) o3.ext λb _ a g=>a.2.1 g
   ·exact aI.bS (aI.mono hr λb _ a=>⟨a.1,a.2.1,λm=>a.2.2 (d.subset m)⟩) o3.ext λb _ a g=>a.2.1 g
  ·obtain⟨j,A,H⟩:=E6 h.len P Q;have J:=h.sp j x s A H;have m:=Qi A;have B:=J.lt;exact((J.bO e1).bS e2 (z _ m.1 B.1) (z _ m.2 B.2)).bS o3.ext (λg=>e.1 (g▸m.1)) (λg=>e.1 (g▸m.2))
  ·simp only[zt];exact⟨λm=>e.1 (d.subset m),e.2.sublist d⟩
theorem MW {x:Int}{k i:Nat}{s:cF}(hc:0<c.size)(hk:kL c ss x=some k)(hs:ss[k]?=some s)(v:Bool)(y:Int):kL c (ss.set k (s.put i v)) y=kL c ss y:=by
 have b:∀t:cF,∀j w z,idx c (t.put j w) z=idx c t z:=λt j w z=>by unfold idx cF.put;simp only[nF]
 unfold kL;have a:=(cW.1 hs).1;have:(ss.set k (s.put i v)).map (λs=>(idx c s y).isSome)=ss.map (λs=>(idx c s y).isSome):=by
  apply zp;intro j;simp only[za];by_cases hjk:j=k
  ·subst hjk;rw[zL a,hs];simp[b]
  ·rw[zk (Ne.symm hjk)]
 have d:∀l:List cF,l.findIdx? (λs=>(idx c s y).isSome)=(l.map λs=>(idx c s y).isSome).findIdx? id:=λl=>by rw[List.findIdx?_map];rfl
 rw[d,d,this]
def kh (c:bZ)(ss:List cF)(xs:List Int):Prop:=(∀x∈xs,dV c ss x=some true)/\xs.Nodup
theorem Gq {x:Int}{b:Bool}(h:dV c ss x=some b):∃k s i,kL c ss x=some k/\ss[k]?=some s/\obj c s x=some i/\s.is i=b:=by
 unfold dV at h;split at h
 ·rename_i k hk;split at h
  ·rename_i s hs;cases ho:obj c s x with
   | none=>rw[ho]at h;cases h
   | some i=>rw[ho]at h;exact⟨k,s,i,hk,hs,ho,by simpa[cF.is]using h⟩
  ·cases h
 ·cases h
theorem xC {x:Int}{k i:Nat}{s:cF}(hk:kL c ss x=some k)(hs:ss[k]?=some s)(ho:obj c s x=some i):fF c ss x=ss.set k (s.put i false):=by
 simp[fF,hk,hs,ho]
theorem NC {x y:Int}(hc:0<c.size)(hx:dV c ss x=some true)(hne:y≠x):dV c (fF c ss x) y=dV c ss y:=by
 obtain⟨k,s,i,A,d,u,_⟩:=Gq hx;rw[xC A d u];have g:=(cW.1 d).1;have a:=MW hc A d false (i:=i) y;have p:∀t:cF,∀j w z,obj c (t.put j w) z=obj c t z:=λt j w z=>by unfold obj idx at_ cF.put;simp only[nF]
 cases hy:kL c ss y with
 | none=>rw[G4 (a.trans hy),G4 hy]
 | some m=>
  by_cases hmk:m=k
  ·subst hmk;rw[VC (a.trans hy) (zL g),VC hy d,p];cases hoy:obj c s y with
   | none=>rfl
   | some j=>
    simp only[zX,Option.some.injEq];have r:i≠j:=λe=>by
     subst e;exact hne (((Ut hc).1 hoy).1.trans ((Ut hc).1 u).1.symm)
    simp[cF.is,cF.put,zP,zk r]
  ·have b:m<ss.length:=(ng.1 hy).1;rw[VC (a.trans hy) ((zk (Ne.symm hmk)).trans (cT b)),VC hy (cT b)]
theorem kh.next {x:Int}{xs:List Int}(hc:0<c.size)(h:kh c ss (x::xs)):kh c (fF c ss x) xs:=by
 have a:=zt.1 h.2;refine⟨λy b=>?_,a.2⟩;rw[NC hc (h.1 x aA) λe=>a.1 (e▸b)];exact h.1 y (by simp[b])
theorem C6 {xs:List Int}(h:iC c ss xs=0):kh c ss xs:=by
 unfold iC at h;split at h
 ·cases h
 ·rename_i h1;split at h
  ·cases h
  ·rename_i h2;simp only[nr,not_or,qd,mB,Bool.not_eq_false',zU,zT]at h1 h2;refine⟨λx d=>?_,h2.2⟩;have a:=h1 x d;have b:=h2.1 x d;cases ht:dV c ss x with
   | none=>rw[ht]at a;simp at a
   | some v=>
    cases v
    ·rw[ht]at b;exact absurd rfl b
    ·rfl
theorem P4 {sl:Sl}{xs:List Int}{X:Rg}(h:fB U F p c ps ss)(hs:cV sl 1 (xs.map (Value.int .i64)) U X)(hX:∀b,X b->¬F b)(hi:∀x∈xs,iE x)(hA:kh c ss xs)(hl:xs.length<=1000000){K:aP}
 (hK:∀σ',Ext F U σ'->fB σ' F p c ps (xs.foldl (fF c) ss)->K σ') :
 X9 [bN] (λI1=>I1 0 U) λJ3 (t49:Int) v6=>If (decide (t49<((sl.len:Nat):Int))) (Ix sl.a sl.len t49 1 λa51=>gA .i64 a51 v6 λaddr1=>
  Xy.c (aW p) addr1 v6 λvx v7=>bU vx λa57=>fW (a57.add 2) v7 λt59=>Zq.c t59 addr1 v7 λt61 v8=>bU vx λa63=>gA .i64 ((a63.add 0).add 0) v8 λt66=>
  Ar .i64 (t66-1) λt67=>bU vx λa68=>dX ((a68.add 0).add 0) (.int .i64 t67) v8 λv9=>Ar .i64 (t49+1) λt71=>J3 t71 v9) (K v6):=by
 have hlen:sl.len=xs.length:=by have:=hs.1;simp at this;omega
 have z:0<c.size:=by have:=h.ok.1;omega
 refine Z0 (a:=bN) (λ(t:Int) L=>∃(i:Nat) (u:List cF),t=(i:Int)/\i<=xs.length/\Ext F U L/\fB L F p c ps u/\kh c u (xs.drop i)/\(xs.drop i).foldl (fF c) u=xs.foldl (fF c) ss) (λt _=>xs.length-t.toNat) ⟨0,ss,rfl,O,Ext.refl _ _,h,by simpa using hA,by simp⟩ ?_;rintro t L ⟨i,u,rfl,hil,e,J,w,D⟩;refine cQ (λhlt=>?_) λhge=>?_
 ·have y:i<xs.length:=by omega
  have hx:xs[i]?=some xs[i]:=cT y;have hd:xs.drop i=xs[i]::xs.drop (i+1):=uc y;rw[hd]at w D;refine(aH.bS hs e λb _ V hF=>hX b V hF).mf hx ?_;obtain⟨k,s,j,N,d,M,G⟩:=Gq (w.1 xs[i] oT);have H:=hi xs[i] (zo y);refine AM J xs[i] H (λhn=>by rw[N]at hn;cases hn) λk' mL rb cs B P V E=>aG ?_;rw[N]at B;cases B;obtain⟨R,s',Y,A,W⟩:=J.jD P;rw[d]at A;cases A;have eg:=QE Y d;have hj:=((Ut z).1 M).2;refine E.bT.rP (x:=some ⟨R.1,0,none⟩) (E.get eg.2.2) ?_;refine Jx W H M G λv8 e8 Z=>aG ?_;have C:=Qi Y;have S:¬(rb=R.1\/rb=R.2):=λhh=>E.fr.2.2 (by rcases hh with h|h<;>rw[h];exact C.1;exact C.2)
  have hml:=B4 s;have g:=GC hj false;rw[G]at g;have hsl:=W.len;have hnl:=W.ok.kq;have r:((s.put j false).many:Int)=s.many-1:=by simp at g;omega
  refine(e8.bT E.bT S).eY (E.get eg.1) (ar O O (aG ?_));simp only[add_lit,j6];rw[←r];refine J.lN (s':=s.put j false) Y d rfl e8 Z V E λv9 e9 Q=>?_;refine cP (m:=i+1) O O ⟨⟨i+1,_,rfl,O,e.trans e9,Q,?_,?_⟩,O⟩
  ·have:=kh.next z w
   rwa [xC N d M]at this
  ·rw[qA,xC N d M]at D;exact D
 ·have:i=xs.length:=by omega
  subst this;rw[List.drop_length,List.foldl_nil]at D;subst D;exact hK L e J
theorem R8 (h:fB U F p c ps ss){sl:Sl}{xs:List Int}{X:Rg}(hs:cV sl 1 (xs.map (Value.int .i64)) U X)(hX:∀b,X b->¬F b)(hi:∀x∈xs,iE x)(hl:xs.length<=1000000)(hcap:sl.len<=sl.cap){R:Sl->Int->Hp->Prop}
 (h0:iC c ss xs≠0->R ⟨none,0,0⟩ (iC c ss xs) U)
 (h1:iC c ss xs=0->∀o σ',Ext F U σ'->bR o 2 (iI c (Qf (xs.foldl (fF c) ss))) σ' (λb=>U.size<=b)->fB σ' (Cut F U) p c (iR ps (xs.foldl (fF c) ss)) (cG (xs.foldl (fF c) ss))->R o 0 σ') :
 YH.c (aW p) sl U R:=by
 refine YH.o ?_;unfold YH.v;have hlen:sl.len=xs.length:=by have:=hs.1;simp at this;omega
 refine VQ h (cB rfl ?_);have P:∀i,(xs.take i).any (λx=>dV c ss x==some false)=true\/¬(xs.take i).Nodup->(∀x∈xs,(dV c ss x).isSome=true)->iC c ss xs=9:=by
  intro i d hall;unfold iC;rw[zB,zC]
  ·rcases d with d|d
   ·rw[kf]at d;obtain⟨x,u,ae⟩:=d;have:xs.any (λx=>dV c ss x==some false)=true:=kf.2 ⟨x,ve u,ae⟩;rw[this];rfl
   ·have:¬xs.Nodup:=λE=>d (E.sublist (Bf _ _));simp[this]
  ·simp only[qd,mB];intro x u;have:=hall x u;cases ht:dV c ss x
   ·rw[ht]at this;cases this
   ·simp
 refine UC (a:=.b) (bb:=bN) (λ(P:Bool) (t:Int) B=>∃i:Nat,t=(i:Int)/\i<=xs.length/\B=U/\(∀x∈xs.take i,(dV c ss x).isSome=true)/\(P=true↔(xs.take i).any (λx=>dV c ss x==some false)=true\/¬(xs.take i).Nodup)) (λ_ t _=>xs.length-t.toNat)
  ⟨0,rfl,O,rfl,by simp,by simp⟩ ?_
 rintro w t B ⟨i,rfl,hil,rfl,g,C⟩;refine cQ (λhlt=>?_) λhge=>?_
 ·have D:i<xs.length:=by omega
  have u:xs[i]?=some xs[i]:=cT D;have aa:=hi xs[i] (zo D);have L:xs.take (i+1)=xs.take i++[xs[i]]:=by rw[k8,u];rfl
  refine hs.mf u (CY h xs[i] aa (λb d=>cB rfl ?_) λE=>cD rfl ?_)
  ·have A:∀x∈xs.take (i+1),(dV c ss x).isSome=true:=by
    rw[L];intro x u;rcases zK.1 u with h1|h1
    ·exact g x h1
    ·simp at h1;subst h1;rw[d];rfl
   have fin:∀J:Bool,(J=true↔(xs.take (i+1)).any (λx=>dV c ss x==some false)=true\/¬(xs.take (i+1)).Nodup)->Ar .i64 ((i:Int)+1) λs=>
    (∃j:Nat,s=(j:Int)/\j<=xs.length/\B=B/\(∀x∈xs.take j,(dV c ss x).isSome=true)/\(J=true↔(xs.take j).any (λx=>dV c ss x==some false)=true\/¬(xs.take j).Nodup))/\xs.length-s.toNat<xs.length-(i:Int).toNat:=
    λJ W=>cP (m:=i+1) O O ⟨⟨i+1,rfl,O,rfl,A,W⟩,O⟩
   have ab:∀y:Int,(xs.take i++[y]).Nodup↔(xs.take i).Nodup/\y∉xs.take i:=λy=>by
    rw[nJ];constructor
    ·exact λh=>⟨h.1,λM=>h.2.2 y M y aA rfl⟩
    ·exact λh=>⟨h.1,by simp,λa ha z hz e=>by simp at hz;subst hz;exact h.2 (e▸ha)⟩
   have ex:(xs.take (i+1)).any (λx=>dV c ss x==some false)=true\/¬(xs.take (i+1)).Nodup↔(w=true\/b=false)\/xs[i]∈xs.take i:=by
    rw[L,ab,List.any_append,C];simp only[List.any_cons,List.any_nil,Bool.or_false,nr,d];have S:((some b==some false)=true)↔b=false:=by cases b<;>simp
    rw[S];constructor
    ·rintro((h|h)|h)
     ·exact .inl (.inl (.inl h))
     ·exact .inl (.inr h)
     ·by_cases E:(xs.take i).Nodup
      ·by_cases M:xs[i]∈xs.take i
       ·exact .inr M
       ·exact absurd ⟨E,M⟩ h
      ·exact .inl (.inl (.inr E))
    ·rintro(((h|h)|h)|h)
     ·exact .inl (.inl h)
     ·exact .inr λG=>h G.1
     ·exact .inl (.inr h)
     ·exact .inr λG=>G.2 h
   have J1:∀r:Bool,(r=true↔w=true\/b=false)->bW (λJ v4=>Ar .i64 ((i:Int)+1) λs=>
    (∃j:Nat,s=(j:Int)/\j<=xs.length/\v4=B/\(∀x∈xs.take j,(dV c ss x).isSome=true)/\(J=true↔(xs.take j).any (λx=>dV c ss x==some false)=true\/¬(xs.take j).Nodup))/\xs.length-s.toNat<xs.length-(i:Int).toNat) λJ2=>
    If r (J2 true B) (eX sl 1 0 (i:Int) (sl.cap:Nat) λac=>Wp.c ac xs[i] B λN v5=>J2 N v5):=by
    intro r hr;refine bW.intro ?_;cases r
    ·refine cB rfl ?_;refine iT (lo:=0) O O O ?_;have K:cV ⟨if sl.cap=0 then sl.a else sl.a.map (·.add (0*1)),i-0,sl.cap-0⟩ 1 ((xs.take i).map (Value.int .i64)) B X:=by
      refine⟨by simp;omega,?_⟩;rcases hs.2 with h0|⟨b',o',cs',hf',ha',hb',hc'⟩
      ·left;have:xs=[]:=by simpa using h0
       simp[this]
      ·refine .inr ⟨b',o',cs',hf',?_,hb',λj hj=>?_⟩
       ·rw[zB O,ha'];simp[add_lit]
       ·simp only[zl,zZ]at hj;rw[hc' j aE,List.map_take,zj,zC O]
     refine Lt K aE _ (fin _ ?_);rw[ex,←hr];simp
    ·refine cD rfl (fin true ?_);rw[ex,←hr];simp
   refine bW.intro ?_;cases w
   ·refine cB rfl (J1 _ ?_);cases b<;>simp
   ·exact cD rfl (J1 _ aA)
  ·have:iC c ss xs=8:=by
    unfold iC;rw[zC];exact kf.2 ⟨xs[i],zo D,by rw[E];rfl⟩
   have h0:=h0 (by rw[this];decide);rw[this]at h0;exact h0
 ·have:i=xs.length:=by omega
  subst this;rw[mg]at *;cases w
  ·refine cB rfl ?_;have hE:iC c ss xs=0:=by
    unfold iC;have Z:¬(xs.any (λx=>dV c ss x==some false)=true\/¬xs.Nodup):=λG=>by have:=C.2 G;cases this
    rw[zB,zB]
    ·simp only[not_or,qd,Decidable.not_not]at Z;rw[Z.1];simp[Z.2]
    ·simp only[qd,mB];intro x u;have:=g x u;cases ht:dV c ss x
     ·rw[ht]at this;cases this
     ·simp
   refine P4 (fB.loc.cut h) hs (λb d hf=>hX b d hf.1) hi (C6 hE) hl λv6 e6 Q=>?_;refine Rz Q λo ad Y V H=>?_;exact h1 hE o ad ((e6.trans Y).sub λb d=>d.1) (aI.mono V λb _ d=>zh e6.1 d) (fB.loc.mono H λb _ d=>d.1)
  ·refine cD rfl ?_;have h9:=P xs.length (by rw[mg];exact C.1 rfl) g;have h0:=h0 (by rw[h9];decide);rw[h9]at h0;exact h0
theorem PT {x y:Sl}{a o b o':Nat}{cs ds:List Value}(hx:x.a=some ⟨a,o,none⟩)(hy:y.a=some ⟨b,o',none⟩)(ha:bY U a cs)(hb:bY U b ds)(hne:a≠b)(hd:ds≠[]){K:aO}(hK:K false U) :
 sQ Tryz.prog 288 [.slice x.a x.len x.cap,.slice y.a y.len y.cap] U K:=by
 rintro w rfl;obtain⟨d,ha⟩:=ha;obtain⟨g,hb⟩:=hb;refine⟨false,w,?_,.refl _,hK⟩;rw[hx,hy,run_callFunc_extern Tryz.func288 (by kernel_rfl) (by kernel_rfl) (by kernel_rfl) (e:=Extern.SlicesOverlaps.overlaps #[255,255] #[4]) (by kernel_rfl)];have:=Lib.run_overlaps_apart (P:=Tryz.prog) w 255 4 262 Tryz.underlying255 3 Tryz.sizeOf262
  ⟨a,o,none⟩ ⟨b,o',none⟩ x.len x.cap y.len y.cap hne d g cs.length ds.length (by simp[World.shape?,ha]) (by simp[World.shape?,hb]) (by simpa using hd) (by simp[World.frozen?,ha]) (by simp[World.frozen?,ha])
 rw[this];rfl
theorem Jj {Q:Rg}{s:Sl}{xs:List Value}{i m vb:Nat}{x y z:Value}(h:bR s 3 xs U Q)(hlen:s.len=m)(hm:m<=2000)(hi:i<=m)(hv:bY U vb [x,y,z])(hvb:¬Q vb)(h1:∀v∈xs,dN v=true)(h2:dN x=true/\dN y=true/\dN z=true)
 {R:Sl->Hp->Prop} (hR:∀s' σ',Ext Q U σ'->bR s' 3 (xs.take (3*i)++[x,y,z]++xs.drop (3*i)) σ' (Grow Q U)->R s' σ') :
 Wf.c s (i:Int) ⟨some ⟨vb,0,none⟩,1,1⟩ U R:=by
 refine Wf.o ?_;unfold Wf.v;have hxl:=h.1;have hcap:s.len<=s.cap:=by
  rcases h.2 with⟨h0,h0'⟩|⟨b,cs,_,_,_,K,_⟩
  ·omega
  ·exact K
 have ac:Rd U (some ⟨vb,0,none⟩) [x,y,z]:=by
  intro j u hu;rw[add_lit,zH,hv.cell];exact hu
 have ho:∀v∈[x,y,z],dN v=true:=by simp[h2]
 refine iT O O O (cB rfl (cO (λZ=>?_) λZ=>?_))
 ·have V:i=m:=by
   have:(i:Int)=((s.len:Nat):Int):=by simpa using Z
   omega
  refine h.app (ys:=[x,y,z]) rfl rfl ac ho aD aD mO λs' h' hl' e' Y=>hR s' h' e' ?_
  rw[mN O,List.drop_of_length_le O,kI];exact Y
 ·have V:i<m:=by
   have:¬(i:Int)=((s.len:Nat):Int):=by simpa using Z
   omega
  obtain⟨b,cs,S,ha,E,K,M,ht⟩:∃b cs,Q b/\s.a=some ⟨b,0,none⟩/\bY U b cs/\s.len<=s.cap/\cs.length=s.cap*3/\cs.take xs.length=xs:=by
   rcases h.2 with⟨h0,_⟩|h
   ·omega
   ·exact h
  have G:vb≠b:=λe=>hvb (e▸S);have w:∀j v,xs[j]?=some v->cs[j]?=some v:=λj v p=>by
   rw[←ht,zj]at p;split at p
   ·exact p
   ·cases p
  refine cP (m:=m+1) aD O (cQ (λhgt=>?_) λhle2=>?_)
  ·-- no room: a new row
   refine iT (lo:=0) O O O (cP (m:=m+1) aD O (cP (m:=m+1-i) O O ?_))
   have B:¬s.cap=0:=by omega
   rw[zB B];simp only[ha,zX,add_lit,tU,j6,Nat.sub_zero];refine⟨O,xs.take (3*i),by rw[zZ];simp only;omega,?_,by simp[dN],by simp only;omega,by simp only;omega,O,λaa=>by simp only at aa;omega,λ_ cc N=>?_⟩
   ·intro j v p;rw[add_lit,zH,E.cell];rw[zj]at p;split at p
    ·exact w j v p
    ·cases p
   simp only[dE]at N ⊢;have X:i+(m+1-i)=m+1:=by omega
   rw[X]at N ⊢;refine nw λv2 hz2 e2 hb2=>?_;have A:∀k,(List.replicate k [Value.int .i64 0,.int .i64 0,.pointer none]).flatten.length=3*k:=λk=>by
    rw[wY,uI,wK];simp;omega
   have g:(xs.take (3*i)).length=3*i:=by rw[zZ];omega
   refine iT aD aD aD ?_
   have ab:=e2.bT hv id;have n1:(if cc=i then(some ⟨U.size,0,none⟩:Option Addr)else(some ⟨U.size,0,none⟩:Option Addr).map (·.add (i*3)))=some ⟨U.size,i*3,none⟩:=by
    have:¬cc=i:=by omega
    rw[zB this];simp[add_lit]
   rw[n1];refine⟨[x,y,z],by simp only;rw[pB O];rfl,?_,ho,?_⟩
   ·intro j u hu;rw[add_lit,zH,ab.cell];exact hu
   simp only;refine VT (o:=i*3) (i:=0) hb2 (by simp only[zO,g,A,zY,lE];omega) λv3 o3 P=>?_;refine cP (m:=i+1) aD O (iT aD aD aD (iT O O O ?_))
   have H:bY v3 b cs:=Ws o3 (e2.bT E id) (by have:=E.lt;omega);have d:(xs.drop (3*i)).length=3*(m-i):=by rw[j5];omega
   refine⟨xs.drop (3*i),by simp only;rw[pB O,d];omega,?_,λv hv=>h1 v (sq hv),?_⟩
   ·have r:¬s.cap=i:=by omega
    rw[zB r];simp only[ha,zX,add_lit];intro j v p;rw[add_lit,H.cell];rw[kP]at p;have:=w _ _ p;rw[show 0+i*3+j=3*i+j by omega];exact this
   have hbig:(xs.take (3*i)++(List.replicate (m+1-i) [Value.int .i64 0,.int .i64 0,.pointer none]).flatten++(List.replicate (cc-(m+1)) [Value.int .i64 0,.int .i64 0,.pointer none]).flatten).length=3*cc:=by
    simp only[zO,g,A];omega
   have tk:∀L:List Value,((xs.take (3*i)++(List.replicate (m+1-i) [Value.int .i64 0,.int .i64 0,.pointer none]).flatten++(List.replicate (cc-(m+1)) [Value.int .i64 0,.int .i64 0,.pointer none]).flatten).take (3*i))=xs.take (3*i):=λ_=>by
    rw[j3,oV O,mN O]
   have fin:∀v4,Qq v3 v4 U.size->bY v4 U.size ((xs.take (3*i)++[x,y,z])++xs.drop (3*i)++((xs.take (3*i)++(List.replicate (m+1-i) [Value.int .i64 0,.int .i64 0,.pointer none]).flatten++(List.replicate (cc-(m+1)) [Value.int .i64 0,.int .i64 0,.pointer none]).flatten).drop (3*i+3)).drop (3*(m-i)))->R ⟨some ⟨U.size,0,none⟩,m+1,cc⟩ v4:=by
    intro v4 o4 b4;refine hR _ v4 ?_ ⟨?_,.inr ⟨U.size,_,.inr (zD _),rfl,b4,by simp only;omega,?_,?_⟩⟩
    ·exact((e2.to.dS o3.ext λi hi=>by subst hi;exact .inr (zD _)).dS o4.ext λi hi=>by subst hi;exact .inr (zD _))
    ·simp only[zO,g,d,zY,lE];omega
    ·simp only[zO,g,d,zY,lE,j5,A];omega
    ·rw[j3 (xs.take (3*i)++[x,y,z]),←j3,yA];rfl
   have e3:(xs.take (3*i)++(List.replicate (m+1-i) [Value.int .i64 0,.int .i64 0,.pointer none]).flatten++(List.replicate (cc-(m+1)) [Value.int .i64 0,.int .i64 0,.pointer none]).flatten).take (i*3+0)=xs.take (3*i):=by
    rw[show i*3+0=3*i by omega];exact tk []
   rw[e3]at P;have D:(xs.take (3*i)++[x,y,z]++(xs.take (3*i)++(List.replicate (m+1-i) [Value.int .i64 0,.int .i64 0,.pointer none]).flatten++(List.replicate (cc-(m+1)) [Value.int .i64 0,.int .i64 0,.pointer none]).flatten).drop (i*3+0 + [x,y,z].length)).length=3*cc:=by
    simp only[zO,j5,g,A,zY,lE];omega
   by_cases r:cc=i+1
   ·exfalso;omega
   ·rw[zB r];simp only[zX,add_lit,zH];refine VT (o:=(i+1)*3) (i:=0) P (by rw[D,d];omega) λv4 o4 b4=>fin v4 o4 ?_;have q1:(i+1)*3+0=(xs.take (3*i)++[x,y,z]).length:=by rw[zO,g];simp;omega
    have q2:(i+1)*3+0+(xs.drop (3*i)).length=(xs.take (3*i)++[x,y,z]).length+3*(m-i):=by rw[d,q1]
    rw[q2,q1,yA,List.drop_append]at b4
    ·rw[List.drop_of_length_le (show(xs.take (3*i)++[x,y,z]).length<=(xs.take (3*i)++[x,y,z]).length+3*(m-i) by omega),tN]at b4;have q3:i*3+0 + [x,y,z].length=3*i+3:=by simp;omega
     rw[q3]at b4;have q4:(xs.take (3*i)++[x,y,z]).length+3*(m-i)-(xs.take (3*i)++[x,y,z]).length=3*(m-i):=by omega
     rw[q4]at b4;exact b4
    ·rfl
  ·-- room: the rest moves
   have hle3:m+1<=s.cap:=by omega
   have B:¬s.cap=0:=by omega
   have r:¬s.cap=i:=by omega
   refine cP (m:=m+1) aD O (iT (lo:=0) O O O ?_)
   rw[zB B];simp only[ha,zX,add_lit,tU,j6,Nat.sub_zero];refine cP (m:=i+1) aD O (iT aD aD aD ?_)
   have C:cs.take (3*m)=xs:=by rw[←hlen,show 3*s.len=xs.length by omega];exact ht
   have na:∃o',(if s.cap=i+1 then(some ⟨b,0,none⟩:Option Addr)else(some ⟨b,0,none⟩:Option Addr).map (·.add ((i+1)*3)))=some ⟨b,o',none⟩:=by
    split
    ·exact⟨0,rfl⟩
    ·exact⟨_,by simp[add_lit];rfl⟩
   obtain⟨o',na⟩:=na;refine PT (x:=⟨some ⟨vb,0,none⟩,1,1⟩) (a:=vb) (o:=0) (b:=b) rfl na hv E G (λe=>by rw[e]at M;simp at M;omega) (cD rfl ?_);refine cP (m:=i+1) aD O (iT aD aD aD (iT aD aD aD ?_))
   have J:¬s.cap=i+1:=by omega
   rw[zB J,zB r];simp only[zX,add_lit,zH];have d:(xs.drop (3*i)).length=3*(m-i):=by rw[j5];omega
   refine⟨xs.drop (3*i),by simp only;rw[Nat.min_eq_right O,d];omega,?_,λv hv=>h1 v (sq hv),?_⟩
   ·intro j v p;rw[add_lit,E.cell];rw[kP]at p;have:=w _ _ p;rw[show i*3+j=3*i+j by omega];exact this
   refine VT (o:=(i+1)*3) (i:=0) E (by rw[d];omega) λv3 o3 P=>?_;refine iT aD aD aD ?_
   rw[zB r];simp only[zX,add_lit,zH];have W:=Ws o3 hv G;refine⟨[x,y,z],by simp only;rw[pB O];rfl,?_,ho,?_⟩
   ·intro j u hu;rw[add_lit,zH,W.cell];exact hu
   have hl3:(cs.take ((i+1)*3+0)++xs.drop (3*i)++cs.drop ((i+1)*3+0+(xs.drop (3*i)).length)).length=cs.length:=by
    simp only[zO,zZ,j5,d];omega
   refine VT (o:=i*3) (i:=0) P (by rw[hl3];simp;omega) λv4 o4 b4=>?_;have a1:(cs.take ((i+1)*3+0)).length=3*i+3:=by rw[zZ];omega
   have g:(xs.take (3*i)).length=3*i:=by rw[zZ];omega
   have p1:(cs.take ((i+1)*3+0)++xs.drop (3*i)++cs.drop ((i+1)*3+0+(xs.drop (3*i)).length)).take (i*3+0)=xs.take (3*i):=by
    rw[j3,oV O,yH,pB O,←C,yH,pB O]
    congr 1;omega
   have p2:(cs.take ((i+1)*3+0)++xs.drop (3*i)++cs.drop ((i+1)*3+0+(xs.drop (3*i)).length)).drop (i*3+0 + [x,y,z].length)=xs.drop (3*i)++cs.drop ((i+1)*3+0+(xs.drop (3*i)).length):=by
    rw[j3,List.drop_left'];rw[a1];simp;omega
   rw[p1,p2,←j3]at b4;refine hR _ v4 ((Ext.eJ (F:=Q) o3 S).trans (Ext.eJ o4 S)) ⟨?_,.inr ⟨b,_,.inl S,rfl,b4,aD,?_,?_⟩⟩
   ·simp only[zO,g,zY,lE,d];omega
   ·simp only[zO,g,j5,zY,lE,d];omega
   ·rw[yA];rfl
def Zf (ss:List cF)(st:Nat):Nat:=(ss.takeWhile (λs=>s.st<st)).length
theorem Hx (l:List cF)(P:cF->Bool):l.takeWhile P=l.take (l.takeWhile P).length/\l.dropWhile P=l.drop (l.takeWhile P).length:=by
 induction l with
 | nil=>simp
 | cons x l ih=>
  simp only[List.takeWhile_cons,List.dropWhile_cons];cases P x
  ·simp
  ·simp only[zS,zY,uK,yg];exact⟨by rw[←ih.1],ih.2⟩
theorem vn (c:bZ)(ss:List cF)(st:Nat):ie c ss st=ss.take (Zf ss st)++⟨st,List.replicate c.n false⟩::ss.drop (Zf ss st):=by
 have:=Hx ss (λs=>decide (s.st<st));unfold ie Zf;rw[this.2,←this.1]
theorem Hr (hs:ss.Pairwise (λa b=>a.st<b.st))(st:Nat):Zf ss st<=ss.length/\∀(i:Nat) s,ss[i]?=some s->(s.st<st↔i<Zf ss st):=by
 unfold Zf
 induction ss with
 | nil=>simp
 | cons x ss ih=>
  have e:=r9.1 hs;obtain⟨j,g⟩:=ih e.2;simp only[List.takeWhile_cons];by_cases hx:x.st<st
  ·simp only[hx,decide_true,zS,zY];refine⟨O,λi s d=>?_⟩;cases i with
   | zero=>simp at d;subst d;simp[hx]
   | succ i=>have:=g i s (by simpa using d);omega
  ·simp only[hx,decide_false,zd,jP,lE,Nat.zero_le,Nat.not_lt_zero,iff_false,tB];intro i s d;cases i with
   | zero=>simp at d;subst d;exact hx
   | succ i=>
    have:=e.1 s (zG (i:=i) (by simpa using d));omega
theorem No (h:fB U F p c ps ss){σ1:Hp}(e1:bK U σ1){sl:Sl}{rb:Nat}{cs:List Value}(hl:sl.len=ss.length)(hE:ss≠[]->rh U F p ps ss sl rb cs)(st:Nat)(hst:st<=1024){R:Int->Bool->Hp->Prop}(hR:∀σ' b,bK σ1 σ'->R (Zf ss st:Int) b σ') :
 Wb.c sl (st:Int) ⟨259,#[],#[]⟩ σ1 R:=by
 refine Wb.o ?_;unfold Wb.v;have S:=h.pJ;obtain⟨L,kE⟩:=Hr h.py st;have D:∀(k:Nat) (x:Nat×Nat) s (v:Hp) (K:aN),ps[k]?=some x->ss[k]?=some s->bK σ1 v->(∀C,bK v C->K ((s.st:Int)-(st:Int)) C) →
  VW Tryz.prog ⟨259,#[],#[]⟩ [.agg #[.int .i64 (s.many:Int),.int .i64 (s.st:Int),.pointer (some ⟨x.1,0,none⟩)],.int .i64 (st:Int)] [.one bN] v K:=by
  intro k x s v K y g ev hK;refine pV (all := #[.agg #[.int .i64 (s.many:Int),.int .i64 (s.st:Int),.pointer (some ⟨x.1,0,none⟩)],.int .i64 (st:Int)]) (by kernel_rfl) aA ?_;refine Yu.o ?_;unfold Yu.v;have hf:=(h.sp k x s y g).fit;refine nw (cs:=[.int .i64 (s.many:Int),.int .i64 (s.st:Int),.pointer (some ⟨x.1,0,none⟩)]) λW hz e J=>J.eY rfl (ar O O (hK W e))
 refine UC (a:=bN) (bb:=bN) (λ(i j:Int) v=>∃a b:Nat,i=(a:Int)/\j=(b:Int)/\a<=Zf ss st/\Zf ss st<=b/\b<=ss.length/\bK σ1 v) (λi j _=>j.toNat-i.toNat) ⟨0,ss.length,rfl,by rw[hl],O,L,O,Ext.refl _ _⟩ ?_;rintro i j v ⟨a,b,rfl,rfl,X,J,z,ev⟩;have A:bK U v:=e1.trans ev;refine cQ (λY=>?_) λaa=>?_
 ·have w:ss≠[]:=by rintro rfl;simp at z;omega
  have E:=hE w;refine cP (m:=a+b) O O ?_;have hw:IntKind.u64.wrap ((a+b:Nat):Int)=((a+b:Nat):Int):=by
   unfold IntKind.wrap;simp[IntKind.bits,IntKind.signed];omega
  refine xy ?_;rw[hw];refine nn O ?_;have M:min (1:Int).toNat IntKind.u64.bits=1:=by decide
  rw[M,F5];have B:(((a+b:Nat):Int)/2^1)=(((a+b)/2:Nat):Int):=by omega
  refine cP (m:=(a+b)/2) B O ?_;have d:(a+b)/2<ss.length:=by omega
  obtain⟨x,s,y,g,Z⟩:=h.jD d;have u:=QE y g;rw[E.a];refine ix O O ?_;rw[add_lit,show 0+(((a+b)/2:Nat):Int).toNat*3=3*((a+b)/2) by omega];refine wN (e:=0) (A.bT E.bT id) (E.get u.1) (E.get u.2.1) (E.get u.2.2) (D _ x s v _ y g ev λC G=>?_);have r:=kE _ s g;show If (decide (((s.st:Int)-(st:Int))<0)) _ _;refine cQ (λQ=>?_) λP=>?_
  ·exact cP (m:=(a+b)/2+1) O O ⟨⟨_,b,rfl,rfl,by have:=r.1 O;omega,J,z,ev.trans G⟩,O⟩
  ·exact⟨⟨a,_,rfl,rfl,X,by
    apply Classical.byContradiction;intro hc;have:=r.2 O;omega,O,ev.trans G⟩,O⟩
 ·have H:a=Zf ss st:=by omega
  subst H;refine bW.intro (cQ (λN=>?_) λV=>hR v _ ev);have d:Zf ss st<ss.length:=by omega
  have w:ss≠[]:=by rintro rfl;simp at d
  have E:=hE w;obtain⟨x,s,y,g,Z⟩:=h.jD d;have u:=QE y g;rw[E.a];refine ix O O ?_;rw[add_lit,show 0+(Zf ss st:Int).toNat*3=3*Zf ss st by omega];refine wN (e:=0) (A.bT E.bT id) (E.get u.1) (E.get u.2.1) (E.get u.2.2) (D _ x s v _ y g ev λC G=>hR C _ (ev.trans G))
theorem RX (h:fB U F p c ps ss){st:Nat}(hf:st+c.aF<=1024){R:aN}(h9:Gb c ss st=9->∀σ',bK U σ'->R 9 σ')
 (h0:Gb c ss st=0->∀σ' ps',Ext F U σ'->fB σ' (Grow F U) p c ps' (ie c ss st)->R 0 σ'):YO.c (aW p) (st:Int) U R:=by
 refine YO.o ?_;unfold YO.v;have h:=fB.loc.cut h;obtain⟨sl,d,hl,aa,rb,cs,hE⟩:=h.mL;have hfew:=h.pJ;have hc:=h.ok;have hck:=hc;unfold bZ.ok at hck;refine VQ h (cB rfl (aG (d.eY rfl (d.eY rfl (d.eY rfl ?_)))));refine PS hc hf λv1 B K e1 hpn hqn Y=>cB rfl (aG ((e1.bT d id).rS rfl ?_));have hplt:=d.lt;refine Z0 (a:=bN) (λ(t:Int) v=>∃i:Nat,t=(i:Int)/\i<=ss.length/\bK v1 v/\∀(j:Nat) s,j<i->ss[j]?=some s->¬max s.st st-min s.st st<c.aF) (λt _=>ss.length-t.toNat) ⟨0,rfl,O,Ext.refl _ _,λj s z=>O⟩ ?_;rintro t v ⟨i,rfl,Z,ev,S⟩;have w:=e1.trans ev;refine cQ (λac=>?_) λhge=>?_
 ·simp only at ac;have ag:i<ss.length:=by omega
  obtain⟨E,hcap,hcl⟩:=hE (by rintro rfl;simp at ag);obtain⟨x,s,y,g,hS⟩:=h.jD ag;have eg:=QE y g;have hsf:=hS.fit;rw[E.a];refine ix O O ?_;rw[add_lit,show 0+(i:Int).toNat*3=3*i by omega];refine wN (e:=0) (w.bT E.bT id) (E.get eg.1) (E.get eg.2.1) (E.get eg.2.2) (EZ λv6 e6 b6=>b6.eY rfl (b6.eY rfl ?_));have hd:(if(st:Int)>(s.st:Int)then(st:Int)else(s.st:Int))-(if(st:Int)<(s.st:Int)then(st:Int)else(s.st:Int))=((max s.st st-min s.st st:Nat):Int):=by
   split<;>split<;>omega
  refine cP (m:=max s.st st-min s.st st) hd O (aG (((w.trans e6).bT d id).eY rfl ?_));refine cQ (λhlt2=>h9 ?_ _ (w.trans e6)) λhge2=>?_
  ·unfold Gb;rw[zC];exact kf.2 ⟨s,zG g,by simpa using(by omega:max s.st st-min s.st st<c.aF)⟩
  ·refine cP (m:=i+1) O O ⟨⟨i+1,rfl,O,ev.trans e6,λj s' z Q=>?_⟩,O⟩;by_cases e:j=i
   ·subst e;rw[g]at Q;cases Q;omega
   ·exact S j s' O Q
 ·have hii:i=ss.length:=by simp only at hge;omega
  subst hii;have hE0:Gb c ss st=0:=by
   unfold Gb;rw[zB];simp only[qd,mB,zU];intro s g;obtain⟨j,z⟩:=zQ g;exact S j s (cW.1 z).1 z
  refine aG ((w.bT d id).rS rfl ?_);refine No h w hl (λP=>(hE P).1) st O λv7 bb e7=>aG (((w.trans e7).bT d id).rS rfl ?_);have ab:=w.trans e7;obtain⟨hp1,kE⟩:=Hr h.py st;refine nw (cs:=[.int .i64 0,.int .i64 st,.pointer (some ⟨B,0,none⟩)]) λv8 hz8 e8 hb8=>?_;have J:=ab.trans e8;have X:=aI.bO aa J;have hsz7:=ab.1;refine Jj X hl O hp1 hb8 (λu=>by have:=u.1.2;omega) Dv ⟨rfl,rfl,rfl⟩ λs' v9 e9 hr9=>aG ?_;have hb9:=e9.bT (J.bT d id) λu=>u.2.1 rfl;refine hb9.s1 aA λW gH hb10=>?_;have H:=h.len;have D:=h.nd;simp only[zt]at D;have ac:=Y.lt;have hsz1:=(ev.trans e7).trans e8 |>.1;have A:∀b∈dY ps,b<U.size:=λb d=>(h.fb b d).2;have ad:∀{a b s'},gV v8 a b c s'->¬(Cut F U a/\a≠p/\a∉dY ps)->¬(Cut F U b/\b≠p/\b∉dY ps)->a≠p->b≠p->gV W a b c s':=λhS n1 n2 m1 m2=>(hS.bS e9 n1 n2).bS gH.ext m1 m2;have af:=((Y.bO ev).bO e7).bO e8;have ae:dP (ps.take (Zf ss st)++(B,K)::ps.drop (Zf ss st)) (ss.take (Zf ss st)++⟨st,List.replicate c.n false⟩::ss.drop (Zf ss st)) =
   (dP ps ss).take (3*Zf ss st)++[.int .i64 0,.int .i64 st,.pointer (some ⟨B,0,none⟩)]++(dP ps ss).drop (3*Zf ss st):=by
   rw[KY (by simp[H])];have r:dP ps ss=dP (ps.take (Zf ss st)) (ss.take (Zf ss st))++dP (ps.drop (Zf ss st)) (ss.drop (Zf ss st)):=by
    rw[←KY (by simp[H]),nU,nU]
   have h2:(dP (ps.take (Zf ss st)) (ss.take (Zf ss st))).length=3*Zf ss st:=by rw[QT (by simp[H]),zZ];omega
   rw[r,yA h2,List.drop_left' h2,j3];have:cF.many ⟨st,List.replicate c.n false⟩=0:=by simp[cF.many,yI]
   simp[dP,this]
  refine h0 hE0 W (ps.take (Zf ss st)++(B,K)::ps.drop (Zf ss st)) ?_ ?_
  ·refine(((bK.to J).trans (e9.sub λb d=>d.1.1))).trans (gH.ext.sub λb d=>d▸h.fp.1)
  ·have C:(dY (ps.take (Zf ss st)++(B,K)::ps.drop (Zf ss st))).Perm (B::K::dY ps):=by
    have:dY ps=dY (ps.take (Zf ss st))++dY (ps.drop (Zf ss st)):=by
     conv=>lhs;rw[←nU (Zf ss st) ps]
     simp only[dY,AD]
    rw[this];have h3:dY (ps.take (Zf ss st)++(B,K)::ps.drop (Zf ss st))=dY (ps.take (Zf ss st))++B::K::dY (ps.drop (Zf ss st)):=by simp[dY]
    rw[h3];exact List.perm_middle.trans ((List.perm_middle).cons B)
   have N:∀b,b∈dY (ps.take (Zf ss st)++(B,K)::ps.drop (Zf ss st))↔b=B\/b=K\/b∈dY ps:=by
    intro b;rw[C.mem_iff];simp
   refine⟨⟨s',hb10,?_⟩,λi x s y g=>?_,.inl h.fp.1,λb d=>?_,?_,?_,hc,?_⟩
   ·rw[vn,ae];refine aI.bS (aI.mono hr9 λb _ d=>?_) gH.ext λb _ d he=>d.2.1 he;rw[N];rcases d with d|d
    ·exact⟨.inl d.1.1,d.2.1,λu=>by
      rcases u with h|h|h
      ·have:=d.1.2;omega
      ·have:=d.1.2;omega
      ·exact d.2.2 h⟩
    ·exact⟨.inr O,O,λu=>by
      rcases u with h|h|h
      ·omega
      ·omega
      ·have:=A b h;omega⟩
   ·rw[vn]at g;have L:(ps.take (Zf ss st)).length=Zf ss st:=by rw[zZ];omega
    have M:(ss.take (Zf ss st)).length=Zf ss st:=by rw[zZ];omega
    have ah:∀j:Nat,ps[j]?=some x->ss[j]?=some s->gV W x.1 x.2 c s:=λj r h2=>by
     have G:=Qi r;exact ad ((h.sp j x s r h2).bO J) (λu=>u.2.2 G.1) (λu=>u.2.2 G.2) (λe=>D.1 (e▸G.1)) (λe=>D.1 (e▸G.2))
    rcases pO i (Zf ss st)with hlt'|heq|hgt
    ·rw[ze O,zj,zC hlt']at y g;exact ah i y g
    ·rw[zr O]at y g;rw[L,heq,qT]at y;rw[M,heq,qT]at g;simp at y g;subst y;subst g;exact ad af (λu=>by have:=u.1.2;simp only at this;omega) (λu=>by have:=u.1.2;simp only at this;omega) aC aC
    ·rw[zr O]at y g;rw[L]at y;rw[M]at g;obtain⟨k,hk⟩:∃k,i-Zf ss st=k+1:=⟨i-Zf ss st-1,O⟩;rw[hk,AU,kP]at y g;exact ah _ y g
   ·rcases(N b).1 d with r|r|r
    ·subst r;exact .inr hpn
    ·subst r;exact .inr hqn
    ·exact .inl (h.fb b r).1
   ·simp only[zt];refine⟨λG=>?_,?_⟩
    ·rcases(N p).1 G with r|r|r
     ·omega
     ·omega
     ·exact D.1 r
    ·rw[C.nodup_iff];simp only[zt,zW,not_or];have P:=Y.ne;exact⟨⟨P,λG=>by have:=A _ G;omega⟩,λG=>by have:=A _ G;omega,D.2⟩
   ·rw[vn];simp[H]
   ·rw[vn];rw[pD];have V:=h.py;refine⟨V.sublist (Bf _ _),r9.2 ⟨λs g=>?_,V.sublist (yX _ _)⟩,λa ha b d=>?_⟩
    ·obtain⟨j,z⟩:=zQ g;rw[kP]at z;have r:=kE _ s z;have h2:s.st≠st:=λe=>by
      have:=S (Zf ss st+j) s (cW.1 z).1 z;rw[e]at this;simp at this;omega
     show st<s.st;omega
    ·obtain⟨i,Z⟩:=zQ ha;rw[zj]at Z;split at Z
     ·rename_i hlt';have hat:=(kE i a Z).2 hlt';rcases zW.1 d with rfl|d
      ·exact hat
      ·obtain⟨j,z⟩:=zQ d;rw[kP]at z;obtain⟨hi1,hi2⟩:=cW.1 Z;obtain⟨hj1,hj2⟩:=cW.1 z;have:=k6.1 V i (Zf ss st+j) hi1 hj1 O;rw[hi2,hj2]at this;exact this
     ·cases Z
end Go.Ar
namespace Go.Proofs
open Go.Vc
set_option maxRecDepth 100000
def Xa.h:Hn:=.q .o1 (.q (.cS (.seq [.op,.op,.op,.cX true 5 (RI.ops 5),.op])) .l)
def Xa.v (a:R2)(b:Hp)(c:aO):Prop:=bW (λd e=>c d e) λf=>If (!a.isNone) (bD a 0 b λh=>f (decide (h>0)) b) (f false b)
theorem Xa.o {a b c}(d:Xa.v a b c):Xa.c a b c:=Wa Tryz.func180 (x:=Xa.h) (R0 d)
def ZM.h:Hn:=.q .o2 (.q (.q (.cS (.seq [.op,.op,.op,.cX false 2 [.op,.op],.op,.cX false 2 [.op,.op],.op,.cX false 2 [.op,.op]])) .aJ) (.q .o6 .l))
def ZM.v (a b:Int)(c:Hp)(d:Option Addr->Int->Hp->Prop):Prop:=bW (λe f=>bW (λg h=>bW (λi j=>If i (d none 1 j) (aV #[.I a,.I b,.I 0,.slice none 0 0] 266 j λk l=>d (some k) 0 l)) λm=>If g (m true h) (m (decide (b>8)) h)) λn=>If e (n true f) (n (decide (b<0)) f)) λo=>If (a<1) (o true c) (o (decide (a>32)) c)
theorem ZM.o {a b c d}(e:ZM.v a b c d):ZM.c a b c d:=Wa Tryz.func200 (x:=ZM.h) (R0 e)
def Wz.h:Hn:=.q .o2 (.q (.k (.q .o4 (.c .aL (.q .o7 .aJ)))) (.q .o7 (.q .o8 (.q .gH (.q .gH (.q .o3 .l))))))
def Wz.v (a:R2)(b:Hp)(c:Sl->Int->Hp->Prop):Prop:=Xa.c a b λd e=>If (!d) (c ⟨none,0,0⟩ 5 e) (bE a 3 e λg=>If (((g.len:Nat):Int)==0) (c ⟨none,0,0⟩ 4 e) (bE a 3 e λi=>bL (((i.len:Nat):Int)-1) λj=>bE a 3 e λl=>Ix l.a l.len j 1 λm=>jm m e λn=>bE a 3 e λp=>eX p 1 0 j (p.cap:Nat) λq=>bU a λr=>aR r 3 (.slice q.a q.len q.cap) e λs=>bD a 2 s λu=>bU a λv=>aR v 2 (.I (if j<u then j else u)) s λw=>c n 0 w))
theorem Wz.o {a b c}(d:Wz.v a b c):Wz.c a b c:=Wa Tryz.func207 (x:=Wz.h) (R0 d)
def WZ.h:Hn:=.q .o2 (.q (.k (.q .o4 (.c .aL (.q .o8 (.c .aL (.q (.oq 11) .aJ)))))) (.q (.cS (.held true [8,11] (.tk [0,1,2,3,4,5] (.all [(6,.all [(7,.all [(8,.take 9 (.take 10 (.all [(11,.done)])))])])])))) .aL))
def WZ.v (a:R2)(b:Sl)(c:Hp)(d:Bool->Int->Hp->Prop):Prop:=Xa.c a c λe f=>If (!e) (d false 5 f) (bD a 0 f λh=>If (((b.len:Nat):Int) != h) (d false 1 f) (bE a 3 f λj=>bD a 1 f λl=>If (((j.len:Nat):Int)≥l) (d false 0 f) (eN f λm=>bU a λn=>aT m n 3 λo=>WC.c b f λp q=>And (m q) <| aV #[.slice p.a p.len p.cap] 34 q λr s=>And (m s) <| App o 1 24 34 [.slice none 0 0] ⟨some r,1,1⟩ s λt u=>bU a λv=>aR v 3 (.slice t.a t.len t.cap) u λw=>d true 0 w)))
theorem WZ.o {a b c d}(e:WZ.v a b c d):WZ.c a b c d:=Wa Tryz.func266 (x:=WZ.h) (R0 e)
end Go.Proofs
namespace Go.Ar
open Go Go.Vc Go.Proofs
variable {U:Hp}{F:Rg}{p batch room:Nat}{t:gF}
def pG (s:Sl):Value:=.slice s.a s.len s.cap
def Wo (xs:List Int):List Value:=xs.map (Value.int .i64)
theorem Vx {l:List Int}:∀v∈Wo l,dN v=true:=by
 intro v hv;simp only[Wo,zE]at hv;obtain⟨x,_,rfl⟩:=hv;rfl
def qN (sls:List Sl)(bs:List (List Int))(U:Hp)(D:Rg):Prop:=sls.length=bs.length/\∀(i:Nat) s xs,sls[i]?=some s->bs[i]?=some xs->cV s 1 (Wo xs) U D/\s.len<=s.cap
theorem qN.loc (sls:List Sl)(bs:List (List Int)):dM (qN sls bs):=λU j F G h g e=>⟨h.1,λi s b d a=>⟨cV.loc _ _ _ _ _ _ _ (h.2 i s b d a).1 g e,(h.2 i s b d a).2⟩⟩
def Dj (sls:List Sl):Prop:=sls.Pairwise λs t=>∀a a',s.a=some a->t.a=some a'->a.block≠a'.block
def kG (s:Sl)(b:Nat):Prop:=∃a,s.a=some a/\a.block=b
theorem _root_.Go.Vc.cV.lD {s:Sl}{sz:Nat}{xs:List Value}{D:Rg}(h:cV s sz xs U D):cV s sz xs U λb=>D b/\kG s b:=
 ⟨h.1,h.2.imp id λ⟨b,o,d,e,a,r⟩=>⟨b,o,d,⟨e,_,a,rfl⟩,a,r⟩⟩
theorem _root_.Go.Vc.cV.bT {s:Sl}{sz:Nat}{xs:List Value}{D:Rg}(h:cV s sz xs U D)(hx:xs≠[]){b:Nat}(hb:kG s b):D b/\b<U.size:=by
 rcases h.2 with h0|⟨b',o,cs,hq,ha,hc,_⟩
 ·exact absurd h0 hx
 ·obtain⟨a,d,rfl⟩:=hb;rw[ha]at d;cases d;exact⟨hq,hc.lt⟩
theorem Dj.snoc {sls:List Sl}{bs:List (List Int)}{D:Rg}{z:Nat}{s':Sl}{xs:List Value}{v:Hp}(h:Dj sls)(hB:qN sls bs U D)(hne:∀xs∈bs,xs≠[])(hz:∀b,D b->b<z)(hs:bR s' 1 xs v λb=>z<=b)(hx:xs≠[]):Dj (sls++[s']):=by
 refine pD.2 ⟨h,List.pairwise_singleton _ _,λs e u j a r w p=>?_⟩;rw[zN]at j;subst j;obtain⟨i,m⟩:=zQ e;have g:=(cW.1 m).1;have d:bs[i]?=some (bs[i]'(by rw[←hB.1];exact g)):=cT _;have x:=((hB.2 i s _ m d).1.bT (by simp only[Wo,ne_eq,vj];exact hne _ (zG d)) ⟨a,w,rfl⟩).1;have y:=(hs.gQ.bT hx ⟨r,p,rfl⟩).1;have:=hz _ x;omega
structure jr (U:Hp) (F:Rg) (p batch room:Nat) (t:gF):Prop where
 mem:∃(sl:Sl) (sls:List Sl) (D:Rg),bY U p [.int .i64 (batch:Int),.int .i64 (room:Int),.int .i64 (t.low:Int),.slice sl.a sl.len sl.cap]/\bR sl 1 (sls.map pG) U (λb=>F b/\b≠p/\¬D b)/\qN sls t.bs U D/\(∀b,D b->F b/\b≠p)/\Dj sls
 fp:F p
 b1:1<=batch/\batch<=32
 r1:room<=8
 pJ:t.bs.length<=room
 low:t.low<=t.bs.length
 all:∀xs∈t.bs,xs.length=batch
theorem jr.loc:dM λU F=>jr U F p batch room t:=λU x F G h r d=>by
 obtain⟨sl,i,D,a,w,s,j,u⟩:=h.mem;refine⟨⟨sl,i,λb=>D b/\b<U.size,?_,?_,?_,λb a=>⟨(d b a.2 (j b a.1).1).1,(j b a.1).2⟩,u⟩,(d p a.lt h.fp).1,h.b1,h.r1,h.pJ,h.low,h.all⟩
 ·obtain⟨e,m⟩:=a;exact⟨e,(d p (bY.lt ⟨e,m⟩) h.fp).2.trans m⟩
 ·exact bR.loc _ _ _ _ _ _ _ w r λb a g=>⟨⟨(d b a g.1).1,g.2.1,λhd=>g.2.2 hd.1⟩,(d b a g.1).2⟩
 ·exact qN.loc _ _ _ _ _ _ s r λb a hd=>⟨⟨hd,a⟩,(d b a (j b hd).1).2⟩
theorem AG (h:jr U F p batch room t){R:aO}(hR:R true U):Xa.c (aW p) U R:=by
 refine Xa.o ?_;unfold Xa.v;obtain⟨sl,a,D,b,_⟩:=h.mem;have:=h.b1;refine bW.intro (cD rfl (aG (b.rI rfl ?_)));rw[zJ O];exact hR
theorem _root_.Go.Vc.cV.LC {s:Sl}{F:Rg}{sls:List Sl}(h:cV s 1 (sls.map pG) U F){i:Nat}{x:Sl}(hx:sls[i]?=some x){K:Sl->Prop}(hK:K x):Ix s.a s.len (i:Int) 1 λa=>jm a U K:=by
 have m:=(cW.1 hx).1;obtain⟨b,o,d,g⟩:=h.cell (j:=i) (v:=pG x) (by simp[hx]);have e:=h.1;rw[zl]at e;rw[d];refine ix O O ?_;rw[add_lit];exact nH (by simpa[pG]using g) hK
theorem MD (h1:1<=batch)(h2:batch<=32)(h3:room<=8){R:Option Addr->Int->Hp->Prop}(hR:∀σ' p,bK U σ'->U.size<=p->p<σ'.size->jr σ' (· = p) p batch room ⟨0,[]⟩->R (some ⟨p,0,none⟩) 0 σ'):ZM.c batch room U R:=by
 refine ZM.o ?_;unfold ZM.v;refine bW.intro (fT O (bW.intro (fT O (bW.intro (fT O (fT O ?_))))));refine nw (cs:=[.int .i64 batch,.int .i64 room,.int .i64 0,.slice none 0 0]) λv g e a=>?_;exact hR v _ e (zD _) O ⟨⟨⟨none,0,0⟩,[],λ_=>False,a,bR.nil _ _ _ _,⟨rfl,λi s d h=>by simp at h⟩,λb h=>h.elim,List.Pairwise.nil⟩,rfl,⟨h1,h2⟩,h3,by simp,by simp,by simp⟩
theorem MO (h:jr U F p batch room t){sl:Sl}{xs:List Int}{X:Rg}(hs:cV sl 1 (Wo xs) U X)(hl:xs.length<=1000000){R:Bool->Int->Hp->Prop}(h1:xs.length≠batch->R false 1 U)(h2:xs.length=batch->room<=t.bs.length->R false 0 U)
 (h3:xs.length=batch->t.bs.length<room->∀σ',Ext F U σ'->jr σ' (Grow F U) p batch room {t with bs:=t.bs++[xs]}->R true 0 σ'):WZ.c (aW p) sl U R:=by
 refine WZ.o ?_;unfold WZ.v;have h:=jr.loc.cut h;obtain⟨C,w,D,d,hr,x,K,hJ⟩:=h.mem;have r:sl.len=xs.length:=by have:=hs.1;simp[Wo]at this;omega
 have hso:C.len=t.bs.length:=by have:=hr.1;rw[zl,x.1]at this;omega
 have hr8:=h.r1;have hb1:=h.b1;refine AG h (cB rfl (aG (d.rI rfl ?_)));rw[qE];refine cO (λz=>h1 (by rw[←r];simpa using z)) λM=>?_;have g:xs.length=batch:=by rw[←r];simpa using M
 refine aG (d.rS rfl (aG (d.rI rfl (cQ (λZ=>h2 g (by simp only at Z;omega)) λQ=>?_))));simp only at Q;refine⟨λh'=>bY h' p [.int .i64 (batch:Int),.int .i64 (room:Int),.int .i64 (t.low:Int),.slice C.a C.len C.cap],d,aG ⟨C,λh' S=>by rw[add_lit,S.cell];rfl,?_⟩⟩;refine U8 hs Vx O λA v1 hl1 e1 y=>⟨e1.bT d id,?_⟩;refine nw (cs:=[.slice A.a A.len A.cap]) λv2 hz2 e2 N=>⟨(e1.trans e2).bT d id,?_⟩;have W:=aI.bO (aI.bO hr e1) e2;refine W.app (ys:=[pG A]) rfl rfl ?_ (by simp[dN,pG]) ?_ ?_ mO λs2 v3 hl3 e3 L=>aG ?_
 ·intro j u hu;rw[add_lit,zH,N.cell];exact hu
 ·simp only;have:(C.len+1)*24<=9*24:=l0 O O;omega
 ·simp only;omega
 ·have P:=e3.bT ((e1.trans e2).bT d id) λE=>E.2.1 rfl;have hplt:=d.lt;have hs1:=e1.1;refine P.s1 aA λv4 o4 Y=>h3 g O v4 ?_ ?_
  ·exact((bK.to (e1.trans e2)).trans (e3.sub λb d=>d.1.1)).trans (o4.ext.sub λb d=>d▸h.fp.1)
  ·refine⟨⟨s2,w++[A],λb=>D b/\b<U.size\/U.size<=b/\b<v1.size,Y,?_,⟨by simp[x.1],λi s ys B m=>?_⟩,λb d=>?_,?_⟩,.inl h.fp.1,h.b1,h.r1,by simp;omega,by have:=h.low;simp;omega,λys m=>?_⟩
   ·rw[zz];refine aI.bS (aI.mono L λb _ d=>?_) o4.ext λb _ d V=>d.2.1 V;rcases d with d|d
    ·exact⟨.inl d.1.1,d.2.1,λhd=>by
      rcases hd with hd|hd
      ·exact d.2.2 hd.1
      ·have:=d.1.2;omega⟩
    ·exact⟨.inr O,O,λhd=>by rcases hd with hd|hd<;>omega⟩
   ·have mv:∀{s:Sl} {ys:List Int} {G:Rg},cV s 1 (Wo ys) v2 G->(∀b,G b->b≠p/\¬(Cut F U b/\b≠p/\¬D b))->cV s 1 (Wo ys) v4 G:=λS hn=>
     aH.bS (aH.bS S e3 λb _ d=>(hn b d).2) o4.ext λb _ d V=>(hn b d).1 V
    rcases kg i w.length with hi'|hi'
    ·rw[ze hi']at B;rw[ze (by rw[←x.1];exact hi')]at m;obtain⟨k1,k2⟩:=x.2 i s ys B m;refine⟨aH.mono (mv (aH.bO (aH.bO (aH.mono k1 (G:=λb=>D b/\b<U.size) λb d hd=>⟨hd,d⟩) e1) e2) λb hd=>⟨(K b hd.1).2,λE=>E.2.2 hd.1⟩) λb _ hd=>.inl hd,k2⟩
    ·rw[zr hi']at B;rw[zr (by rw[←x.1];exact hi')]at m;have H:i-w.length=0:=by
      have:=(cW.1 B).1;simp at this;omega
     rw[H]at B;rw[show i-t.bs.length=0 by rw[←x.1];exact H]at m;simp at B m;subst B;subst m;have J:A.len<=A.cap:=by
      rcases y.2 with⟨q1,q2⟩|⟨_,_,_,_,_,q,_⟩
      ·omega
      ·exact q
     refine⟨aH.mono (mv (aH.bO (aH.mono y.gQ (G:=λb=>U.size<=b/\b<v1.size) λb d hd=>⟨hd,d⟩) e2) λb hd=>⟨O,λE=>by have:=E.1.2;omega⟩) λb _ hd=>.inr hd,J⟩
   ·rcases d with hd|hd
    ·exact⟨.inl (K b hd.1).1.1,(K b hd.1).2⟩
    ·exact⟨.inr hd.1,O⟩
   ·have z:∀ys∈t.bs,ys≠[]:=λys m e=>by have:=jr.all ‹_› ys m;rw[e]at this;simp at this;omega
    exact hJ.snoc x z (λb hd=>(K b hd).1.2) y (by simp only[Wo,ne_eq,vj];intro e;rw[e]at g;simp at g;omega)
   ·rcases zK.1 m with h|h
    ·exact jr.all ‹_› ys h
    ·simp at h;subst h;exact g
theorem Jl (h:jr U F p batch room t)(h0:t.bs=[]){R:Sl->Int->Hp->Prop}(hR:R ⟨none,0,0⟩ 4 U):Wz.c (aW p) U R:=by
 refine Wz.o ?_;unfold Wz.v;obtain⟨b,d,D,e,i,g,m,j⟩:=h.mem;have a:b.len=t.bs.length:=by have:=i.1;rw[zl,g.1]at this;omega
 refine AG h (cB rfl (aG (e.rS rfl (cD ?_ hR))));simp[a,h0]
theorem Pv (h:jr U F p batch room t)(h0:t.bs≠[]){R:Sl->Int->Hp->Prop}(hR:∀out σ',Ext F U σ'->(∀b,kG out b->F b)->cV out 1 (Wo (t.bs.getLast?.getD [])) σ' (kG out)->out.len<=out.cap->jr σ' (λb=>F b/\¬kG out b) p batch room t.rem->R out 0 σ'):Wz.c (aW p) U R:=by
 refine Wz.o ?_;unfold Wz.v;obtain⟨K,g,D,d,J,x,B,Y⟩:=h.mem;have hso:K.len=t.bs.length:=by have:=J.1;rw[zl,x.1]at this;omega
 have aa:=pX.2 h0;have ac:=h.r1;have ad:=h.pJ;have W:=h.low;have M:t.bs.length-1<g.length:=by rw[x.1];omega
 obtain⟨o,S⟩:∃o,g[t.bs.length-1]?=some o:=⟨_,cT M⟩;have j:t.bs[t.bs.length-1]?=some (t.bs.getLast?.getD []):=by
  rw[List.getLast?_eq_getElem?,cT O];rfl
 obtain⟨Z,k2⟩:=x.2 _ o _ S j;refine AG h (cB rfl (aG (d.rS rfl (cB ?_ ?_))))
 ·simp only[mJ];omega
 refine aG (d.rS rfl (cP (m:=t.bs.length-1) aC O (aG (d.rS rfl ?_))));refine J.gQ.LC S (aG (d.rS rfl ?_));have ab:K.len<=K.cap:=by
  rcases J.2 with⟨q1,q2⟩|⟨_,_,_,_,_,q,_⟩
  ·omega
  ·exact q
 refine iT (lo:=0) O aD aD (aG (d.s1 aA λv1 o1 E=>aG (E.rI rfl (aG ?_))))
 refine E.s1 aA λv2 o2 r=>?_;have u:Ext (· = p) U v2:=o1.ext.trans o2.ext;have C:(if((t.bs.length-1:Nat):Int)<(t.low:Int)then((t.bs.length-1:Nat):Int)else(t.low:Int))=((min t.low (t.bs.length-1):Nat):Int):=by split<;>omega
 rw[C]at r;have Q:∀y∈t.bs,y≠[]:=λy w e=>by have X:=h.all y w;have h2:=h.b1;rw[e]at X;simp at X;omega
 have z:∀b,kG o b->D b:=λb d=>(Z.bT (by simp only[Wo,ne_eq,vj];exact Q _ (zG j)) d).1;refine hR o v2 (u.sub λb d=>d▸h.fp) (λb d=>(B b (z b d)).1) (aH.mono (aH.bS Z u λb _ d G=>(B b d).2 G).lD λb _ hd=>hd.2) k2 ⟨⟨_,g.dropLast,λb=>D b/\¬kG o b,r,?_,⟨by simp[x.1,gF.rem],λi s y H w=>?_⟩,λb hd=>⟨⟨(B b hd.1).1,hd.2⟩,(B b hd.1).2⟩,List.Pairwise.sublist (List.dropLast_sublist _) Y⟩,⟨h.fp,λd=>(B p (z p d)).2 rfl⟩,h.b1,h.r1,by simp[gF.rem];omega,by simp[gF.rem];omega,λy w=>h.all y (List.dropLast_subset _ w)⟩
 ·refine aI.bS ?_ u λb _ d G=>d.2.1 G;refine⟨by simp[x.1],?_⟩;rcases J.2 with⟨q1,q2⟩|⟨b,cs,hq,P,hbb,hle,hcl,ht⟩
  ·omega
  ·refine .inr ⟨b,cs,⟨⟨hq.1,λd=>hq.2.2 (z b d)⟩,hq.2.1,λhd=>hq.2.2 hd.1⟩,?_,hbb,by simp only;omega,by simp only;omega,?_⟩
   ·simp only[P];split<;>simp[add_lit]
   ·simp only[zl]at ht ⊢;have hd:g.dropLast.map pG=(g.map pG).take (g.length-1):=by rw[xm,List.map_take]
    rw[hd,←ht,yH,Bz]
    congr 1;omega
 ·have A:i<t.bs.length-1:=by
   have:=(cW.1 w).1;simpa[gF.rem]using this
  rw[xm,zj]at H;simp only[gF.rem,xm,zj]at w;rw[zC (by rw[x.1];exact A)]at H;rw[zC A]at w;obtain⟨m1,m2⟩:=x.2 i s y H w;refine⟨aH.mono (aH.bS m1 u λb _ d G=>(B b d).2 G).lD λb _ d=>⟨d.1,λr=>?_⟩,m2⟩;obtain⟨a,P,e1⟩:=d.2;obtain⟨a',V,e2⟩:=r;obtain⟨L,rfl⟩:=cW.1 H;obtain⟨N,rfl⟩:=cW.1 S;exact k6.1 Y i _ L N A a a' P V (e1.trans e2.symm)
def vH (out:Sl)(bs:List (List Int))(U:Hp)(G:Rg):Prop:=∃sls:List Sl,cV out 1 (sls.map pG) U G/\qN sls bs U G
theorem vH.loc (out:Sl)(bs:List (List Int)):dM (vH out bs):=λU i F G ⟨a,g,e⟩ d b=>⟨a,cV.loc _ _ _ _ _ _ _ g d b,qN.loc _ _ _ _ _ _ e d b⟩
end Go.Ar
namespace Go.Ar
open Go Go.Vc Go.Proofs
open Go.Bu (Zb)
variable {U:Hp}{F:Rg}{p:Nat}{ow:Nat->Nat}
def uX (ow:Nat->Nat)(x:Nat)(l:List (Nat×Nat×Nat)):Prop:=
 l.length<=x/\(∀r∈l,1<=r.2.1/\r.1+r.2.1<=x/\∀y,r.1<=y->y<r.1+r.2.1->ow y=r.2.2)/\∀y,y<x->ow y≠0->∃r∈l,r.1<=y/\y<r.1+r.2.1
theorem uX.new {x:Nat}{l:List (Nat×Nat×Nat)}(h:uX ow x l):uX ow (x+1) (l++[(x,1,ow x)]):=by
 refine⟨by simp;exact h.1,λr d=>?_,λy g e=>?_⟩
 ·rcases zK.1 d with a|a
  ·exact⟨(h.2.1 r a).1,by have:=(h.2.1 r a).2.1;omega,(h.2.1 r a).2.2⟩
  ·simp at a;subst a;exact⟨zD _,zD _,λy a b=>by simp only at a b ⊢;rw[show y=x by omega]⟩
 ·rcases kg y x with a|a
  ·obtain⟨r,d,b⟩:=h.2.2 y a e;exact⟨r,ko _ d,b⟩
  ·exact⟨(x,1,ow x),by simp,by simp only;omega⟩
theorem uX.more {x a m no:Nat}{l:List (Nat×Nat×Nat)}(h:uX ow x (l++[(a,m,no)]))(he:a+m=x)(hno:ow x=no):uX ow (x+1) (l++[(a,m+1,no)]):=by
 refine⟨by have:=h.1;simp at this ⊢;omega,λr e=>?_,λy i g=>?_⟩
 ·rcases zK.1 e with b|b
  ·have:=h.2.1 r (ko _ b);exact⟨this.1,O,this.2.2⟩
  ·simp at b;subst b;have:=h.2.1 (a,m,no) aA;refine⟨by simp only;omega,by simp only;omega,λy b d=>?_⟩;simp only at b d ⊢;rcases kg y (a+m)with h3|h3
   ·exact this.2.2 y b h3
   ·rw[show y=x by omega];exact hno
 ·rcases kg y x with b|b
  ·obtain⟨r,e,d⟩:=h.2.2 y b g;rcases zK.1 e with h3|h3
   ·exact⟨r,ko _ h3,d⟩
   ·simp at h3;subst h3;exact⟨(a,m+1,no),by simp,by simp only at d ⊢;omega⟩
  ·exact⟨(a,m+1,no),by simp,by simp only;have:=h.2.1 (a,m,no) aA;simp only at this;omega⟩
end Go.Ar
namespace Go.Proofs
open Go.Vc
set_option maxRecDepth 100000
def Yc.h:Hn:=.q .o1 (.q (.q .o4 (.q .o2 .aJ)) (.q .o5 .aM))
def Yc.v (a:R2)(b c:Int)(d:Hp)(e:aN):Prop:=Xl.c a b 1 d λf g=>If (f != 0) (e f g) (Nz 8<|bL (b.tdiv 8) λh=>Y1.c a h c g λi=>e 0 i)
theorem Yc.o {a b c d e}(f:Yc.v a b c d e):Yc.c a b c d e:=Wa Tryz.func62 (x:=Yc.h) (R0 f)
def YJ.h:Hn:=.q .o2 (.q (.q .o4 (.q .o2 (.c (.q .o3 .l) .l))) (.q .o6 .l))
def YJ.v (a:R2)(b:Int)(c:Hp)(d:Int->Int->Hp->Prop):Prop:=Xl.c a b 1 c λe f=>If (e != 0) (d 0 e f) (Nz 8<|bL (b.tdiv 8) λg=>YS.c a g f λh i=>d h 0 i)
theorem YJ.o {a b c d}(e:YJ.v a b c d):YJ.c a b c d:=Wa Tryz.func83 (x:=YJ.h) (R0 e)
def Xl.h:Hn:=.q .o1 (.q (.k (.q .o4 (.c .aM (.q .o3 (.c .aM (.q (.cS (.seq [.op,.op,.op,.cX false 3 (RI.ops 3),.op])) .aK)))))) (.q .gH (.q (.q (.cS (.ib true [] [(50,.one .b)] (.tk [0,1,2,3,4,5,6,7] (.split 39 (.tk [8,9,10,11,12,13,14,15,16,17,18] (.done)) (.tk [8,9,10,11,12,13,14,15,16] (.all [(17,.take 18 (.done))])))))) .aK) .aM)))
def Xl.v (a:R2)(b c:Int)(d:Hp)(e:aN):Prop:=Xt.c a d λf g=>If (!f) (e 5 g) (If (c==0) (e 0 g) (bW (λh i=>If h (e 7 i) (Nz 256<|bL (b.tdiv 256) λj=>Nz 8<|bL (b.tdiv 8) λk=>bL (k+c) λl=>bL (l-1) λm=>Nz 32<|bL (m.tdiv 32) λn=>Jn [.b] (λ(o:Bool) p=>If o (e 7 p) (e 0 p)) λq=>eN i λr=>bU a λs=>aT r s 0 λt=>If (n≥((t.len:Nat):Int)) (q true i) (bU a λu=>aT r u 0 λv=>bL (n+1) λw=>eX v 2 j w (v.cap:Nat) λx=>gC r .b ((Addr.mk 0 0 none).add 0) λ(y:Bool)=>gC r .b ((Addr.mk 0 0 none).add 1) λ(z:Bool)=>Wj.c x y z i λaa ab=>And (r ab) <| q aa ab))) λac=>If (b<0) (ac true g) (Nz 8 <| ac ((b.tmod 8) != 0) g)))
theorem Xl.o {a b c d e}(f:Xl.v a b c d e):Xl.c a b c d e:=Wa Tryz.func88 (x:=Xl.h) (R0 f)
def Y1.h:Hn:=.q .o3 (.j8 [] (.q (.oq 9) (.c (.q (.cS (.tail 7 (RI.ops 7) [.op])) (.q (.cS (.held true [6] (.tk [0,1,2,3,4] (.all [(5,.all [(6,.done)])])))) (.cS (.tail 13 (RI.ops 13) [.op])))) .l)) (.o 11))
def Y1.v (a:R2)(b c:Int)(d:Hp)(e:aP):Prop:=Nz 32<|bL (b.tdiv 32) λf=>Jn [] (λg=>bI a 1 g λi=>Lk .i64 .s i f g λj=>Nz 32 <| Ix (j.getD ⟨none,0,0⟩).a (j.getD ⟨none,0,0⟩).len (b.tmod 32) 1 λk=>dX k (.I c) g λl=>e l) λm=>bE a 0 d λo=>Ix o.a o.len f 2 λp=>aZ p 0 d λq=>aZ p 1 d λr=>lB ((Addr.mk 1 0 none).add 0) d λs=>lB ((Addr.mk 1 0 none).add 1) d λt=>If (!((q==s)&&((r==t)&&true))) (bE a 0 d λv=>lB ((Addr.mk 1 0 none).add 0) d λw=>lB ((Addr.mk 1 0 none).add 1) d λx=>Ix v.a v.len f 2 λy=>aR y 0 (.bool w) d λz=>aR y 1 (.bool x) z λaa=>eN aa λab=>bU a λac=>gC ab .m (ac.add 1) λ(ad:Option Nat)=>Mk 32 32 8 3 [.I 0] aa λae af=>And (ab af) <| kv .i64 .s ad f ae af λag=>bD a 2 ag λai=>bI a 1 ag λak=>qf .i64 .s ak ag λal=>bU a λam=>aR am 2 (.I (if al>ai then al else ai)) ag λan=>m an) (m d)
theorem Y1.o {a b c d e}(f:Y1.v a b c d e):Y1.c a b c d e:=Wa Tryz.func89 (x:=Y1.h) (R0 f)
def XA.h:Hn:=.q .o1 (.q (.q .o3 .aK) (.q .o6 .l))
def XA.v (a:R2)(b:Hp)(c:aN):Prop:=Xt.c a b λd e=>If (!d) (c 0 e) (bE a 0 e λg=>c ((g.len:Nat):Int) e)
theorem XA.o {a b c}(d:XA.v a b c):XA.c a b c:=Wa Tryz.func108 (x:=XA.h) (R0 d)
def Xt.h:Hn:=.q .o1 (.q (.cS (.seq [.op,.op,.op,.cX true 6 (RI.ops 6),.op])) .l)
def Xt.v (a:R2)(b:Hp)(c:aO):Prop:=bW (λd e=>c d e) λf=>If (!a.isNone) (bE a 0 b λh=>f (decide (((h.len:Nat):Int)>0)) b) (f false b)
theorem Xt.o {a b c}(d:Xt.v a b c):Xt.c a b c:=Wa Tryz.func109 (x:=Xt.h) (R0 d)
def YS.h:Hn:=.q .o1 (.q (.q (.o 12) (.q .o1 (.c (.q .o6 .l) .l))) .aM)
def YS.v (a:R2)(b:Int)(c:Hp)(d:aN):Prop:=bI a 1 c λf=>Nz 32<|bL (b.tdiv 32) λg=>Lk .i64 .s f g c λh=>If h.isSome (Nz 32 <| Ix (h.getD ⟨none,0,0⟩).a (h.getD ⟨none,0,0⟩).len (b.tmod 32) 1 λi=>bM i c λj=>d j c) (d 0 c)
theorem YS.o {a b c d}(e:YS.v a b c d):YS.c a b c d:=Wa Tryz.func117 (x:=YS.h) (R0 e)
def QP.h:Hn:=.q .o2 (.q (.q (.cS (.seq [.op,.op,.op,.cX false 2 [.op,.op]])) .aJ) (.q .o7 .l))
def QP.v (a:Int)(b:Hp)(c:Option Addr->Int->Hp->Prop):Prop:=bW (λd e=>If d (c none 1 e) (Mk a a 2 161 [.bool false,.bool false] e λf g=>Nw (.map #[] 0) g λh i=>aV #[.slice f.a f.len f.cap,.map (some h.block),.I 0] 165 i λj k=>c (some j) 0 k)) λl=>If (a<1) (l true b) (l (decide (a>1024)) b)
theorem QP.o {a b c}(d:QP.v a b c):QP.c a b c:=Wa Tryz.func142 (x:=QP.h) (R0 d)
def YT.h:Hn:=.q .o2 (.q (.k (.q .o4 (.c .aL (.q (.cS (.seq [.op,.op,.op,.cX false 2 [.op,.op],.op,.cX false 7 (RI.ops 7),.op,.cX false 9 (RI.ops 9),.op])) .aJ)))) (.q (.o 11) .l))
def YT.v (a:R2)(b c:Int)(d:Hp)(e:Sl->Int->Hp->Prop):Prop:=Xt.c a d λf g=>If (!f) (e ⟨none,0,0⟩ 5 g) (bW (λh i=>bW (λj k=>bW (λl m=>If l (e ⟨none,0,0⟩ 1 m) (bE a 0 m λo=>bL (b+c) λp=>eX o 2 b p (o.cap:Nat) λq=>e q 0 m)) λr=>If j (r true k) (bE a 0 k λt=>bL (((t.len:Nat):Int)-b) λu=>r (decide (c>u)) k)) λv=>If h (v true i) (bE a 0 i λx=>v (decide (b>((x.len:Nat):Int))) i)) λy=>If (b<0) (y true g) (y (decide (c<1)) g))
theorem YT.o {a b c d e}(f:YT.v a b c d e):YT.c a b c d e:=Wa Tryz.func273 (x:=YT.h) (R0 f)
def YX.h:Hn:=.q .o1 (.q .o2 (.k (.loop [(8,.I)] (.q (.q .o5 (.c .l .l)) (.q (.k (.q (.cS (.tail 7 (RI.ops 7) [.op])) .o6)) .o3)))))
def YX.v (a:R2)(b c:Int)(d e:Bool)(f:Hp)(g:aP):Prop:=aV #[.bool d,.bool e] 161 f λh i=>X9 [bN] (λj=>j b i) λk (l:Int) m=>bL (b+c) λn=>If (l<n) (bE a 0 m λp=>aZ h 0 m λq=>aZ h 1 m λr=>Ix p.a p.len l 2 λs=>aR s 0 (.bool q) m λt=>aR s 1 (.bool r) t λu=>bI a 1 u λw=>lz .i64 .s w l u λx=>bL (l+1) λy=>k y x) (g m)
theorem YX.o {a b c d e f g}(h:YX.v a b c d e f g):YX.c a b c d e f g:=Wa Tryz.func274 (x:=YX.h) (R0 h)
def YZ.h:Hn:=.q .o1 (.q .o9 (.q (.k (.q .o3 (.c .aL (.q .o3 .aK)))) (.q .o5 .aM)))
def YZ.v (a:R2)(b c:Int)(d:Hp)(e:aN):Prop:=YT.c a b c d λf g h=>If (g != 0) (e g h) (Wg.c f ⟨309,#[],#[]⟩ h λi j=>If i (e 5 j) (lB ((Addr.mk 2 0 none).add 0) j λk=>lB ((Addr.mk 2 0 none).add 1) j λl=>YX.c a b c k l j λm=>e 0 m))
theorem YZ.o {a b c d e}(f:YZ.v a b c d e):YZ.c a b c d e:=Wa Tryz.func286 (x:=YZ.h) (R0 f)
def Yq.h:Hn:=.q .o2 (.q .o4 .l)
def Yq.v (a b:Bool)(c:Hp)(d:aO):Prop:=aV #[.bool a,.bool b] 161 c λe f=>aZ e 0 f λg=>aZ e 1 f λh=>lB ((Addr.mk 0 0 none).add 0) f λi=>lB ((Addr.mk 0 0 none).add 1) f λj=>d (!((g==i)&&((h==j)&&true))) f
theorem Yq.o {a b c d}(e:Yq.v a b c d):Yq.c a b c d:=Wa Tryz.func309 (x:=Yq.h) (R0 e)
end Go.Proofs
namespace Go.Ar
open Go Go.Vc Go.Proofs
open Go.Bu (Zb)
variable {U:Hp}{F:Rg}{p q r:Nat}{sp:Sp}
structure Gl (U:Hp):Prop where
 c0:cell U ⟨2,0,none⟩=some (.bool true)
 c1:cell U ⟨2,1,none⟩=some (.bool false)
 u0:cell U ⟨0,0,none⟩=some (.bool false)
 u1:cell U ⟨0,1,none⟩=some (.bool false)
structure Gc (U:Hp):Prop where
 d0:cell U ⟨1,0,none⟩=some (.bool true)
 d1:cell U ⟨1,1,none⟩=some (.bool true)
structure Gd (U:Hp):Prop where
 lt:1<U.size
def iN (F:Rg):Prop:=∀b,F b->b≠2/\b≠0
theorem Q8 {h:Hp}{b o:Nat}{v:Value}(hc:cell h ⟨b,o,none⟩=some v):b<h.size:=(CX hc).1
theorem Gl.bS {σ':Hp}(g:Gl U)(e:Ext F U σ')(hF:iN F):Gl σ':=by
 have b:¬F 2:=λh=>(hF _ h).1 rfl;have a:¬F 0:=λh=>(hF _ h).2 rfl;exact⟨(Q7 e (Q8 g.c0) b).trans g.c0,(Q7 e (Q8 g.c1) b).trans g.c1,(Q7 e (Q8 g.u0) a).trans g.u0,(Q7 e (Q8 g.u1) a).trans g.u1⟩
theorem Gc.bS {σ':Hp}(g:Gc U)(e:Ext F U σ')(hF:¬F 1):Gc σ':=⟨(Q7 e (Q8 g.d0) hF).trans g.d0,(Q7 e (Q8 g.d1) hF).trans g.d1⟩
theorem Gc.bO {σ':Hp}(g:Gc U)(e:bK U σ'):Gc σ':=g.bS e id
theorem Gd.bS {σ':Hp}(g:Gd U)(e:Ext F U σ')(hF:¬F 1):Gd σ':=⟨uP g.lt e.1⟩
theorem Gd.bO {σ':Hp}(g:Gd U)(e:bK U σ'):Gd σ':=g.bS e id
theorem Gc.gd (g:Gc U):Gd U:=⟨Q8 g.d0⟩
theorem Gl.bO {σ':Hp}(g:Gl U)(e:bK U σ'):Gl σ':=g.bS e λ_ h=>h.elim
theorem iN.grow (hF:iN F)(g:Gl U):iN (Grow F U):=λb a=>by
 rcases a with h|h
 ·exact hF b h
 ·have e:=Q8 g.c0;have d:=Q8 g.u0;exact⟨O,O⟩
theorem iN.sub {G:Rg}(hF:iN F)(h:∀b,G b->F b):iN G:=λb a=>hF b (h b a)
def fV:Nat->Bool×Bool
 | 0=>(false,false)
 | 1=>(true,false)
 | _=>(true,true)
def gR (st:List Nat):List Value:=st.flatMap λx=>[.bool (fV x).1,.bool (fV x).2]
theorem Vq (l:List Nat):(gR l).length=2*l.length:=by
 induction l with
 | nil=>rfl
 | cons x l ih=>simp only[gR,nG,zO,zY,lE]at *;omega
theorem C4 {l:List Nat}{i x:Nat}(h:l[i]?=some x):(gR l)[2*i]?=some (.bool (fV x).1)/\(gR l)[2*i+1]?=some (.bool (fV x).2):=by
 induction l generalizing i with
 | nil=>simp at h
 | cons y l ih=>
  have e:gR (y::l)=[.bool (fV y).1,.bool (fV y).2]++gR l:=by simp[gR]
  rw[e];cases i with
  | zero=>simp at h;subst h;simp
  | succ i=>
   have:=ih (i:=i) (by simpa using h);rw[show 2*(i+1)=2*i+2 by omega];simpa using this
theorem Ev {l:List Nat}{i v:Nat}(h:i<l.length)(rest:List Value):((gR l++rest).set (2*i) (.bool (fV v).1)).set (2*i+1) (.bool (fV v).2)=gR (l.set i v)++rest:=by
 induction l generalizing i with
 | nil=>simp at h
 | cons y l ih=>
  have e:∀z m,gR (z::m)=.bool (fV z).1 :: .bool (fV z).2::gR m:=λz m=>by simp[gR]
  cases i with
  | zero=>simp[e]
  | succ i=>
   have:=ih (i:=i) (by simpa using h);rw[rK,e,e,show 2*(i+1)=2*i+1+1 by omega];simp only[lp,rK];rw[this]
theorem BJ {x y:Nat}(hx:x<=2)(hy:y<=2):(((fV x).1==(fV y).1)&&(((fV x).2==(fV y).2)&&true))=(x==y):=by
 match x,y,hx,hy with
 | 0,0,_,_=>rfl
 | 1,1,_,_=>rfl
 | 2,2,_,_=>rfl
 | 0,1,_,_=>rfl
 | 0,2,_,_=>rfl
 | 1,0,_,_=>rfl
 | 1,2,_,_=>rfl
 | 2,0,_,_=>rfl
 | 2,1,_,_=>rfl
theorem Kd {α:Type}(x:Int×α)(l:List (Int×α))(k:Int):bV (x::l) k=if x.1=k then some x.2 else bV l k:=by
 unfold bV;rw[ux];by_cases h:x.1=k
 ·simp[h]
 ·have:(x.1==k)=false:=by simpa using h
  rw[this,zB h]
theorem Pp {α:Type}(l:List (Int×α))(n k:Int)(v:α):bV (l.map λx=>if x.1==n then(n,v)else x) k=if k=n then(if l.any (λx=>x.1==n)then some v else none)else bV l k:=by
 induction l with
 | nil=>simp[bV]
 | cons x l ih=>
  rw[zR,Kd,ih,Kd,List.any_cons];by_cases hx:x.1=n
  ·by_cases hk:k=n
   ·subst hk;simp[hx]
   ·have:¬n=k:=λe=>hk e.symm;simp[hx,hk,this]
  ·have a:(x.1==n)=false:=by simpa using hx
   simp only[a,zd,jP,yi];by_cases hk:k=n
   ·subst hk;simp[hx]
   ·simp[hk]
theorem PA {α:Type}(l:List (Int×α))(n k:Int)(v:α)(h:l.any (λx=>x.1==n)=false):bV (l++[(n,v)]) k=if k=n then some v else bV l k:=by
 induction l with
 | nil=>
  rw[tN,Kd];by_cases hk:k=n
  ·simp[hk]
  ·have:¬n=k:=λe=>hk e.symm;simp[hk,this,bV]
 | cons x l ih=>
  rw[List.any_cons,Bool.or_eq_false_iff]at h;rw[lp,Kd,ih h.2,Kd];have a:¬x.1=n:=by simpa using h.1
  by_cases hk:k=n
  ·subst hk;simp[a]
  ·simp[hk]
theorem V7 {α:Type}(l:List (Int×α))(n k:Int)(v:α):bV (dB l n v) k=if k=n then some v else bV l k:=by
 unfold dB;cases h:l.any (λx=>x.1==n)
 ·rw[zB aA,PA l n k v h]
 ·rw[zC rfl,Pp,h];simp
theorem Ad {α:Type}(l:List (Int×α))(n k:Int):bV (cR l n) k=if k=n then none else bV l k:=by
 unfold cR
 induction l with
 | nil=>simp[bV]
 | cons x l ih=>
  rw[sI,Kd];by_cases hx:x.1=n
  ·have:(!(x.1==n))=false:=by simp[hx]
   rw[this];simp only[zd,jP,ih];by_cases hk:k=n
   ·simp[hk]
   ·have:¬x.1=k:=λe=>hk (e.symm.trans hx);simp[hk,this]
  ·have:(!(x.1==n))=true:=by simpa using hx
   rw[this,zC rfl,Kd,ih];by_cases hk:k=n
   ·subst hk;simp[hx]
   ·simp[hk]
theorem KO {α:Type}{l:List (Int×α)}{k:Int}{v:α}(h:bV l k=some v):(k,v)∈l:=by
 unfold bV at h;cases hf:l.find? (λx=>x.1==k)with
 | none=>rw[hf]at h;cases h
 | some x=>
  rw[hf]at h;have e:=sk hf;have a:=sr hf;have d:x.1=k:=by simpa using e
  have b:x.2=v:=by simpa using h
  rw[←d,←b];exact a
theorem JC {α:Type}{l:List (Int×α)}{k:Int}:(bV l k).isSome=true↔k∈l.map (·.1):=by
 unfold bV;rw[Option.isSome_map,Bo];simp
def Cu (U:Hp)(s:Sl)(b:Nat)(f:Nat->Int):Prop:=s.a=some ⟨b,0,none⟩/\s.len=32/\32<=s.cap/\∃cs,bY U b cs/\32<=cs.length/\∀j,j<32->cs[j]?=some (.int .i64 (f j))
structure fE (U:Hp) (F:Rg) (p q r:Nat) (l:List (Int×Sl)) (B:Nat->Nat) (sp:Sp):Prop where
 hd:∃cap,sp.st.length<=cap/\bY U p [.slice (some ⟨q,0,none⟩) sp.st.length cap,.map (some r),.int .i64 (sp.pk:Int)]
 row:∃rest,bY U q (gR sp.st++rest)
 map:dH U r .i64 .s l
 keys:∀x:Int,(bV l x).isSome=true↔∃k:Nat,x=k/\sp.st[k]?=some 2
 wd:∀(k:Nat) s,bV l (k:Int)=some s->Cu U s (B k) λj=>sp.wd (32*k+j)
 inj:∀k k':Nat,sp.st[k]?=some 2->sp.st[k']?=some 2->B k=B k'->k=k'
 out:∀k:Nat,sp.st[k]?=some 2->F (B k)/\B k≠p/\B k≠q/\B k≠r
 fs:F p/\F q/\F r/\p≠q/\p≠r/\q≠r
 zero:∀w:Nat,sp.st[w/32]?≠some 2->sp.wd w=0
 n1:1<=sp.st.length
 n2:sp.st.length<=1024
 r7:∀x∈sp.st,x<=2
 pk:sp.pk<=1024
def dL (U:Hp)(F:Rg)(p:Nat)(sp:Sp):Prop:=∃q r l B,fE U F p q r l B sp
theorem fE.entry {l:List (Int×Sl)}{B:Nat->Nat}(h:fE U F p q r l B sp){k:Nat}(hk:sp.st[k]?=some 2):∃s,bV l (k:Int)=some s/\Cu U s (B k) λj=>sp.wd (32*k+j):=by
 have:=(h.keys (k:Int)).2 ⟨k,rfl,hk⟩;obtain⟨s,a⟩:=pW.1 this;exact⟨s,a,h.wd k s a⟩
theorem fE.lK {l:List (Int×Sl)}{B:Nat->Nat}(h:fE U F p q r l B sp){k:Nat}{s:Sl}(hs:bV l (k:Int)=some s):sp.st[k]?=some 2:=by
 obtain⟨k',e,a⟩:=(h.keys (k:Int)).1 (by rw[hs];rfl);have:k=k':=by omega
 subst this;exact a
theorem dL.loc:dM λU F=>dL U F p sp:=λU N F G ⟨q,r,l,B,h⟩ P A=>by
 have g:∀{b:Nat} {d:List Value},bY U b d->F b->bY N b d/\G b:=by
  rintro b d ⟨e,z⟩ J;have:=A b (bY.lt ⟨e,z⟩) J;exact⟨⟨e,this.2.trans z⟩,this.1⟩
 obtain⟨c,L,hd⟩:=h.hd;obtain⟨m,a⟩:=h.row;obtain⟨K,w,E,M⟩:=h.map;have j:=A r (zy.1 E).1 h.fs.2.2.1;refine⟨q,r,l,B,⟨c,L,(g hd h.fs.1).1⟩,⟨m,(g a h.fs.2.1).1⟩,⟨K,w,j.2.trans E,M⟩,h.keys,λk s i=>?_,h.inj,λk i=>?_,⟨(g hd h.fs.1).2,(g a h.fs.2.1).2,j.1,h.fs.2.2.2⟩,h.zero,h.n1,h.n2,h.r7,h.pk⟩
 ·obtain⟨x,D,y,d,u,C⟩:=h.wd k s i;exact⟨x,D,y,d,(g u (h.out k (h.lK i)).1).1,C⟩
 ·obtain⟨s,H,x,D,y,d,u,C⟩:=h.entry i;exact⟨(g u (h.out k i).1).2,(h.out k i).2⟩
theorem dL.bO {σ':Hp}(h:dL U F p sp)(e:bK U σ'):dL σ' F p sp:=dM.bO dL.loc h e
variable {l:List (Int×Sl)}{B:Nat->Nat}
theorem fE.rS (h:fE U F p q r l B sp){K:Sl->Prop}(hK:∀cap,sp.st.length<=cap->K ⟨some ⟨q,0,none⟩,sp.st.length,cap⟩):jm (Addr.add ⟨p,0,none⟩ 0) U K:=by
 obtain⟨c,a,hd⟩:=h.hd;exact hd.rS rfl (hK c a)
theorem fE.rM (h:fE U F p q r l B sp){K:Option Nat->Prop}(hK:K (some r)):lg (Addr.add ⟨p,0,none⟩ 1) U K:=by
 obtain⟨c,a,hd⟩:=h.hd;exact hd.rM rfl hK
theorem fE.yE (h:fE U F p q r l B sp){i x:Nat}(hx:sp.st[i]?=some x){K:Bool->Bool->Prop}(hK:K (fV x).1 (fV x).2):lB (Addr.add ⟨q,2*i,none⟩ 0) U λa=>lB (Addr.add ⟨q,2*i,none⟩ 1) U λb=>K a b:=by
 obtain⟨g,d⟩:=h.row;have j:=(cW.1 hx).1;have e:=C4 hx;refine d.rB (x:=(fV x).1) ?_ (d.rB (x:=(fV x).2) ?_ hK)
 ·rw[j6,ze (by rw[Vq];omega)];exact e.1
 ·rw[ze (by rw[Vq];omega)];exact e.2
theorem yR (h:dL U F p sp){R:aO}(hR:R true U):Xt.c (aW p) U R:=by
 refine Xt.o ?_;unfold Xt.v;obtain⟨q,r,l,B,h⟩:=h;have:=h.n1;refine bW.intro (cD rfl (aG (h.rS λcap _=>?_)));rw[zJ aC];exact hR
theorem CG (h:dL U F p sp){R:aN}(hR:R (sp.st.length:Int) U):XA.c (aW p) U R:=by
 refine XA.o ?_;unfold XA.v;have a:=h;obtain⟨q,r,l,B,h⟩:=h;exact yR a (cB rfl (aG (h.rS λcap _=>hR)))
theorem fE.wJ (h:fE U F p q r l B sp):l.length=sp.st.count 2:=by
 have m:=h.map.nodup;have j:(l.map (·.1)).Perm (((List.range sp.st.length).filter λk=>sp.st[k]?==some 2).map λk=>((k:Nat):Int)):=by
  rw[Az m]
  ·intro x;rw[←JC,h.keys];simp only[zE,zI,zg,zT];constructor
   ·rintro⟨k,rfl,hk⟩;exact⟨k,⟨(cW.1 hk).1,hk⟩,rfl⟩
   ·rintro⟨k,⟨_,hk⟩,rfl⟩;exact⟨k,rfl,hk⟩
  ·have g:((List.range sp.st.length).filter λk=>sp.st[k]?==some 2).Pairwise (· ≠ ·):=List.Pairwise.sublist sW List.nodup_range;exact List.Pairwise.map _ (λa b (d:a≠b) e=>d (by exact_mod_cast e)) g
 have i:=j.length_eq;simp only[zl]at i;rw[i,←yv];have key:∀st:List Nat,(List.range st.length).countP (λk=>st[k]?==some 2)=st.count 2:=by
  intro st
  induction st with
  | nil=>rfl
  | cons x st ih=>
   rw[zY,List.range_succ_eq_map,vp,List.countP_map,List.count_cons,←ih]
   congr 1
 exact key sp.st
end Go.Ar
namespace Go.Ar
open Go Go.Vc Go.Proofs
open Go.Bu (Zb)
variable {U:Hp}{F:Rg}{p q r:Nat}{sp:Sp}{l:List (Int×Sl)}{B:Nat->Nat}
theorem OK (l:List Nat)(n:Nat):gR (l.take n)=(gR l).take (2*n):=by
 induction l generalizing n with
 | nil=>simp[gR]
 | cons y l ih=>
  have e:∀z m,gR (z::m)=.bool (fV z).1 :: .bool (fV z).2::gR m:=λz m=>by simp[gR]
  cases n with
  | zero=>simp[gR]
  | succ n=>
   rw[uK,e,e,ih,show 2*(n+1)=2*n+1+1 by omega];simp
theorem JW (l:List Nat)(n:Nat):gR (l.drop n)=(gR l).drop (2*n):=by
 induction l generalizing n with
 | nil=>simp[gR]
 | cons y l ih=>
  have e:∀z m,gR (z::m)=.bool (fV z).1 :: .bool (fV z).2::gR m:=λz m=>by simp[gR]
  cases n with
  | zero=>simp[gR]
  | succ n=>
   rw[yg,e,ih,show 2*(n+1)=2*n+1+1 by omega];simp
theorem IL (n v:Nat):gR (List.replicate n v)=(List.replicate n [Value.bool (fV v).1,.bool (fV v).2]).flatten:=by
 induction n with
 | zero=>rfl
 | succ n ih=>rw[vR,vR,vO,←ih];simp[gR]
theorem _root_.Go.Vc.cV.yE {s:Sl}{l:List Nat}(h:cV s 2 (gR l) U F){i x:Nat}(hx:l[i]?=some x){K:Bool->Bool->Prop}(hK:K (fV x).1 (fV x).2) :
 Ix s.a s.len (i:Int) 2 λa=>lB (a.add 0) U λu=>lB (a.add 1) U λw=>K u w:=by
 have y:=(cW.1 hx).1;have g:=C4 hx;obtain⟨b,o,j,m⟩:=h.cell g.1;obtain⟨r,o1,d,e⟩:=h.cell g.2;rw[j]at d;cases d;have p:=h.1;rw[Vq]at p;rw[j];refine ix O O ?_;rw[add_lit];refine nt ?_ (nt ?_ hK)<;>rw[add_lit]
 ·rw[show o+(i:Int).toNat*2+0=o+2*i by omega];exact m
 ·rw[show o+(i:Int).toNat*2+1=o+(2*i+1) by omega];exact e
theorem _root_.Go.Vc.cV.vS {s:Sl}{l:List Nat}(h:cV s 2 (gR l) U F):s.len=l.length:=by
 have:=h.1;rw[Vq]at this;omega
theorem Pa {s:Sl}{xs:List Nat}(h:cV s 2 (gR xs) U F)(hl:xs.length<=1000000)(h2:∀x∈xs,x<=2){v:Nat}(hv:v<=2){R:aN}
 (hR:∀(t:Int) σ',bK U σ'->decide (t≥0)=xs.contains v->R t σ'):Wn.c s (fV v).1 (fV v).2 U R:=by
 refine Wn.o ?_;unfold Wn.v;have z:=h.vS;refine nw (cs:=[.bool (fV v).1,.bool (fV v).2]) λw G e A=>?_;have h:=aH.bO h e;refine Z0 (a:=bN) (λ(t:Int) u=>∃i:Nat,t=(i:Int)/\i<=xs.length/\u=w/\∀j,j<i->xs[j]?≠some v) (λt _=>xs.length-t.toNat) ⟨0,rfl,O,rfl,λj g=>O⟩ ?_;rintro t u ⟨i,rfl,E,rfl,b⟩;refine cQ (λD=>?_) λB=>?_
 ·have d:i<xs.length:=by omega
  have y:xs[i]?=some xs[i]:=cT d;refine A.rB rfl (A.rB rfl (h.yE y ?_));rw[BJ hv (h2 _ (zo d))];refine cO (λp=>?_) λp=>?_
  ·have:v=xs[i]:=by simpa using p
   refine hR _ _ e ?_;have C:xs.contains v=true:=by rw[this];simp
   rw[C,zJ O]
  ·have r:¬v=xs[i]:=by simpa using p
   refine cP (m:=i+1) O O ⟨⟨i+1,rfl,O,rfl,λj g=>?_⟩,O⟩;by_cases e:j=i
   ·subst e;rw[y];intro e2;cases e2;exact r rfl
   ·exact b j O
 ·refine hR _ _ e ?_;have:xs.contains v=false:=by
   simp only[r5,decide_eq_false_iff_not];intro hm;obtain⟨j,g⟩:=zQ hm;have:=(cW.1 g).1;exact b j O g
  rw[this];rfl
theorem RR {s:Sl}{xs:List Nat}(h:cV s 2 (gR xs) U F)(hl:xs.length<=1000000)(h2:∀x∈xs,x<=2){v:Nat}(hv:v<=2){R:aO}
 (hR:∀σ',bK U σ'->R (xs.contains v) σ'):Wj.c s (fV v).1 (fV v).2 U R:=by
 refine Wj.o ?_;unfold Wj.v;refine nw (cs:=[.bool (fV v).1,.bool (fV v).2]) λw g e a=>a.rB rfl (a.rB rfl ?_);refine Pa (aH.bO h e) hl h2 hv λt σ' b d=>?_;rw[d];exact hR σ' (Ext.trans e b)
theorem RC (g:Gl U){x:Nat}(hx:x<=2){R:aO}(hR:∀σ',bK U σ'->R (x != 0) σ'):Yq.c (fV x).1 (fV x).2 U R:=by
 refine Yq.o ?_;unfold Yq.v;refine nw (cs:=[.bool (fV x).1,.bool (fV x).2]) λv d e a=>a.rB rfl (a.rB rfl ?_);have g:=g.bO e;refine nt (by rw[←g.u0];rfl) (nt (by rw[←g.u1];rfl) ?_);have b:(((fV x).1==false)&&(((fV x).2==false)&&true))=(x==0):=BJ hx (y:=0) O;rw[b];exact hR v e
theorem PZ {s:Sl}{xs:List Nat}(h:cV s 2 (gR xs) U F)(g:Gl U)(hl:xs.length<=1000000)(h2:∀x∈xs,x<=2){R:aO}
 (hR:∀σ',bK U σ'->R (xs.any (· != 0)) σ'):Wg.c s ⟨309,#[],#[]⟩ U R:=by
 refine Wg.o ?_;unfold Wg.v;refine Wm.o ?_;unfold Wm.v;have B:=h.vS;refine Z0 (a:=bN) (λ(t:Int) C=>∃i:Nat,t=(i:Int)/\i<=xs.length/\bK U C/\∀(j x:Nat),j<i->xs[j]?=some x->x=0) (λt _=>xs.length-t.toNat) ⟨0,rfl,O,Ext.refl _ _,λj x r=>O⟩ ?_;rintro t w ⟨i,rfl,H,e,p⟩;refine cQ (λG=>?_) λD=>?_
 ·have b:i<xs.length:=by omega
  have A:xs[i]?=some xs[i]:=cT b;refine(aH.bO h e).yE A ?_;refine pV (all := #[.agg #[.bool (fV xs[i]).1,.bool (fV xs[i]).2]]) (by kernel_rfl) aA ?_;refine RC (g.bO e) (h2 _ (zo b)) λE z=>?_;refine cO (λu=>?_) λu=>?_
  ·have:xs.any (· != 0)=true:=kf.2 ⟨_,zo b,u⟩;have:=hR E (Ext.trans e z);rw[‹xs.any (· != 0)=true›]at this;show R (decide ((i:Int)≥0)) _;rw[zJ O];exact this
  ·have y:xs[i]=0:=by simpa using u
   refine cP (m:=i+1) O O ⟨⟨i+1,rfl,O,Ext.trans e z,λj x r d=>?_⟩,O⟩;by_cases e:j=i
   ·subst e;rw[A]at d;cases d;exact y
   ·exact p j x O d
 ·have:xs.any (· != 0)=false:=by
   rw[mB];intro x hm;obtain⟨j,r⟩:=zQ hm;have:=(cW.1 r).1;simpa using p j x O r
  have:=hR w e;rw[‹xs.any (· != 0)=false›]at this;exact this
theorem fE.part (h:fE U F p q r l B sp){x y c:Nat}(hl:x+y<=sp.st.length):cV ⟨some ⟨q,2*x,none⟩,y,c⟩ 2 (gR ((sp.st.drop x).take y)) U F:=by
 obtain⟨d,b⟩:=h.row;have a:(gR ((sp.st.drop x).take y)).length=y*2:=by rw[Vq,zZ,j5];omega
 refine⟨a,.inr ⟨q,2*x,_,h.fs.2.1,rfl,b.q,λj e=>?_⟩⟩;rw[a]at e;rw[ze (by rw[Vq];omega),OK,JW,zj,zC O,kP]
theorem OW (h:dL U F p sp)(a m:Int){R:Sl->Int->Hp->Prop}(h0:Zb sp.st.length a m=false->R ⟨none,0,0⟩ 1 U)
 (h1:∀(x y:Nat) s,a=x->m=y->1<=y->x+y<=sp.st.length->cV s 2 (gR ((sp.st.drop x).take y)) U F->R s 0 U):YT.c (aW p) a m U R:=by
 refine YT.o ?_;unfold YT.v;have g:=h;obtain⟨q,r,l,B,h⟩:=h;have n2:=h.n2;have b:¬(0<=a/\1<=m/\m<=sp.st.length-a)->R ⟨none,0,0⟩ 1 U:=λw=>h0 (by simp only[Zb,←uw];exact zM w);refine yR g (cB rfl (bW.intro (cQ (λj=>bW.intro (cD rfl (bW.intro (cD rfl (cD rfl (b O)))))) λj=>?_)));refine bW.intro (cQ (λz=>bW.intro (cD rfl (cD rfl (b O)))) λz=>aG (h.rS λcap d=>?_));simp only;refine bW.intro (cQ (λi=>cD rfl (b O)) λi=>?_);refine aG (h.rS λcap d=>ar aC aC ?_);simp only;refine cQ (λA=>b O) λA=>?_;obtain⟨x,rfl⟩:=zc (show 0<=a by omega);obtain⟨y,rfl⟩:=zc (show 0<=m by omega);refine aG (h.rS λcap d=>cP (m:=x+y) O O ?_);refine iT O aC (zD _) ?_;simp only;rw[zB O];refine h1 x y _ rfl rfl O O ?_;have:=h.part (x:=x) (y:=y) (c:=cap-x) O;have e:(Option.map (λ(u:Addr)=>u.add (x*2)) (some (⟨q,0,none⟩:Addr)))=some ⟨q,2*x,none⟩:=by
  simp only[zX,add_lit];congr 2;omega
 rw[e,y8];exact this
def Sp.jI (s:Sp)(k v:Nat):Sp:={s with st:=s.st.set k v,wd:=λw=>if k*32<=w/\w<(k+1)*32 then 0 else s.wd w}
theorem E9 {st:List Nat}(h:∀x∈st,x<=2){k v:Nat}(hv:v<=2):∀x∈st.set k v,x<=2:=by
 intro x hx;rcases yo hx with h1|h1
 ·exact h x h1
 ·omega
theorem fE.jI (h:fE U F p q r l B sp){k v:Nat}(hk:k<sp.st.length)(hv:v<=1){σ':Hp}(e:Ext (λb=>b=q\/b=r) U σ'){rest:List Value}
 (hb:bY σ' q (gR (sp.st.set k v)++rest)) (hm:dH σ' r .i64 .s (cR l (k:Int))):fE σ' F p q r (cR l (k:Int)) B (sp.jI k v):=by
 have a:∀j:Nat,(sp.st.set k v)[j]?=some 2↔j≠k/\sp.st[j]?=some 2:=λj=>by
  rw[mU];by_cases hjk:k=j
  ·subst hjk;rw[zC rfl,zC hk];constructor
   ·intro h;have:v=2:=by simpa using h
    omega
   ·intro h;exact absurd rfl h.1
  ·rw[zB hjk];exact⟨λh=>⟨λe=>hjk e.symm,h⟩,λh=>h.2⟩
 obtain⟨c,L,hd⟩:=h.hd;have K:¬(p=q\/p=r):=by have:=h.fs;omega
 refine⟨⟨c,by simpa[Sp.jI]using L,by simpa[Sp.jI]using e.bT hd K⟩,⟨rest,hb⟩,hm,λx=>?_,λj s g=>?_,λj u A m=>?_,λj d=>?_,h.fs,λw y=>?_,by simpa[Sp.jI]using h.n1,by simpa[Sp.jI]using h.n2,E9 h.r7 O,h.pk⟩
 ·rw[Ad];by_cases hx:x=(k:Int)
  ·rw[zC hx];constructor
   ·intro h;cases h
   ·rintro⟨j,rfl,d⟩;have:=(a j).1 d;omega
  ·rw[zB hx,h.keys];constructor
   ·rintro⟨j,rfl,d⟩;exact⟨j,rfl,(a j).2 ⟨O,d⟩⟩
   ·rintro⟨j,rfl,d⟩;exact⟨j,rfl,((a j).1 d).2⟩
 ·rw[Ad]at g;by_cases hx:(j:Int)=(k:Int)
  ·rw[zC hx]at g;cases g
  ·rw[zB hx]at g;obtain⟨D,J,C,z,E,H,M⟩:=h.wd j s g;have N:=h.out j (h.lK g);refine⟨D,J,C,z,e.bT E O,H,λi G=>?_⟩;rw[M i G];simp only[Sp.jI];rw[zB O]
 ·exact h.inj j u ((a j).1 A).2 ((a u).1 m).2
 ·exact h.out j ((a j).1 d).2
 ·simp only[Sp.jI]at y ⊢;by_cases hin:k*32<=w/\w<(k+1)*32
  ·rw[zC hin]
  ·rw[zB hin];refine h.zero w λm=>y ((a _).2 ⟨O,m⟩)
theorem Sp.oE (s:Sp)(a v:Nat):s.set a 0 v=s:=by
 have d:gg s.st a (a+0) v=s.st:=by
  apply zp;intro i;rw[U1];cases s.st[i]? with
  | none=>rfl
  | some x=>simp only[zX];rw[zB O]
 have b:(λw=>if a*32<=w/\w<(a+0)*32 then 0 else s.wd w)=s.wd:=by
  funext w;rw[zB O]
 simp only[Sp.set,d,b]
theorem Sp.oK (s:Sp)(a m v:Nat)(h:a+m<s.st.length):(s.set a m v).jI (a+m) v=s.set a (m+1) v:=by
 have d:(gg s.st a (a+m) v).set (a+m) v=gg s.st a (a+(m+1)) v:=by
  apply zp;intro i;rw[mU,U1,U1,KB];by_cases hi:a+m=i
  ·subst hi;rw[zC rfl,zC h,cT h,zX,zC O]
  ·rw[zB hi];cases s.st[i]? with
   | none=>rfl
   | some x=>
    simp only[zX];by_cases hin:a<=i/\i<a+m
    ·rw[zC hin,zC O]
    ·rw[zB hin,zB O]
 have b:(λw=>if(a+m)*32<=w/\w<(a+m+1)*32 then 0 else(if a*32<=w/\w<(a+m)*32 then 0 else s.wd w))=λw=>if a*32<=w/\w<(a+(m+1))*32 then 0 else s.wd w:=by
  funext w
  by_cases d:(a+m)*32<=w/\w<(a+m+1)*32
  ·rw[zC d,zC O]
  ·rw[zB d];by_cases b:a*32<=w/\w<(a+m)*32
   ·rw[zC b,zC O]
   ·rw[zB b,zB O]
 simp only[Sp.set,Sp.jI,d,b]
theorem IJ (h:dL U F p sp){x y v:Nat}(hl:x+y<=sp.st.length)(hv:v<=1){R:aP}(hR:∀σ',Ext F U σ'->dL σ' F p (sp.set x y v)->R σ') :
 YX.c (aW p) x y (fV v).1 (fV v).2 U R:=by
 refine YX.o ?_;unfold YX.v;have Q:sp.st.length<=1024:=by obtain⟨q,r,l,B,h⟩:=h;exact h.n2
 have s:dL U (Cut F U) p sp:=dM.cut dL.loc h;refine nw (cs:=[.bool (fV v).1,.bool (fV v).2]) λu hz e g=>?_;have Z:=s.bO e;refine Z0 (a:=bN) (λ(t:Int) w=>∃i:Nat,t=((x+i:Nat):Int)/\i<=y/\Ext (Cut F U) u w/\bY w U.size [.bool (fV v).1,.bool (fV v).2]/\dL w (Cut F U) p (sp.set x i v)) (λt _=>x+y-t.toNat)
  ⟨0,rfl,O,Ext.refl _ _,g,by rw[Sp.oE];exact Z⟩ ?_
 rintro t w ⟨i,rfl,hi,G,j,q,r,l,B,d⟩;refine cP (m:=x+y) O O (cQ (λW=>?_) λY=>?_)
 ·have E:(sp.set x i v).st.length=sp.st.length:=KB _ _ _ _;refine aG (d.rS λcap N=>j.rB rfl (j.rB rfl (ix O aC ?_)));rw[add_lit,show 0+((x+i:Nat):Int).toNat*2=2*(x+i) by omega];obtain⟨H,z⟩:=d.row;have M:x+i<(sp.set x i v).st.length:=by omega
  refine z.s1 (by rw[zO,Vq];omega) λw1 o1 V=>V.s1 (by rw[nF,zO,Vq];omega) λw2 o2 J=>?_;rw[j6,Ev M]at J;have e2:Ext (· = q) w w2:=o1.ext.trans o2.ext;obtain⟨c,S,hd⟩:=d.hd;have D:=e2.bT hd d.fs.2.2.2.1;refine aG (D.rM rfl ⟨l,e2.fO d.map (λe=>d.fs.2.2.2.2.2 e.symm),λw3 C _ A=>?_⟩);have o3:=C r rfl;have K:Ext (λb=>b=q\/b=r) w w3:=(e2.sub λb g=>.inl g).trans (o3.ext.sub λb g=>.inr g);have L:=d.jI M hv K (Ws o3 J d.fs.2.2.2.2.2) A;rw[Sp.oK _ _ _ _ O]at L;have P:Ext (Cut F U) w w3:=K.sub λb g=>by
   rcases g with rfl|rfl
   ·exact d.fs.2.1
   ·exact d.fs.2.2.1
  refine cP (m:=x+(i+1)) O O ⟨⟨i+1,rfl,O,G.trans P,P.bT j λX=>by have:=X.2;omega,_,_,_,_,L⟩,O⟩
 ·have:i=y:=by omega
  subst this;refine hR w (Ext.cut (e.to.trans G)) (dM.mono dL.loc ⟨q,r,l,B,d⟩ λb _ g=>g.1)
theorem OF (h:dL U F p sp)(g:Gl U)(hF:iN F)(a m:Int){R:aN}(hR:∀σ',Ext F U σ'->dL σ' F p (fS sp a m)->R (eZ sp a m) σ') :
 YZ.c (aW p) a m U R:=by
 refine YZ.o ?_;unfold YZ.v;have e:(∀x∈sp.st,x<=2)/\sp.st.length<=1024:=by obtain⟨q,r,l,B,h⟩:=h;exact⟨h.r7,h.n2⟩
 refine OW h a m (λi=>?_) λx y s C u K A D=>?_
 ·have e1:eZ sp a m=1:=by unfold eZ;rw[i];rfl
  have e2:fS sp a m=sp:=by unfold fS;rw[e1];rfl
  have:=hR U (Ext.refl _ _);rw[e1,e2]at this;exact cD rfl (this h)
 ·subst C;subst u;have i:Zb sp.st.length (x:Int) (y:Int)=true:=by simp only[Zb,zF,zU];omega
  refine cB rfl (PZ D g (by rw[zZ,j5];omega) (λz w=>e.1 z (sq (ve w))) λJ e1=>?_);have d:eZ sp x y=if((sp.st.drop x).take y).any (· != 0)then 5 else 0:=by unfold eZ;rw[i];rfl
  refine cO (λb=>?_) λb=>?_
  ·rw[b]at d;have e2:fS sp x y=sp:=by unfold fS;rw[d];rfl
   have:=hR J (bK.to e1);rw[d,e2]at this;exact this (h.bO e1)
  ·rw[b]at d;have e2:fS sp x y=sp.set x y 1:=by unfold fS;rw[d];rfl
   have j:=g.bO e1;refine nt (by rw[←j.c0];rfl) (nt (by rw[←j.c1];rfl) ?_);refine IJ (v:=1) (h.bO e1) A O λG E H=>?_;have:=hR G (Ext.trans (bK.to e1) E);rw[d,e2]at this;exact this H
theorem FB (h:dL U F p sp)(g:Gl U)(x:Int)(hx:x<=9223372036854775807){R:aN}(hR:∀σ',bK U σ'->R (eR sp x) σ') :
 Xl.c (aW p) x 1 U R:=by
 refine Xl.o ?_;unfold Xl.v;have G:=h;obtain⟨q,r,l,B,h⟩:=h;have n2:=h.n2;have d:(x<0\/x%8≠0)->R 7 U:=λj=>by
  have:=hR U (Ext.refl _ _);unfold eR at this;rw[zC j]at this;exact this
 refine yR G (cB rfl (cB rfl (bW.intro (cQ (λC=>cD rfl (d (.inl C))) λC=>nz aB ?_))));obtain⟨y,rfl⟩:=zc (show 0<=x by omega);refine cO (λi=>?_) λi=>?_
 ·refine d (.inr ?_);rw[Qz O]at i;simpa using i
 have J:y%8=0:=by
  rw[Qz O]at i;have:((y:Int)%8)=0:=by simpa using i
  omega
 have ok:¬((y:Int)<0\/(y:Int)%8≠0):=by omega
 refine nz aB (cP (m:=y/256) (by rw[Yr O];simp) O (nz aB (cP (m:=y/8) (by rw[Yr O];simp) O ?_)));refine cP (m:=y/8+1) O O (cP (m:=y/8) O O (nz aB (cP (m:=y/256) (by rw[Yr O];simp;omega) O ?_)));have fin:∀(b:Bool) σ',bK U σ'->(b=true↔sp.st.getD (y/256) 0=0)->If b (R 7 σ') (R 0 σ'):=λb σ' e j=>by
  have:=hR σ' e;unfold eR at this;rw[zB ok]at this;refine cO (λh=>?_) λh=>?_
  ·rw[zC (by simpa using j.1 h)]at this;exact this
  ·rw[zB (λD=>by rw[j.2 (by simpa using D)]at h;cases h)]at this;exact this
 obtain⟨c,K,hd⟩:=h.hd;refine Jn.intro ⟨λm=>bY m p [.slice (some ⟨q,0,none⟩) sp.st.length c,.map (some r),.int .i64 (sp.pk:Int)]/\Gl m,⟨hd,g⟩,?_⟩;refine aG ⟨⟨some ⟨q,0,none⟩,sp.st.length,c⟩,λm a=>by rw[add_lit,a.1.cell];rfl,?_⟩;refine cQ (λs=>?_) λs=>?_
 ·simp only at s;refine fin _ U (Ext.refl _ _) ⟨λ_=>?_,λ_=>rfl⟩;rw[zP,zV O];rfl
 simp only at s;refine aG ⟨⟨some ⟨q,0,none⟩,sp.st.length,c⟩,λm a=>by rw[add_lit,a.1.cell];rfl,?_⟩;refine cP (m:=y/256+1) O O (iT O aC (zD _) ?_);simp only;rw[zB O];refine⟨false,λm a=>a.2.u0,⟨false,λm a=>a.2.u1,?_⟩⟩;have e:(Option.map (λ(u:Addr)=>u.add (y/256*2)) (some (⟨q,0,none⟩:Addr)))=some ⟨q,2*(y/256),none⟩:=by
  simp only[zX,add_lit];congr 2;omega
 rw[e,y8];have H:=h.part (x:=y/256) (y:=1) (c:=c-y/256) O;refine RR (v:=0) H (by rw[zZ,j5];omega) (λz E=>h.r7 z (sq (ve E))) O λσ' w=>?_;refine⟨⟨w.bT hd id,g.bO w⟩,fin _ σ' w ?_⟩;have A:y/256<sp.st.length:=by omega
 rw[zP,cT A,uc A,uK,xX];simp[eq_comm]
theorem Iz (h:dL U F p sp){w:Nat}(hw:w<=2305843009213693952){R:aN}(hR:R (sp.wd w) U):YS.c (aW p) (w:Int) U R:=by
 refine YS.o ?_;unfold YS.v;obtain⟨q,r,l,B,h⟩:=h;refine aG (h.rM (nz aB (cP (m:=w/32) (by rw[Yr O];simp) O ⟨l,h.map,?_⟩)));cases hg:bV l ((w/32:Nat):Int)with
 | none=>
  refine cB rfl ?_;have:sp.st[w/32]?≠some 2:=λe=>by
   have:=(h.keys _).2 ⟨_,rfl,e⟩;rw[hg]at this;cases this
  rw[h.zero w this]at hR;exact hR
 | some s=>
  obtain⟨b,i,u,j,d,x,g⟩:=h.wd _ s hg;refine cD rfl (nz aB ?_);simp only[pF];have a:((w:Int).tmod 32)=((w%32:Nat):Int):=by rw[Qz O];simp
  rw[b,a];refine ix O O ?_;rw[add_lit];refine d.uF ?_ hR;rw[show 0+((w%32:Nat):Int).toNat*1=w%32 by omega,g _ O];simp only;rw[show 32*(w/32)+w%32=w by omega]
theorem S6 (h:dL U F p sp)(g:Gl U)(x:Int)(hx:x<=9223372036854775807){R:Int->Int->Hp->Prop}(hR:∀σ',bK U σ'->R (if eR sp x=0 then sp.wd (x.toNat/8)else 0) (eR sp x) σ') :
 YJ.c (aW p) x U R:=by
 refine YJ.o ?_;unfold YJ.v;refine FB h g x hx λσ' e=>?_;have:=hR σ' e;refine cO (λi=>?_) λi=>?_
 ·have b:¬eR sp x=0:=by simpa using i
  rw[zB b]at this;exact this
 ·have a:eR sp x=0:=by simpa using i
  rw[zC a,a]at this;have d:0<=x:=by
   rcases(by omega:x<0\/0<=x)with hlt|hge
   ·unfold eR at a;rw[zC (.inl hlt)]at a;cases a
   ·exact hge
  obtain⟨y,rfl⟩:=zc d;exact nz aB (cP (m:=y/8) (by rw[Yr O];simp) O (Iz (h.bO e) O this))
theorem fE.Ay (h:fE U F p q r l B sp){k:Nat}(hk:k<sp.st.length)(hn:sp.st[k]?≠some 2){σ':Hp}{b:Nat}{s:Sl}{T:Rg}(e:Ext T U σ')(hT:∀i,i<U.size->T i->i=q\/i=r)(hz:U.size<=b){rest:List Value}
 (hb:bY σ' q (gR (sp.st.set k 2)++rest)) (hm:dH σ' r .i64 .s (dB l (k:Int) s)) (ha:s.a=some ⟨b,0,none⟩) (hl:s.len=32) (hc:s.cap=32) (hw:bY σ' b (List.replicate 32 (.int .i64 0))) :
 fE σ' (Grow F U) p q r (dB l (k:Int) s) (λj=>if j=k then b else B j) {sp with st:=sp.st.set k 2}:=by
 have u:∀j:Nat,(sp.st.set k 2)[j]?=some 2↔j=k\/sp.st[j]?=some 2:=λj=>by
  rw[mU];by_cases hjk:k=j
  ·subst hjk;rw[zC rfl,zC hk];simp
  ·rw[zB hjk];exact⟨λh=>.inr h,λh=>h.resolve_left λe=>hjk e.symm⟩
 obtain⟨c,H,hd⟩:=h.hd;obtain⟨_,A⟩:=h.row;have W:=hd.lt;have S:=A.lt;have X:=h.map.lt;have V:=e.1;have g:=h.fs;have C:∀{j:Nat},sp.st[j]?=some 2->B j<U.size:=λ{j} d=>by
  obtain⟨t,_,_,_,_,cs,G,_⟩:=h.entry d;exact G.lt
 have cU:∀{i:Nat} {cs:List Value},bY U i cs->i≠q->i≠r->bY σ' i cs:=λ{i cs} E D y=>e.bT E λM=>by
  rcases hT i E.lt M with h|h
  ·exact D h
  ·exact y h
 refine⟨⟨c,by simpa using H,by simpa using cU hd g.2.2.2.1 g.2.2.2.2.1⟩,⟨rest,hb⟩,hm,λx=>?_,λj t d=>?_,λj z D y m=>?_,λj d=>?_,⟨.inl g.1,.inl g.2.1,.inl g.2.2.1,g.2.2.2⟩,λw J=>?_,by simpa using h.n1,by simpa using h.n2,E9 h.r7 O,h.pk⟩
 ·rw[V7];by_cases hx:x=(k:Int)
  ·rw[zC hx];subst hx;simp only[Option.isSome_some,true_iff];exact⟨k,rfl,(u k).2 (.inl rfl)⟩
  ·rw[zB hx,h.keys];constructor
   ·rintro⟨j,rfl,d⟩;exact⟨j,rfl,(u j).2 (.inr d)⟩
   ·rintro⟨j,rfl,d⟩;exact⟨j,rfl,((u j).1 d).resolve_left O⟩
 ·rw[V7]at d;by_cases hx:(j:Int)=(k:Int)
  ·have:j=k:=by omega
   subst this;rw[zC rfl]at d;cases d;rw[zC rfl];refine⟨ha,hl,O,_,hw,by simp,λi E=>?_⟩;rw[mr,zC E];simp only;rw[h.zero _ (by rw[show(32*j+i)/32=j by omega];exact hn)]
  ·rw[zB hx]at d;obtain⟨L,R,P,cs,G,Q,N⟩:=h.wd j t d;have K:=h.out j (h.lK d);rw[zB O];exact⟨L,R,P,cs,cU G K.2.2.1 K.2.2.2,Q,N⟩
 ·by_cases e1:j=k
  ·by_cases e2:z=k
   ·omega
   ·rw[zC e1,zB e2]at m;have:=C (((u z).1 y).resolve_left e2);omega
  ·rw[zB e1]at m;by_cases e2:z=k
   ·rw[zC e2]at m;have:=C (((u j).1 D).resolve_left e1);omega
   ·rw[zB e2]at m;exact h.inj j z (((u j).1 D).resolve_left e1) (((u z).1 y).resolve_left e2) m
 ·by_cases e1:j=k
  ·rw[zC e1];exact⟨.inr hz,O,O,O⟩
  ·rw[zB e1];have:=h.out j (((u j).1 d).resolve_left e1);exact⟨.inl this.1,this.2⟩
 ·refine h.zero w λy=>J ((u _).2 (.inr y))
theorem fE.AX (h:fE U F p q r l B sp){σ':Hp}{n c:Nat}(hn:n<=1024)(ho:Qq U σ' p)(hc:sp.st.length<=c)(hb:bY σ' p [.slice (some ⟨q,0,none⟩) sp.st.length c,.map (some r),.int .i64 (n:Int)]):fE σ' F p q r l B {sp with pk:=n}:=by
 have d:=h.fs;obtain⟨a,b⟩:=h.row;refine⟨⟨c,hc,hb⟩,⟨a,Ws ho b O⟩,U0 ho h.map O,h.keys,λj t e=>?_,h.inj,h.out,d,h.zero,h.n1,h.n2,h.r7,hn⟩;obtain⟨s,g,m,i,u,x,w⟩:=h.wd j t e;exact⟨s,g,m,i,Ws ho u (h.out j (h.lK e)).2.1,x,w⟩
theorem fE.word (h:fE U F p q r l B sp){w:Nat}{v:Int}(hk:sp.st[w/32]?=some 2){σ':Hp}{cs:List Value}(h32:32<=cs.length)(ho:Qq U σ' (B (w/32)))(hcs:∀j,j<32->cs[j]?=some (.int .i64 (sp.wd (32*(w/32)+j))))
 (hb:bY σ' (B (w/32)) (cs.set (w%32) (.int .i64 v))):fE σ' F p q r l B {sp with wd:=λu=>if u=w then v else sp.wd u}:=by
 have C:=h.out _ hk;obtain⟨c,G,hd⟩:=h.hd;obtain⟨a,b⟩:=h.row;refine⟨⟨c,G,Ws ho hd O⟩,⟨a,Ws ho b O⟩,U0 ho h.map O,h.keys,λj t y=>?_,h.inj,h.out,h.fs,λu A=>?_,h.n1,h.n2,h.r7,h.pk⟩
 ·obtain⟨x,z,s,m,D,E,H⟩:=h.wd j t y;by_cases hjk:j=w/32
  ·subst hjk;refine⟨x,z,s,_,hb,by simpa using h32,λi g=>?_⟩;rw[mU];by_cases hiw:w%32=i
   ·rw[zC hiw,zC O];simp only;rw[zC O]
   ·rw[zB hiw];simp only;rw[zB O];exact hcs i g
  ·have d:B j≠B (w/32):=λe=>hjk (h.inj _ _ (h.lK y) hk e);refine⟨x,z,s,m,Ws ho D d,E,λi g=>?_⟩;rw[H i g];simp only;rw[zB O]
 ·have:u≠w:=λe=>by subst e;exact A hk
  simp only;rw[zB this];exact h.zero u A
theorem NM (h:dL U F p sp)(g:Gc U){w:Nat}(hw:w/32<sp.st.length)(v:Int){R:aP}(hR:∀σ',Ext F U σ'->dL σ' (Grow F U) p (np sp w v)->R σ') :
 Y1.c (aW p) (w:Int) v U R:=by
 refine Y1.o ?_;unfold Y1.v;obtain⟨q,r,l,B,h⟩:=h;have Q:=h.n2;have j:sp.st[w/32]?=some sp.st[w/32]:=cT hw;have tm:((w:Int).tmod 32)=((w%32:Nat):Int):=by rw[Qz O];simp
 have word:∀(u:Hp) (s':Sp) (l':List (Int×Sl)) (B':Nat->Nat),Ext F U u->fE u (Grow F U) p q r l' B' s'->s'.st[w/32]?=some 2->({s' with wd:=λz=>if z=w then v else s'.wd z}:Sp)=np sp w v →
  bU (some ⟨p,0,none⟩) λS=>lg (S.add 1) u λaa=>Lk .i64 .s aa ((w/32:Nat):Int) u λJ=>Nz 32<|Ix (J.getD ⟨none,0,0⟩).a (J.getD ⟨none,0,0⟩).len ((w:Int).tmod 32) 1 λX=>dX X (.int .i64 v) u λv1=>R v1:=by
  intro u s' l' B' eu hu A he;refine aG (hu.rM ⟨l',hu.map,nz aB ?_⟩);obtain⟨s,hs,w1,w2,w3,cs,w4,w5,w6⟩:=hu.entry A;rw[hs,tm];simp only[pF];rw[w1];refine ix O O ?_;rw[add_lit,show 0+((w%32:Nat):Int).toNat*1=w%32 by omega];refine w4.s0 O λu2 o2 L=>?_;have h2:=hu.word (v:=v) A w5 o2 w6 L;rw[he]at h2;exact hR u2 (eu.dS o2.ext λb d=>by subst d;exact(hu.out _ A).1) ⟨_,_,_,_,h2⟩
 refine nz aB (cP (m:=w/32) (by rw[Yr O];simp) O (Jn.intro (aG (h.rS λcap K=>ix O aC ?_))));rw[add_lit,show 0+((w/32:Nat):Int).toNat*2=2*(w/32) by omega];refine h.yE j (nt (n:=true) g.d0 (nt (n:=true) g.d1 ?_));have e0:(((fV sp.st[w/32]).1==true)&&(((fV sp.st[w/32]).2==true)&&true))=(sp.st[w/32]==2):=BJ (h.r7 _ (zo hw)) (y:=2) O;rw[e0];refine cO (λhd=>?_) λhd=>?_
 ·have G:sp.st[w/32]≠2:=by simpa using hd
  refine aG (h.rS λcap K=>nt (n:=true) g.d0 (nt (n:=true) g.d1 (ix O aC ?_)));rw[add_lit,show 0+((w/32:Nat):Int).toNat*2=2*(w/32) by omega];obtain⟨D,E⟩:=h.row;refine E.s1 (by rw[zO,Vq];omega) λu1 o1 b1=>b1.s1 (by rw[nF,zO,Vq];omega) λu2 o2 L=>?_;rw[j6]at L;have W:bY u2 q (gR (sp.st.set (w/32) 2)++D):=by rw[←Ev hw];exact L
  have e2:Ext (· = q) U u2:=o1.ext.trans o2.ext;obtain⟨c,hc,C⟩:=h.hd;have H:=e2.bT C h.fs.2.2.2.1;refine⟨λm=>bY m p [.slice (some ⟨q,0,none⟩) sp.st.length c,.map (some r),.int .i64 (sp.pk:Int)],H,aG ⟨some r,λm hm=>by rw[add_lit,hm.cell];rfl,?_⟩⟩;refine mk (n:=32) O O λu3 hz3 N b3=>⟨Ext.bT N H id,?_⟩;have ad:bY u3 u2.size (List.replicate 32 (.int .i64 0)):=b3;have q3:=Ext.bT N W id;have V:=e2.fO h.map (λe=>h.fs.2.2.2.2.2 e.symm);refine⟨r,l,rfl,Ext.fO N V id,λu4 o4 Y=>?_⟩;have sz2:u2.size=U.size:=by rw[o2.1,o1.1]
  have ae:=h.map.lt;have hplt:=C.lt;have e4:Ext (λb=>b=q\/b=r) U u4:=((e2.sub λb d=>.inl d).trans (bK.to N)).trans (o4.ext.sub λb d=>.inr d);have P:=h.Ay hw (by rw[j];simpa using G) (s:=⟨some ⟨u2.size,0,none⟩,32,32⟩) (b:=u2.size) e4 (λi _ M=>M) O (Ws o4 q3 h.fs.2.2.2.2.2) Y rfl rfl rfl (Ws o4 ad O);obtain⟨c4,ac,x⟩:=P.hd;refine aG (x.rI rfl (aG (x.rM rfl ⟨_,P.map,aG ?_⟩)));rw[P.wJ];have hcl:(sp.st.set (w/32) 2).count 2<=1024:=zh List.count_le_length (by simpa using Q);have hpk:=h.pk;have hv:(if((List.count 2 (sp.st.set (w/32) 2):Nat):Int)>(sp.pk:Int)then((List.count 2 (sp.st.set (w/32) 2):Nat):Int)else(sp.pk:Int))=((max sp.pk ((sp.st.set (w/32) 2).count 2):Nat):Int):=by
   by_cases hgt:((List.count 2 (sp.st.set (w/32) 2):Nat):Int)>(sp.pk:Int)
   ·rw[zC hgt];omega
   ·rw[zB hgt];omega
  simp only;rw[hv];refine x.s1 aA λu5 o5 b5=>?_;have h5:=P.AX O o5 ac b5;have e5:Ext F U u5:=(e4.sub λb d=>by
   rcases d with rfl|rfl
   ·exact h.fs.2.1
   ·exact h.fs.2.2.1).trans (o5.ext.sub λb d=>by subst d;exact h.fs.1)
  refine word u5 _ _ _ e5 h5 (by simp only;rw[mU,zC rfl,zC hw]) ?_;unfold np;rw[zB (by rw[zP,j];exact G)]
 ·have Z:sp.st[w/32]=2:=by simpa using hd
  rw[Z]at j;have ab:fE U (Grow F U) p q r l B sp:={h with out:=λk A=>⟨.inl (h.out k A).1,(h.out k A).2⟩,fs:=⟨.inl h.fs.1,.inl h.fs.2.1,.inl h.fs.2.2.1,h.fs.2.2.2⟩};refine word U sp l B (Ext.refl _ _) ab j ?_;unfold np;rw[zC (by rw[zP,j];rfl)];have:sp.st.set (w/32) 2=sp.st:=by
   apply zp;intro i;rw[mU];by_cases M:w/32=i
   ·subst M;rw[zC rfl,zC hw,j]
   ·rw[zB M]
  rw[this]
theorem RB (h:dL U F p sp)(g:Gl U)(gd:Gc U)(x:Int)(hx:x<=9223372036854775807)(v:Int){R:aN}(hR:∀σ',Ext F U σ'->dL σ' (Grow F U) p (ZX sp x v)->R (eR sp x) σ') :
 Yc.c (aW p) x v U R:=by
 refine Yc.o ?_;unfold Yc.v;have j:dL U (Cut F U) p sp:=dM.cut dL.loc h;refine FB h g x hx λB e=>?_;have w:=j.bO e;have C:=g.bO e;refine cO (λs=>?_) λs=>?_
 ·have r:¬eR sp x=0:=by simpa using s
  refine hR B (bK.to e) ?_;unfold ZX;rw[zB r];exact dM.mono dL.loc w λb _ a=>.inl a.1
 ·have d:eR sp x=0:=by simpa using s
  have i:0<=x/\sp.st.getD (x.toNat/256) 0≠0:=by
   unfold eR at d;by_cases a:x<0\/x%8≠0
   ·rw[zC a]at d;cases d
   ·rw[zB a]at d;by_cases hz:sp.st.getD (x.toNat/256) 0=0
    ·rw[zC hz]at d;cases d
    ·exact⟨O,hz⟩
  obtain⟨y,rfl⟩:=zc i.1;have u:y/8/32<sp.st.length:=by
   rcases kg (y/256) sp.st.length with h|h
   ·omega
   ·exact absurd (by rw[zP,zV (by simpa using h)];rfl) i.2
  refine nz aB (cP (m:=y/8) (by rw[Yr O];simp) O (NM w (gd.bO e) u v λA e2 z=>?_));have:=hR A (Ext.cut ((bK.to e).trans e2)) ?_
  ·rw[d]at this;exact this
  ·unfold ZX;rw[zC d];exact dM.mono dL.loc z λb _ a=>by
    rcases a with a|a
    ·exact .inl a.1
    ·exact .inr (zh e.1 a)
def Vf (n:Nat):Sp:=⟨List.replicate n 0,λ_=>0,0⟩
theorem Jb {U:Hp}{F:Rg}{p q r n c:Nat}(h1:1<=n)(h2:n<=1024)(hc:n<=c)(hd:bY U p [.slice (some ⟨q,0,none⟩) n c,.map (some r),.int .i64 0])(hq:bY U q (gR (List.replicate n 0)))(hr:dH U r .i64 .s [])
 (hF:F p/\F q/\F r) (hne:p≠q/\p≠r/\q≠r):fE U F p q r [] (λ_=>0) (Vf n):=by
 have b:∀k:Nat,(List.replicate n 0)[k]?≠some 2:=λk a=>by
  rw[mr]at a;split at a<;>cases a
 refine⟨⟨c,by simpa[Vf]using hc,by simpa[Vf]using hd⟩,⟨[],by simpa[Vf]using hq⟩,hr,λx=>?_,λk s e=>(by cases e),λk g h1=>absurd h1 (b k),λk a=>absurd a (b k),⟨hF.1,hF.2.1,hF.2.2,hne⟩,λw _=>rfl,by simpa[Vf]using h1,by simpa[Vf]using h2,λx d=>?_,by simp[Vf]⟩
 ·constructor
  ·intro h;cases h
  ·rintro⟨k,_,a⟩;exact absurd a (b k)
 ·have:=BU d;omega
theorem SC {n:Nat}(h1:1<=n)(h2:n<=1024){R:Option Addr->Int->Hp->Prop}(hR:∀σ' p',bK U σ'->U.size<=p'->dL σ' (λb=>U.size<=b) p' (Vf n)->R (some ⟨p',0,none⟩) 0 σ'):QP.c (n:Int) U R:=by
 refine QP.o ?_;unfold QP.v;refine bW.intro (fT O ?_);rw[zM O];refine cB rfl (mk O O λd u e1 i=>tv λw r e2 m=>nw (cs:=[.slice (some ⟨U.size,0,none⟩) n n,.map (some d.size),.int .i64 0]) λp x a g=>?_);have j:=Ext.bT a (Ext.bT e2 i id) id;have e:=Ext.fO a (m .i64 .s) id;refine hR p _ (Ext.trans (Ext.trans e1 e2) a) O ⟨U.size,d.size,[],_,Jb h1 h2 (zD _) g ?_ e ⟨O,O,O⟩ O⟩;rw[IL];exact j
end Go.Ar