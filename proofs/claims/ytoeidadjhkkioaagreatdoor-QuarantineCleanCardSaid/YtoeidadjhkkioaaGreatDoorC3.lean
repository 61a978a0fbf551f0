/- Texts joined. -/
import Derived.Lib.Overlaps
import Derived.Laws.Externs
import Derived.Test.YtoeidadjhkkioaaGreatDoorC2
set_option linter.unusedVariables false
set_option linter.unusedSimpArgs false
namespace Go.Proofs
open Go.Vc
set_option maxRecDepth 100000
def Z1.h:Hn:=.q .o1 (.q (.q (.cU (.seq [.op,.op,.op,.op,.cY false 3 (RI.ops 3)])) .aK) (.q (.q .o3 (.k (.loop [(15,.I)] (.q .o1 (.q (.c .l .l) (.q (.k (.q .o6 (.q (.cU (.gK true [1] [(37,.one .b)] (.take 0 (.all [(1,.take 2 (.take 3 (.split 23 (.take 4 (.take 5 (.take 6 (.take 7 (.take 8 (.take 9 (.take 10 (.take 11 (.take 12 (.take 13 (.take 14 (.take 15 (.take 16 (.take 17 (.done))))))))))))))) (.take 4 (.take 5 (.take 6 (.split 26 (.take 7 (.take 9 (.take 10 (.take 11 (.take 12 (.take 13 (.all [(8,.all [(14,.take 15 (.take 16 (.take 17 (.done))))]),(14,.all [(8,.take 15 (.take 16 (.take 17 (.done))))])]))))))) (.take 7 (.take 8 (.take 9 (.take 10 (.take 11 (.take 12 (.take 13 (.take 14 (.take 15 (.take 16 (.take 17 (.done)))))))))))))))))))])))) .aK))) .o2)))))) .aM))
def Z1.v (a:Sl)(b:Hp)(c:aO):Prop:=bX (λd e=>If d (c false e) (XS [bO] (λf=>f 0 e) λg (h:Int) i=>If (h<((a.len:Nat):Int)) (Ix a.a a.len h 3 λj=>aQ j 0 i λk=>aQ j 1 i λl=>aQ j 2 i λm=>aV #[.I 0,.I 0,.I 0] 149 i λn o=>aR n 0 (.I k) o λp=>aR n 1 (.I l) p λq=>aR n 2 (.I m) q λr=>Jn [.b] (λ(s:Bool) t=>If s (c false t) (bM (h+1) λu=>g u t)) λv=>dS r λw=>aS w n 0 λx=>aS w n 1 λy=>aS w n 2 λz=>Kf.c x y z r λaa ab=>If (!aa) (v true ab) (If (h>0) (bM (h-1) λac=>Ix a.a a.len ac 3 λad=>(aQ n 0 ab λae=>aQ ad 0 ab λaf=>v (decide (ae<=af)) ab) ∧ (aQ ad 0 ab λag=>aQ n 0 ab λah=>v (decide (ah<=ag)) ab)) (v false ab))) (c true i))) λai=>If (((a.len:Nat):Int)<1) (ai true b) (ai (decide (((a.len:Nat):Int)>40)) b)
theorem Z1.o {a b c}(d:Z1.v a b c):Z1.c a b c:=Wa Tryz.func151 (x:=Z1.h) (R0 d)
def QL.h:Hn:=.q .o4 (.q (.k (.q .o4 (.c .aL (.q (.cU (.gK true [] [(13,.one .b)] (.tk [0,1,2] (.split 16 (.tk [3,4,5,6,7,8,9,10,11,12,13,14,15,16] (.done)) (.tk [3,4,5,6] (.split 20 (.tk [7,8,9,10,11,12,13,14,15,16] (.done)) (.tk [7,8,9,10] (.split 24 (.tk [11,12,13,14,15,16] (.done)) (.take 11 (.take 13 (.all [(12,.take 14 (.take 15 (.take 16 (.done))))]))))))))))) .aJ)))) (.q .o4 (.q (.q .o2 .aJ) (.q .o3 .l))))
def QL.v (a:Sl)(b c:Int)(d:Hp)(e:Int->Int->Hp->Prop):Prop:=aV #[.I b] 3 d λf g=>aV #[.I c] 3 g λh i=>Z1.c a i λj k=>If (!j) (e 0 2 k) (Jn [.b] (λ(l:Bool) m=>If l (e 0 1 m) (Ws.c a ⟨228,#[],#[.pointer (some f),.pointer (some h)]⟩ m λn o=>If (n<0) (e 0 4 o) (e n 0 o))) λp=>dS k λq=>gC q bO f λ(r:Int)=>If (r<1) (p true k) (gC q bO h λ(s:Int)=>If (s<1) (p true k) (gC q bO h λ(t:Int)=>If (t>256) (p true k) (gC q bO h λ(u:Int)=>gC q bO h λ(v:Int)=>QQ.c u k λw x=>And (q x) <| p (w != v) x))))
theorem QL.o {a b c d e}(f:QL.v a b c d e):QL.c a b c d e:=Wa Tryz.func164 (x:=QL.h) (R0 f)
def Kf.h:Hn:=.q .o2 (.q (.cU (.seq [.op,.op,.op,.op,.cY true 3 (RI.ops 3),.op,.cY true 4 (RI.ops 4),.op,.cY true 3 (RI.ops 3),.op,.cY true 3 (RI.ops 3),.op,.cY true 6 (RI.ops 6),.op,.cY true 3 (RI.ops 3),.op,.cY true 3 (RI.ops 3),.op])) .l)
def Kf.v (a b c:Int)(d:Hp)(e:aO):Prop:=aV #[.I a,.I b,.I c] 149 d λf g=>aQ f 0 g λh=>bX (λi j=>bX (λk l=>bX (λm n=>bX (λo p=>bX (λq r=>bX (λs t=>bX (λu v=>e u v) λw=>If s (aQ f 2 t λx=>w (decide (x<=32)) t) (w false t)) λy=>If q (aQ f 2 r λz=>y (decide (z≥1)) r) (y false r)) λaa=>If o (aQ f 1 p λab=>bM (ab*256) λac=>aQ f 0 p λad=>aa (decide (ac≥ad)) p) (aa false p)) λae=>If m (aQ f 1 n λaf=>ae (decide (af<=4)) n) (ae false n)) λag=>If k (aQ f 1 l λah=>ag (decide (ah≥1)) l) (ag false l)) λai=>If i (aQ f 0 j λaj=>Nz 8 <| ai ((aj.tmod 8)==0) j) (ai false j)) λak=>If (h≥8) (aQ f 0 g λal=>ak (decide (al<=512)) g) (ak false g)
theorem Kf.o {a b c d e}(f:Kf.v a b c d e):Kf.c a b c d e:=Wa Tryz.func195 (x:=Kf.h) (R0 f)
def Z5.h:Hn:=.q .o2 (.q .o7 .l)
def Z5.v (a b c:Int)(d:Hp)(e:aN):Prop:=aV #[.I a,.I b,.I c] 149 d λf g=>aQ f 1 g λh=>bM (h*256) λi=>aQ f 0 g λj=>Nz j<|bM (i.tdiv j) λk=>e k g
theorem Z5.o {a b c d e}(f:Z5.v a b c d e):Z5.c a b c d e:=Wa Tryz.func196 (x:=Z5.h) (R0 f)
def QQ.h:Hn:=.q .o1 (.q .o1 (.q (.q .o1 (.k (.loop [(3,.I),(4,.I)] (.q (.q .o3 (.c .l .l)) (.q (.k .o2) .o3))))) .aL))
def QQ.v (a:Int)(b:Hp)(c:aN):Prop:=XS [bO,bO] (λd=>d 0 1 b) λe (f:Int) (g:Int) h=>If (g<=a) (bM (g*2) λi=>e g i h) (c f h)
theorem QQ.o {a b c}(d:QQ.v a b c):QQ.c a b c:=Wa Tryz.func226 (x:=QQ.h) (R0 d)
def Qo.h:Hn:=.q .o2 (.q (.cU (.seq [.op,.op,.op,.op,.op,.cY true 5 (RI.ops 5),.op])) .l)
def Qo.v (a b c:Int)(d e:Addr)(f:Hp)(g:aO):Prop:=aV #[.I a,.I b,.I c] 149 f λh i=>aQ h 0 i λj=>bN d i λk=>bX (λl m=>g l m) λn=>If (j≥k) (aQ h 0 i λo=>bN e i λp=>Nz p <| n ((o.tmod p)==0) i) (n false i)
theorem Qo.o {a b c d e f g}(h:Qo.v a b c d e f g):Qo.c a b c d e f g:=Wa Tryz.func228 (x:=Qo.h) (R0 h)
def ZV.h:Hn:=.q .o3 (.q (.q .o3 .aJ) (.q .o4 .l))
def ZV.v (a b c:Int)(d:Hp)(e:Int->Int->Hp->Prop):Prop:=aV #[.I a,.I b,.I c] 149 d λf g=>aQ f 0 g λh=>aQ f 1 g λi=>aQ f 2 g λj=>Kf.c h i j g λk l=>If (!k) (e 0 1 l) (aQ f 0 l λm=>aQ f 1 l λn=>aQ f 2 l λo=>Z5.c m n o l λp q=>e p 0 q)
theorem ZV.o {a b c d e}(f:ZV.v a b c d e):ZV.c a b c d e:=Wa Tryz.func274 (x:=ZV.h) (R0 f)
end Go.Proofs
namespace Go.Ar
open Go Go.Vc Go.Proofs
variable {U:Hp}
theorem FI (x y z:Int){R:aO}(hR:∀σ',aF U σ'->R (UN x y z) σ'):Kf.c x y z U R:=by
 refine Kf.o ?_;unfold Kf.v;refine nw (cs:=[.int .i64 x,.int .i64 y,.int .i64 z]) λh A e b=>?_;have p:UN x y z=false->R false h:=λg=>g▸hR h e;have a:¬(8<=x/\x<=512/\x%8=0/\1<=y/\y<=4/\x<=y*256/\1<=z/\z<=32)->R false h:=λg=>p (by rw[←qY,HF];exact g);refine b.rI rfl (bX.intro ?_);refine cN (λw=>b.rI rfl (bX.intro ?_)) λw=>?_
 case refine_2=>
  iterate 6 refine bX.intro (cD rfl ?_)
  exact a O
 refine cN (λu=>b.rI rfl (nz aB (bX.intro ?_))) λu=>?_
 case refine_2=>
  iterate 5 refine bX.intro (cD rfl ?_)
  exact a O
 rw[Kh O];refine cR (λd=>b.rI rfl (bX.intro ?_)) λd=>?_
 case refine_2=>
  have:¬x%8=0:=by simpa using d
  iterate 4 refine bX.intro (cD rfl ?_)
  exact a O
 have i:x%8=0:=by simpa using d
 refine cN (λr=>b.rI rfl (bX.intro ?_)) λr=>?_
 case refine_2=>
  iterate 3 refine bX.intro (cD rfl ?_)
  exact a O
 refine cN (λs=>b.rI rfl (ar O O (b.rI rfl (bX.intro ?_)))) λs=>?_
 case refine_2=>
  iterate 2 refine bX.intro (cD rfl ?_)
  exact a O
 refine cN (λj=>b.rI rfl (bX.intro ?_)) λj=>?_
 case refine_2=>exact bX.intro (cD rfl (a O))
 refine cN (λm=>b.rI rfl ?_) λm=>a O;have:decide (z<=32)=UN x y z:=by
  rw[kU,HF];simp;omega
 rw[this];exact hR h e
theorem On {c:cA}(hc:c.ok){R:aN}(hR:∀σ',aF U σ'->R (c.n:Int) σ'):Z5.c c.size c.aG c.batch U R:=by
 refine Z5.o ?_;unfold Z5.v;have h:=hc;unfold cA.ok at h;refine nw (cs:=[.int .i64 c.size,.int .i64 c.aG,.int .i64 c.batch]) λh b e a=>?_;refine a.rI rfl (cT (m:=c.aG*256) aA O (a.rI rfl (nz O ?_)));refine cT (m:=c.n) ?_ (by have:=hc.kL;omega) (hR _ e);rw[Yj O];simp[cA.n]
theorem Iy (x y z:Int){R:Int->Int->Hp->Prop}(h1:∀c:cA,c.ok->x=c.size->y=c.aG->z=c.batch->∀σ',aF U σ'->R (c.n:Int) 0 σ')(h0:UN x y z=false->∀σ',aF U σ'->R 0 1 σ'):ZV.c x y z U R:=by
 refine ZV.o ?_;unfold ZV.v;refine nw (cs:=[.int .i64 x,.int .i64 y,.int .i64 z]) λh i e b=>?_;refine b.rI rfl (b.rI rfl (b.rI rfl (FI _ _ _ λm e2=>?_)));have a:=e2.bV b id;cases hk:UN x y z
 ·exact cF rfl (h0 hk _ (e.trans e2))
 ·obtain⟨c,d,_,rfl,rfl,rfl⟩:=y8 hk;exact cD rfl (a.rI rfl (a.rI rfl (a.rI rfl (On d λj g=>h1 c d rfl rfl rfl _ ((e.trans e2).trans g)))))
end Go.Ar
namespace Go.Proofs
open Go.Vc
set_option maxRecDepth 100000
def Vk.h:Hn:=.q .o2 (.q (.q (.cU (.seq [.op,.op,.op,.cY false 2 [.op,.op],.op,.cY false 3 (RI.ops 3)])) .aJ) (.q .o6 .l))
def Vk.v (a:Int)(b:Hp)(c:Option Addr->Int->Hp->Prop):Prop:=bX (λd e=>bX (λf g=>If f (c none 1 g) (Mk a a 8 3 [.I 0] g λh i=>aV #[.slice h.a h.len h.cap] 342 i λj k=>c (some j) 0 k)) λl=>If d (l true e) (Nz 16 <| l ((a.tmod 16) != 0) e)) λm=>If (a<16) (m true b) (m (decide (a>1024)) b)
theorem Vk.o {a b c}(d:Vk.v a b c):Vk.c a b c:=Wa Tryz.func211 (x:=Vk.h) (R0 d)
def XO.h:Hn:=.q .o1 (.q .o6 .l)
def XO.v (a:R2)(b c:Int)(d:Hp)(e:aN):Prop:=aV #[.I 1] 3 d λf g=>X6.c a b c 2 ⟨some f,1,1⟩ g λh i=>e h i
theorem XO.o {a b c d e}(f:XO.v a b c d e):XO.c a b c d e:=Wa Tryz.func245 (x:=XO.h) (R0 f)
def XF.h:Hn:=.q .o1 (.q (.cU (.seq [.op,.op,.op,.cY true 6 (RI.ops 6),.op])) .l)
def XF.v (a:R2)(b:Hp)(c:aO):Prop:=bX (λd e=>c d e) λf=>If (!a.isNone) (bF a 0 b λh=>f (decide (((h.len:Nat):Int)>0)) b) (f false b)
theorem XF.o {a b c}(d:XF.v a b c):XF.c a b c:=Wa Tryz.func249 (x:=XF.h) (R0 d)
def Ze.h:Hn:=.q .o1 (.q .o7 .l)
def Ze.v (a:R2)(b:Hp)(c:aN):Prop:=bF a 0 b λe=>Nz 16<|bM (((e.len:Nat):Int).tdiv 16) λf=>c f b
theorem Ze.o {a b c}(d:Ze.v a b c):Ze.c a b c:=Wa Tryz.func250 (x:=Ze.h) (R0 d)
def ZA.h:Hn:=.q .o1 (.q (.o 11) .l)
def ZA.v (a:R2)(b:Int)(c:Hp)(d:Sl->Hp->Prop):Prop:=bF a 0 c λf=>bM (b*16) λg=>bM (b+1) λh=>bM (h*16) λi=>fF f 1 g i (f.cap:Nat) λj=>d j c
theorem ZA.o {a b c d}(e:ZA.v a b c d):ZA.c a b c d:=Wa Tryz.func252 (x:=ZA.h) (R0 e)
def X6.h:Hn:=.q .o2 (.q (.k (.q .o4 (.c .aM (.q (.cU (.seq [.op,.op,.op,.cY false 2 [.op,.op],.op,.cY false 7 (RI.ops 7),.op,.cY false 9 (RI.ops 9),.op])) .aK)))) (.q .gA (.q (.q .o3 .aK) (.q .o3 .aM))))
def X6.v (a:R2)(b c d:Int)(e:Sl)(f:Hp)(g:aN):Prop:=aV #[.slice e.a e.len e.cap] 31 f λh i=>XF.c a i λj k=>If (!j) (g 5 k) (bX (λl m=>bX (λn o=>bX (λp q=>If p (g 1 q) (bF a 0 q λs=>bM (b+c) λt=>fF s 1 b t (s.cap:Nat) λu=>WP.c u ⟨305,#[],#[.pointer (some h)]⟩ q λv w=>If v (g 5 w) (Q3.c u d w λx=>g 0 x))) λy=>If n (y true o) (bF a 0 o λaa=>bM (((aa.len:Nat):Int)-b) λab=>y (decide (c>ab)) o)) λac=>If l (ac true m) (bF a 0 m λae=>ac (decide (b>((ae.len:Nat):Int))) m)) λaf=>If (b<0) (af true k) (af (decide (c<1)) k))
theorem X6.o {a b c d e f g}(h:X6.v a b c d e f g):X6.c a b c d e f g:=Wa Tryz.func256 (x:=X6.h) (R0 h)
def YO.h:Hn:=.q .o2 (.q (.k (.q .o4 (.c .aL (.q (.cU (.seq [.op,.op,.op,.cY false 4 (RI.ops 4),.op])) .aJ)))) (.q .o5 .l))
def YO.v (a:R2)(b:Int)(c:Hp)(d:Sl->Int->Hp->Prop):Prop:=XF.c a c λe f=>If (!e) (d ⟨none,0,0⟩ 5 f) (bX (λg h=>If g (d ⟨none,0,0⟩ 1 h) (ZA.c a b h λi j=>d i 0 j)) λk=>If (b<0) (k true f) (Ze.c a f λl m=>k (decide (b≥l)) m))
theorem YO.o {a b c d}(e:YO.v a b c d):YO.c a b c d:=Wa Tryz.func259 (x:=YO.h) (R0 e)
def Q3.h:Hn:=.q .o3 (.k (.loop [(7,.I)] (.q .o1 (.q (.c .l .l) (.q (.k (.q .o2 .o5)) .o2)))))
def Q3.v (a:Sl)(b:Int)(c:Hp)(d:aP):Prop:=XS [bO] (λe=>e 0 c) λf (g:Int) h=>If (g<((a.len:Nat):Int)) (Ix a.a a.len g 1 λi=>dF i (.I b) h λj=>bM (g+1) λk=>f k j) (d h)
theorem Q3.o {a b c d}(e:Q3.v a b c d):Q3.c a b c d:=Wa Tryz.func261 (x:=Q3.h) (R0 e)
def XU.h:Hn:=.q .o1 (.q .o6 .l)
def XU.v (a:R2)(b c:Int)(d:Hp)(e:aN):Prop:=aV #[.I 2,.I 3] 3 d λf g=>X6.c a b c 1 ⟨some f,2,2⟩ g λh i=>e h i
theorem XU.o {a b c d e}(f:XU.v a b c d e):XU.c a b c d e:=Wa Tryz.func288 (x:=XU.h) (R0 f)
def YP.h:Hn:=.q .o1 (.q .o5 .l)
def YP.v (a:Int)(b:Addr)(c:Hp)(d:aO):Prop:=jH b c λe=>Ww.c e a c λf g=>d (!f) g
theorem YP.o {a b c d}(e:YP.v a b c d):YP.c a b c d:=Wa Tryz.func305 (x:=YP.h) (R0 e)
def Yb.h:Hn:=.q .o1 (.q (.q (.cU (.seq [.op,.op,.op,.op,.cY false 2 [.op,.op],.op,.cY false 7 (RI.ops 7)])) .aK) (.q .o8 .l))
def Yb.v (a:R2)(b:Int)(c:Hp)(d:aN):Prop:=XF.c a c λe f=>bX (λg h=>bX (λi j=>If i (d (-1) j) (bF a 0 j λl=>Ix l.a l.len b 1 λm=>bN m j λn=>d n j)) λo=>If g (o true h) (bF a 0 h λq=>o (decide (b≥((q.len:Nat):Int))) h)) λr=>If (!e) (r true f) (r (decide (b<0)) f)
theorem Yb.o {a b c d}(e:Yb.v a b c d):Yb.c a b c d:=Wa Tryz.func314 (x:=Yb.h) (R0 e)
def Yp.h:Hn:=.q .o1 (.q .o8 (.q (.k (.q .o3 (.c .aL (.q .o5 .aK)))) (.q .o2 .aM)))
def Yp.v (a:R2)(b:Int)(c:Hp)(d:aN):Prop:=YO.c a b c λe f g=>If (f != 0) (d f g) (Ix e.a e.len 0 1 λh=>bN h g λi=>If (i != 0) (d 5 g) (Q3.c e 3 g λj=>d 0 j))
theorem Yp.o {a b c d}(e:Yp.v a b c d):Yp.c a b c d:=Wa Tryz.func319 (x:=Yp.h) (R0 e)
end Go.Proofs
namespace Go.Ar
open Go Go.Vc Go.Proofs
open Go.Bu (ZG)
variable {U:Hp}{F:Rg}{p q:Nat}{st:List Nat}
structure il (U:Hp) (p q:Nat) (st:List Nat):Prop where
 hd:∃cap,st.length<=cap/\bY U p [.slice (some ⟨q,0,none⟩) st.length cap]
 row:∃rest,bY U q (ints st++rest)
 ne:p≠q
 n1:16<=st.length
 n2:st.length<=1024
 n3:st.length%16=0
theorem il.bS {σ':Hp}(h:il U p q st)(e:Ext F U σ')(hp:¬F p)(hq:¬F q):il σ' p q st:=
 ⟨by obtain⟨c,a,b⟩:=h.hd;exact⟨c,a,e.bV b hp⟩,by obtain⟨r,a⟩:=h.row;exact⟨r,e.bV a hq⟩,h.ne,h.n1,h.n2,h.n3⟩
theorem il.bP {σ':Hp}(h:il U p q st)(e:aF U σ'):il σ' p q st:=h.bS e id id
theorem il.lt (h:il U p q st):p<U.size/\q<U.size:=by
 obtain⟨_,_,b⟩:=h.hd;obtain⟨_,a⟩:=h.row;exact⟨b.lt,a.lt⟩
theorem il.rS (h:il U p q st){K:Sl->Prop}(hK:∀cap,st.length<=cap->K ⟨some ⟨q,0,none⟩,st.length,cap⟩):jH (Addr.add ⟨p,0,none⟩ 0) U K:=by
 obtain⟨c,b,a⟩:=h.hd;exact a.rS rfl (hK c b)
theorem il.part (h:il U p q st){s:Sl}{a n:Nat}(ha:s.a=some ⟨q,a,none⟩)(hn:s.len=n)(hl:a+n<=st.length):cV s 1 (ints ((st.drop a).take n)) U (· = q):=by
 obtain⟨r,g⟩:=h.row;have b:((st.drop a).take n).length=n:=by simp;omega
 refine g.fW ha (by rw[Km,b,hn];simp) λj d=>?_;rw[Km,b]at d;rw[zd (by rw[Km];omega)];simp[ints,zm,d,lu]
theorem jS {b o n c:Nat}{cs:List Value}(hb:bY U b cs)(hl:o+n<=cs.length)(hn:n<=1000000)(v:Nat){R:aP}
 (hR:∀σ',Kb U σ' b->bY σ' b (cs.take o++List.replicate n (.int .i64 (v:Int))++cs.drop (o+n))->R σ'):Q3.c ⟨some ⟨b,o,none⟩,n,c⟩ v U R:=by
 refine Q3.o ?_;unfold Q3.v;refine Qj (a:=bO) (λ(t:Int) p=>∃i:Nat,t=(i:Int)/\i<=n/\Kb U p b/\bY p b (cs.take o++List.replicate i (.int .i64 (v:Int))++cs.drop (o+i))) (λt _=>n-t.toNat) ⟨0,rfl,O,⟨rfl,λ_ _=>rfl⟩,by simpa using hb⟩ ?_;rintro t p ⟨i,rfl,hi,s,d⟩;refine cN (λr=>?_) λu=>?_
 ·simp only at r;refine ix O aC ?_;rw[add_lit];refine d.s0 aE λx j g=>?_;refine cT (m:=i+1) O O ⟨⟨i+1,rfl,O,⟨j.1.trans s.1,λk w=>(j.2 k w).trans (s.2 k w)⟩,?_⟩,O⟩;have:(cs.take o++List.replicate i (Value.int .i64 (v:Int))++cs.drop (o+i)).set (o+(i:Int).toNat*1) (Value.int .i64 (v:Int))=cs.take o++List.replicate (i+1) (Value.int .i64 (v:Int))++cs.drop (o+(i+1)):=by
   rw[C0 _ _ aE];have e:o+(i:Int).toNat*1-(cs.take o++List.replicate i (Value.int .i64 (v:Int))).length=0:=by simp;omega
   rw[e,wL O,List.set_cons_zero,BC];simp[zl,xT]
  rw[this]at g;exact g
 ·simp only at u;have:i=n:=by omega
  subst this;exact hR p s d
theorem il.fill (h:il U p q st){a n:Nat}{r:List Value}{σ':Hp}{v:Nat}(hrow:bY U q (ints st++r))(hl:a+n<=st.length)(ho:Kb U σ' q)
 (hb:bY σ' q ((ints st++r).take a++List.replicate n (.int .i64 (v:Int))++(ints st++r).drop (a+n))):il σ' p q (gF st a (a+n) v):=by
 obtain⟨c,g,d⟩:=h.hd;have b:=Vn st a (a+n) v;refine⟨⟨c,by rw[b];exact g,?_⟩,⟨r,?_⟩,h.ne,by rw[b];exact h.n1,by rw[b];exact h.n2,by rw[b];exact h.n3⟩
 ·rw[b];exact WF ho d h.ne
 ·rw[Wm3 O hl,Hr,Hr];have e1:(ints st++r).take a=ints (st.take a):=by
   rw[oI (by rw[Km];omega)];simp[ints]
  have e2:(ints st++r).drop (a+n)=ints (st.drop (a+n))++r:=by
   rw[List.drop_append_of_le_length (by rw[Km];omega)];simp[ints]
  have i:ints (List.replicate (a+n-a) v)=List.replicate n (.int .i64 (v:Int)):=by
   rw[Cz];simp[ints]
  rw[e1,e2]at hb;rw[i];simpa[zl]using hb
theorem il.jS (h:il U p q st){a n c:Nat}(hl:a+n<=st.length)(v:Nat){R:aP}(hR:∀σ',Ext (· = q) U σ'->il σ' p q (gF st a (a+n) v)->R σ') :
 Q3.c ⟨some ⟨q,a,none⟩,n,c⟩ v U R:=by
 obtain⟨r,b⟩:=h.row;have:=h.n2;exact Ar.jS b (by simp[Km];omega) O v λσ' d g=>hR σ' d.ext (h.fill b hl d g)
theorem Bq (h:il U p q st){R:aO}(hR:R true U):XF.c (aW p) U R:=by
 refine XF.o ?_;unfold XF.v;refine bX.intro (cF rfl (bL (h.rS λcap _=>?_)));have:=h.n1;rw[zI aC];exact hR
theorem PB (h:il U p q st){R:aN}(hR:R ((st.length/16:Nat):Int) U):Ze.c (aW p) U R:=by
 refine Ze.o ?_;unfold Ze.v;have:=h.n2;refine bL (h.rS λcap _=>nz aB ?_);refine cT (m:=st.length/16) ?_ O hR;rw[Yj O];simp
theorem NR (h:il U p q st){k:Nat}(hk:16*k+16<=st.length){R:Sl->Hp->Prop}(hR:∀c,R ⟨some ⟨q,16*k,none⟩,16,c⟩ U):ZA.c (aW p) (k:Int) U R:=by
 refine ZA.o ?_;unfold ZA.v;have:=h.n2;refine bL (h.rS λcap a=>?_);refine cT (m:=16*k) O O (cT (m:=k+1) O O (cT (m:=16*k+16) O O ?_));refine jm O aC aC ?_;have e:16*k+16-16*k=16:=by omega
 rw[zB aC,e];simp only[ze,add_lit,nQ,zH];exact hR _
theorem SQ (h:il U p q st)(k:Int){R:Sl->Int->Hp->Prop}(h1:∀(x:Nat) c,k=(x:Int)->16*x+16<=st.length->R ⟨some ⟨q,16*x,none⟩,16,c⟩ 0 U)(h0:vD st.length k=false->R ⟨none,0,0⟩ 1 U) :
 YO.c (aW p) k U R:=by
 refine YO.o ?_;unfold YO.v;have n3:=h.n3;refine Bq h (cD rfl (bX.intro (cN (λa=>cF rfl (h0 ?_)) λa=>PB h ?_)))
 ·simp[vD];omega
 ·refine cN (λd=>h0 ?_) λb=>?_
  ·simp[vD];omega
  ·obtain⟨x,rfl⟩:=zc (show 0<=k by omega);exact NR h O λc=>h1 x c rfl O
theorem EO {n x:Nat}(h:16*x+16<=n):vD n (x:Int)=true:=by simp[vD];omega
theorem il.first (h:il U p q st){x c:Nat}(hx:16*x+16<=st.length){K:Int->Prop}(hK:K ((st.getD (16*x) 0:Nat):Int)) :
 Ix (some ⟨q,16*x,none⟩) 16 0 1 λa=>gH .i64 a U K:=by
 have b:=h.part (s:=⟨some ⟨q,16*x,none⟩,16,c⟩) (n:=16) rfl rfl hx;refine b.sN (i:=0) (x:=st.getD (16*x) 0) ?_ hK;simp[zm,lu,zQ];rw[cW O];simp
theorem T9 (h:il U p q st)(k:Int){R:aN}(hR:∀σ',Ext (· = q) U σ'->il σ' p q (jb st k)->R (kD st k) σ'):Yp.c (aW p) k U R:=by
 refine Yp.o ?_;unfold Yp.v;refine SQ h k (λx c d g=>?_) λd=>?_
 ·subst d;have b:=EO g;refine cD rfl (h.first (c:=c) g (cR (λi=>?_) λi=>?_))
  ·have e1:¬st.getD (16*x) 0=0:=by simpa using i
   have:kD st (x:Int)=5:=by simp only[kD,b,dG,zT,zB e1]
   have e2:jb st (x:Int)=st:=by simp[jb,this]
   have:=hR U (Ext.refl _ _);rw[e2]at this;simpa[*]using this h
  ·have e1:st.getD (16*x) 0=0:=by simpa using i
   have a:kD st (x:Int)=0:=by simp only[kD,b,dG,zT,e1]
   have e2:jb st (x:Int)=gF st (16*x) (16*x+16) 3:=by simp[jb,a]
   refine h.jS g 3 λσ' e j=>?_;have:=hR σ' e;rw[a,e2]at this;exact this j
 ·have a:kD st k=1:=by simp[kD,d]
  have e2:jb st k=st:=by simp[jb,a]
  refine cF rfl ?_;have:=hR U (Ext.refl _ _);rw[a,e2]at this;exact this h
theorem Ij {s:Sl}{xs:List Nat}(h:cV s 1 (ints xs) U F)(hl:xs.length<=1000000)(v:Nat){R:aN}(h1:∀i:Nat,xs[i]?=some v->(∀j:Nat,j<i->xs[j]?≠some v)->R (i:Int) U)(h0:v∉xs->R (-1) U) :
 W3.c s (v:Int) U R:=by
 refine W3.o ?_;unfold W3.v;have x:=h.pY;refine Qj (a:=bO) (λ(t:Int) w=>∃i:Nat,t=(i:Int)/\i<=xs.length/\w=U/\∀j,j<i->xs[j]?≠some v) (λt _=>xs.length-t.toNat) ⟨0,rfl,O,rfl,λj d=>O⟩ ?_;rintro t w ⟨i,rfl,hi,rfl,b⟩;refine cN (λy=>?_) λz=>?_
 ·have p:i<xs.length:=by omega
  have r:xs[i]?=some xs[i]:=cW p;refine h.sN r ?_;rw[l8];refine cR (λu=>?_) λu=>?_
  ·have:v=xs[i]:=by simpa using u
   exact h1 i (by rw[r,this]) b
  ·have g:¬v=xs[i]:=by simpa using u
   refine cT (m:=i+1) O O ⟨⟨i+1,rfl,O,rfl,λj d=>?_⟩,O⟩;by_cases e:j=i
   ·subst e;rw[r];intro e2;cases e2;exact g rfl
   ·exact b j O
 ·refine h0 λA=>?_;obtain⟨j,d⟩:=zP A;have:=(cX.1 d).1;exact b j O d
theorem Wey {s:Sl}{xs:List Nat}(h:cV s 1 (ints xs) U F)(hl:xs.length<=1000000)(v:Nat){R:aO}(hR:R (xs.contains v) U):Ww.c s (v:Int) U R:=by
 refine Ww.o ?_;unfold Ww.v;refine Ij h hl v (λi hi _=>?_) λa=>?_
 ·have:xs.contains v=true:=by simpa using zG hi
  rw[this]at hR;rw[zI O];exact hR
 ·have:xs.contains v=false:=by simpa using a
  rw[this]at hR;exact hR
theorem G5 {s:Sl}{xs:List Int}(h:cV s 1 (xs.map (Value.int .i64)) U F)(hl:xs.length<=1000000000)(v:Int){R:aO}(hR:R (xs.contains v) U):Ww.c s v U R:=by
 refine Ww.o ?_;unfold Ww.v;refine W3.o ?_;unfold W3.v;have x:s.len=xs.length:=by have:=h.1;simp at this;omega
 refine Qj (a:=bO) (λ(t:Int) u=>∃i:Nat,t=(i:Int)/\i<=xs.length/\u=U/\∀j,j<i->xs[j]?≠some v) (λt _=>xs.length-t.toNat) ⟨0,rfl,O,rfl,λj d=>O⟩ ?_;rintro t u ⟨i,rfl,hi,rfl,b⟩;refine cN (λy=>?_) λz=>?_
 ·have p:i<xs.length:=by omega
  have w:xs[i]?=some xs[i]:=cW p;refine h.ma w (cR (λr=>?_) λr=>?_)
  ·have e:v=xs[i]:=by simpa using r
   have:xs.contains v=true:=by rw[e];simp
   rw[this]at hR;show R (decide ((i:Int)≥0)) _;rw[zI O];exact hR
  ·have g:¬v=xs[i]:=by simpa using r
   refine cT (m:=i+1) O O ⟨⟨i+1,rfl,O,rfl,λj d=>?_⟩,O⟩;by_cases e:j=i
   ·subst e;rw[w];intro e2;cases e2;exact g rfl
   ·exact b j O
 ·have:xs.contains v=false:=by
   simp only[sU,decide_eq_false_iff_not];intro hm;obtain⟨j,d⟩:=zP hm;have:=(cX.1 d).1;exact b j O d
  rw[this]at hR;exact hR
def I7 (f:Fv)(p:Nat->Bool)(U:Hp):Prop:=∀(x:Nat) (σ':Hp) (R:aO),aF U σ'->(∀σ'',aF σ' σ''->R (p x) σ'')->VQ Tryz.prog f [.int .i64 (x:Int)] [.one .b] σ' R
theorem S4 {s:Sl}{xs:List Nat}(h:cV s 1 (ints xs) U F)(hl:xs.length<=1000000){f:Fv}{pr:Nat->Bool}(hf:I7 f pr U){R:aO}(hR:∀σ',aF U σ'->R (xs.any pr) σ') :
 WP.c s f U R:=by
 refine WP.o ?_;unfold WP.v;refine Xh.o ?_;unfold Xh.v;have w:=h.pY;refine Qj (a:=bO) (λ(t:Int) u=>∃i:Nat,t=(i:Int)/\i<=xs.length/\aF U u/\∀j x,j<i->xs[j]?=some x->pr x=false) (λt _=>xs.length-t.toNat) ⟨0,rfl,O,Ext.refl _ _,λj x p=>O⟩ ?_;rintro t u ⟨i,rfl,hi,e,d⟩;refine cN (λy=>?_) λz=>?_
 ·have g:i<xs.length:=by omega
  have r:xs[i]?=some xs[i]:=cW g;refine(aH.bP h e).sN r (hf _ _ _ e λA e2=>?_);cases hp:pr xs[i]
  ·refine cD rfl (cT (m:=i+1) O O ⟨⟨i+1,rfl,O,e.trans e2,λj x p b=>?_⟩,O⟩);by_cases e3:j=i
   ·subst e3;rw[r]at b;cases b;exact hp
   ·exact d j x O b
  ·refine cF rfl ?_;have:xs.any pr=true:=zy.2 ⟨_,kz g,hp⟩;show R (decide ((i:Int)≥0)) _;rw[zI O,←this];exact hR _ (e.trans e2)
 ·have:xs.any pr=false:=by
   rw[mn];intro x r;obtain⟨j,p⟩:=zP r;have:=(cX.1 p).1;simp[d j x O p]
  show R (decide ((-1:Int)≥0)) _;rw[show decide ((-1:Int)≥0)=false from rfl,←this];exact hR _ e
theorem RR {c:Nat}{s:Sl}{fr:List Nat}{σ0:Hp}(hb:bY σ0 c [.slice s.a s.len s.cap])(hs:cV s 1 (ints fr) σ0 F)(hl:fr.length<=1000):I7 ⟨305,#[],#[.pointer (some ⟨c,0,none⟩)]⟩ (λx=>!fr.contains x) σ0:=by
 intro x σ' R e hR;refine Gy (all := #[.int .i64 (x:Int),.pointer (some ⟨c,0,none⟩)]) (by kernel_rfl) aA ?_;refine YP.o ?_;unfold YP.v;refine(e.bV hb id).vH rfl ?_;exact Wey (aH.bP hs e) O x (hR _ (Ext.refl _ _))
theorem JP (h:il U p q st)(a m:Int)(v:Nat){s:Sl}{fr:List Nat}(hs:cV s 1 (ints fr) U F)(hl:fr.length<=1000){R:aN}(hR:∀σ',Ext (· = q) U σ'->il σ' p q (U2 st a m v fr)->R (oM st a m fr) σ') :
 X6.c (aW p) a m v s U R:=by
 refine X6.o ?_;unfold X6.v;have n2:=h.n2;have P:=h.lt.2;refine nw (cs:=[.slice s.a s.len s.cap]) λv1 Q i D=>?_;have g:=h.bP i;have d:¬(0<=a/\1<=m/\m<=st.length-a)->R 1 v1:=λK=>by
  have b:ZG st.length a m=false:=by simp only[ZG,←vI];exact zL K
  have e1:oM st a m fr=1:=by simp[oM,b]
  have e2:U2 st a m v fr=st:=by simp[U2,e1]
  have:=hR v1 i.to;rw[e1,e2]at this;exact this g
 refine Bq g (cD rfl (bX.intro ?_));refine cN (λG=>bX.intro (cF rfl (bX.intro (cF rfl (cF rfl (d O)))))) λG=>?_;refine bX.intro (cN (λH=>bX.intro (cF rfl (cF rfl (d O)))) λH=>?_);refine bL (g.rS λcap B=>bX.intro (cN (λw=>cF rfl (d (by simp only at *;omega))) λw=>?_));simp only at w;refine bL (g.rS λcap B=>ar aC aC (cN (λC=>d (by simp only at *;omega)) λC=>?_));simp only at C;obtain⟨x,rfl⟩:=zc (show 0<=a by omega);obtain⟨y,rfl⟩:=zc (show 0<=m by omega);have r:x+y<=st.length:=by omega
 have b:ZG st.length (x:Int) (y:Int)=true:=by simp only[ZG,zF,zV];omega
 refine bL (g.rS λcap B=>cT (m:=x+y) O O (jm O aC aC ?_));rw[zB aC];simp only[ze,add_lit,nQ,zH];have J:x+y-x=y:=by omega
 rw[J];have E:=g.part (s:=⟨some ⟨q,x,none⟩,y,cap-x⟩) (n:=y) rfl rfl r;refine S4 E aE (RR (s:=s) D (aH.bP hs i) hl) λN e2=>?_;have A:=g.bP e2;have j:((st.drop x).take y).any (λz=>!fr.contains z) = !vt st x y fr:=by
  rw[vt,List.all_eq_not_any_not,Bool.not_not]
 rw[j];cases hA:vt st x y fr
 ·have e1:oM st (x:Int) (y:Int) fr=5:=by simp[oM,b,hA]
  have u:U2 st (x:Int) (y:Int) v fr=st:=by simp[U2,e1]
  have:=hR N (i.to.trans e2.to);rw[e1,u]at this;exact cF rfl (this A)
 ·have e1:oM st (x:Int) (y:Int) fr=0:=by simp[oM,b,hA]
  have u:U2 st (x:Int) (y:Int) v fr=gF st x (x+y) v:=by simp[U2,e1]
  refine cD rfl (A.jS r v λv3 M L=>?_);have:=hR v3 (i.to.trans (e2.to.trans M));rw[e1,u]at this;exact this L
theorem A0 {h:Hp}{b:Nat}{xs:List Nat}{n c:Nat}(hb:bY h b (ints xs))(hn:n=xs.length):cV ⟨some ⟨b,0,none⟩,n,c⟩ 1 (ints xs) h (· = b):=
 hb.fW (o:=0) rfl (by rw[Km];simp[hn]) λj _=>by rw[zH]
theorem RJ (h:il U p q st)(a m:Int){R:aN}(hR:∀σ',Ext (· = q) U σ'->il σ' p q (U2 st a m 1 [2,3])->R (oM st a m [2,3]) σ'):XU.c (aW p) a m U R:=by
 refine XU.o ?_;unfold XU.v;refine nw (cs:=ints [2,3]) λv i e b=>?_;exact JP (h.bP e) a m 1 (A0 b rfl) aA λσ' g d=>hR σ' (e.to.trans g) d
theorem O3 (h:il U p q st)(a m:Int){R:aN}(hR:∀σ',Ext (· = q) U σ'->il σ' p q (U2 st a m 2 [1])->R (oM st a m [1]) σ'):XO.c (aW p) a m U R:=by
 refine XO.o ?_;unfold XO.v;refine nw (cs:=ints [1]) λv i e b=>?_;exact JP (h.bP e) a m 2 (A0 b rfl) aA λσ' g d=>hR σ' (e.to.trans g) d
def AF (st:List Nat)(x:Int):Int:=if 0<=x/\x<st.length then((st.getD x.toNat 0:Nat):Int)else -1
theorem S5 (h:il U p q st)(x:Int){R:aN}(hR:R (AF st x) U):Yb.c (aW p) x U R:=by
 refine Yb.o ?_;unfold Yb.v;have n2:=h.n2;unfold AF at hR;refine Bq h (bX.intro (cD rfl (bX.intro (cN (λj=>cF rfl ?_) λj=>bL (h.rS λcap i=>cN (λb=>?_) λb=>?_)))))
 ·rw[zB O]at hR;exact hR
 ·simp only at b;rw[zB O]at hR;exact hR
 ·simp only at b;rw[zC O]at hR;obtain⟨y,rfl⟩:=zc (show 0<=x by omega);refine bL (h.rS λcap i=>?_);have g:=h.part (s:=⟨some ⟨q,0,none⟩,st.length,cap⟩) (a:=0) (n:=st.length) rfl rfl O;rw[yO,lY]at g;have d:y<st.length:=by omega
  refine g.sN (cW d) ?_;simpa[zQ,cW d]using hR
theorem HE {s:Sl}{vs:List Value}(h:cV s 1 vs U F)(h1:∀v∈vs,dX v=true)(hl:s.len<=1000000){R:Sl->Hp->Prop}
 (hR:∀s' σ',s'.len=s.len->aF U σ'->bT s' 1 vs σ' (λb=>U.size<=b)->R s' σ'):W4.c s U R:=by
 refine W4.o ?_;unfold W4.v;exact Cy h aB rfl h1 aB hl hR
theorem S2 {n:Nat}(h1:16<=n)(h2:n<=1024)(h3:n%16=0){R:Option Addr->Int->Hp->Prop}(hR:∀σ' p q,aF U σ'->U.size<=p->U.size<=q->il σ' p q (List.replicate n 0)->R (some ⟨p,0,none⟩) 0 σ'):Vk.c (n:Int) U R:=by
 refine Vk.o ?_;unfold Vk.v;refine bX.intro (gg O (bX.intro (gg O (nz aB ?_))));rw[Kh O];have:(((n:Int)%16) != 0)=false:=by
  have:((n:Int)%16)=0:=by omega
  rw[this];rfl
 rw[this];refine cD rfl (mk O O λv i e a=>nw (cs:=[.slice (some ⟨U.size,0,none⟩) n n]) λj d e2 b=>?_);have g:(List.replicate n [Value.int .i64 0]).flatten=ints (List.replicate n 0):=by
  have:[Value.int .i64 0]=ints [0]:=rfl;rw[this];clear a hR
  induction n with
  | zero=>rfl
  | succ n ih=>simp[r9,ints]
 rw[g]at a;refine hR _ _ _ (e.trans e2) O (zD _) ⟨⟨n,by simp,by simpa using b⟩,⟨[],by simpa using e2.bV a id⟩,O,by simpa using h1,by simpa using h2,by simpa using h3⟩
end Go.Ar
namespace Go.Proofs
open Go.Vc
set_option maxRecDepth 100000
def Z4.h:Hn:=.q .o1 (.q (.q .o3 .aJ) (.q (.cU (.tail 10 (RI.ops 10) [.op])) .l))
def Z4.v (a:R2)(b:Hp)(c:Int->Int->Hp->Prop):Prop:=aV #[.I 0,.I 0] 268 b λd e=>YH.c a e λf g=>If (!f) (aR d 0 (.I 0) g λh=>aR d 1 (.I 0) h λi=>aQ d 0 i λj=>aQ d 1 i λk=>c j k i) (bE a 0 g λm=>bW a λn=>bN ((n.add 1).add 1) g λo=>aR d 0 (.I m) g λp=>aR d 1 (.I o) p λq=>aQ d 0 q λr=>aQ d 1 q λs=>c r s q)
theorem Z4.o {a b c}(d:Z4.v a b c):Z4.c a b c:=Wa Tryz.func198 (x:=Z4.h) (R0 d)
def YK.h:Hn:=.q .o1 (.q (.q .o3 .aK) (.q .o6 .l))
def YK.v (a:R2)(b:Hp)(c:aN):Prop:=YH.c a b λd e=>If (!d) (c 0 e) (bF a 4 e λg=>c ((g.len:Nat):Int) e)
theorem YK.o {a b c}(d:YK.v a b c):YK.c a b c:=Wa Tryz.func201 (x:=YK.h) (R0 d)
def YH.h:Hn:=.q .o1 (.q (.cU (.seq [.op,.op,.op,.cY true 6 (RI.ops 6),.op])) .l)
def YH.v (a:R2)(b:Hp)(c:aO):Prop:=bX (λd e=>c d e) λf=>If (!a.isNone) (bF a 4 b λh=>f (decide (((h.len:Nat):Int)>0)) b) (f false b)
theorem YH.o {a b c}(d:YH.v a b c):YH.c a b c:=Wa Tryz.func268 (x:=YH.h) (R0 d)
def Vl.h:Hn:=.q .o3 (.q .o7 (.q (.q (.cU (.seq [.op,.op,.op,.cY false 2 [.op,.op],.op,.cY false 5 (RI.ops 5)])) .aJ) (.q (.cU (.held true [] (.tk [0,1,2] (.all [(3,.take 4 (.all [(5,.take 6 (.take 7 (.done)))]))])))) .l)))
def Vl.v (a b c d:Int)(e:Hp)(f:Option Addr->Int->Hp->Prop):Prop:=aV #[.I b,.I c,.I d] 149 e λg h=>aQ g 0 h λi=>aQ g 1 h λj=>aQ g 2 h λk=>ZV.c i j k h λl m n=>bX (λo p=>bX (λq r=>If q (f none 1 r) (dS r λs=>aS s g 0 λt=>aS s g 1 λu=>aS s g 2 λv=>Mk l l 8 3 [.I 0] r λw x=>And (s x) <| aV #[.I a,.I t,.I u,.I v,.slice w.a w.len w.cap,.I 0] 339 x λy z=>And (s z) <| f (some y) 0 z)) λaa=>If o (aa true p) (aQ g 1 p λab=>bM (1024-ab) λac=>aa (decide (a>ac)) p)) λad=>If (m != 0) (ad true n) (ad (decide (a<0)) n)
theorem Vl.o {a b c d e f}(g:Vl.v a b c d e f):Vl.c a b c d e f:=Wa Tryz.func290 (x:=Vl.h) (R0 g)
def ZW.h:Hn:=.q .o1 (.q .o8 (.q (.k (.q .o3 (.c .aL (.q .o9 .aK)))) (.q .o4 .aM)))
def ZW.v (a:R2)(b:Int)(c:Hp)(d:aN):Prop:=Yn.c a b c λe f g=>If (f != 0) (d f g) (bF a 4 g λi=>Ix i.a i.len e 1 λj=>bN j g λk=>If (k==0) (d 9 g) (aV #[.I e] 3 g λl m=>ZC.c a 0 ⟨some l,1,1⟩ m λn=>d 0 n))
theorem ZW.o {a b c d}(e:ZW.v a b c d):ZW.c a b c d:=Wa Tryz.func311 (x:=ZW.h) (R0 e)
def ZQ.h:Hn:=.q .o2 (.q (.q .o3 .aJ) (.q .o6 (.q (.q .o2 .aJ) (.q .o4 (.q .o5 .l)))))
def ZQ.v (a:R2)(b:Hp)(c:Int->Int->Hp->Prop):Prop:=YH.c a b λd e=>If (!d) (c 0 5 e) (bF a 4 e λg=>W3.c g 0 e λh i=>If (h<0) (c 0 6 i) (aV #[.I h] 3 i λj k=>ZC.c a 1 ⟨some j,1,1⟩ k λl=>YN.c a h l λm n=>c m 0 n))
theorem ZQ.o {a b c}(d:ZQ.v a b c):ZQ.c a b c:=Wa Tryz.func316 (x:=ZQ.h) (R0 d)
def Yu.h:Hn:=.q .o2 (.q (.q .o3 .aJ) (.q .o5 (.q (.q (.cU (.gK false [] [(32,.one .b)] (.take 0 (.take 1 (.all [(2,.take 3 (.take 4 (.split 18 (.take 5 (.take 6 (.take 7 (.take 8 (.take 9 (.take 10 (.take 11 (.take 12 (.take 13 (.take 14 (.take 15 (.take 16 (.take 17 (.take 18 (.done))))))))))))))) (.take 5 (.take 6 (.take 7 (.take 8 (.take 11 (.take 12 (.take 13 (.take 14 (.all [(9,.take 10 (.all [(15,.take 16 (.take 17 (.take 18 (.done))))])),(15,.all [(9,.take 10 (.take 16 (.take 17 (.take 18 (.done)))))])]))))))))))))]))))) .aJ) (.q .o9 .l))))
def Yu.v (a:R2)(b:Int)(c:Hp)(d:Int->Int->Hp->Prop):Prop:=YH.c a c λe f=>If (!e) (d 0 5 f) (YN.c a 0 f λg h=>bM (b-g) λi=>Jn [.b] (λ(j:Bool) k=>If j (d 0 8 k) (bW a λl=>bN ((l.add 1).add 0) k λm=>Nz m<|bM (i.tdiv m) λn=>d n 0 k)) λo=>YN.c a 0 h λp q=>If (b<p) (o true q) (bW a λr=>bW a λs=>(aX r 4 q λt=>bN ((s.add 1).add 0) q λu=>bM (((t.len:Nat):Int)*u) λv=>o (decide (i≥v)) q) ∧ (bN ((s.add 1).add 0) q λw=>aX r 4 q λx=>bM (((x.len:Nat):Int)*w) λy=>o (decide (i≥y)) q)))
theorem Yu.o {a b c d}(e:Yu.v a b c d):Yu.c a b c d:=Wa Tryz.func322 (x:=Yu.h) (R0 e)
def YG.h:Hn:=.q .o2 (.q .o8 (.q (.q .o2 (.c (.q .o3 .l) .l)) (.q .gA .l)))
def YG.v (a:R2)(b:Int)(c:Hp)(d:Bool->Int->Hp->Prop):Prop:=Yn.c a b c λe f g=>If (f != 0) (d false f g) (bF a 4 g λi=>Ix i.a i.len e 1 λj=>bN j g λk=>d (k==1) 0 g)
theorem YG.o {a b c d}(e:YG.v a b c d):YG.c a b c d:=Wa Tryz.func324 (x:=YG.h) (R0 e)
def Yn.h:Hn:=.q .o2 (.q .o8 (.q (.q (.cU (.seq [.op,.op,.op,.cY true 5 (RI.ops 5)])) .aJ) (.q .o4 .l)))
def Yn.v (a:R2)(b:Int)(c:Hp)(d:Int->Int->Hp->Prop):Prop:=Yu.c a b c λe f g=>bX (λh i=>If h (d 0 8 i) (d e f i)) λj=>If (f==0) (YN.c a e g λk l=>j (k != b) l) (j false g)
theorem Yn.o {a b c d}(e:Yn.v a b c d):Yn.c a b c d:=Wa Tryz.func335 (x:=Yn.h) (R0 e)
def ZC.h:Hn:=.q .o3 (.k (.loop [(10,.I)] (.q .o1 (.q (.c .l .l) (.q (.k (.q .o3 (.q (.cU (.tail 16 (RI.ops 16) [.op])) .o8))) .o2)))))
def ZC.v (a:R2)(b:Int)(c:Sl)(d:Hp)(e:aP):Prop:=XS [bO] (λf=>f 0 d) λg (h:Int) i=>If (h<((c.len:Nat):Int)) (Ix c.a c.len h 1 λj=>bN j i λk=>bE a 5 i λm=>bF a 4 i λo=>Ix o.a o.len k 1 λp=>bN p i λq=>bM (b-q) λr=>bM (m+r) λs=>bW a λt=>aR t 5 (.I s) i λu=>bF a 4 u λw=>Ix w.a w.len k 1 λx=>dF x (.I b) u λy=>bM (h+1) λz=>g z y) (e i)
theorem ZC.o {a b c d e}(f:ZC.v a b c d e):ZC.c a b c d e:=Wa Tryz.func336 (x:=ZC.h) (R0 f)
def YN.h:Hn:=.q .o1 (.q (.oq 14) .l)
def YN.v (a:R2)(b:Int)(c:Hp)(d:aN):Prop:=bE a 0 c λf=>bM (f*256) λg=>bW a λh=>bN ((h.add 1).add 0) c λi=>bM (b*i) λj=>bM (g+j) λk=>d k c
theorem YN.o {a b c d}(e:YN.v a b c d):YN.c a b c d:=Wa Tryz.func339 (x:=YN.h) (R0 e)
end Go.Proofs
namespace Go.Ar
open Go Go.Vc Go.Proofs
variable {U:Hp}{F:Rg}{p q:Nat}{c:cA}{s:cH}
def nv (tk:List Bool):List Nat:=tk.map λb=>if b then 1 else 0
theorem xQ (tk:List Bool):(nv tk).length=tk.length:=by simp[nv]
theorem Gm {tk:List Bool}{i:Nat}{b:Bool}(h:tk[i]?=some b):(nv tk)[i]?=some (if b then 1 else 0):=by simp[nv,h]
theorem Rh (tk:List Bool)(i:Nat)(b:Bool):nv (tk.set i b)=(nv tk).set i (if b then 1 else 0):=by simp[nv,wc]
structure ic (U:Hp) (p q:Nat) (c:cA) (s:cH):Prop where
 hd:∃cap,c.n<=cap/\bY U p [.int .i64 (s.st:Int),.int .i64 (c.size:Int),.int .i64 (c.aG:Int),.int .i64 (c.batch:Int),.slice (some ⟨q,0,none⟩) c.n cap,.int .i64 (s.many:Int)]
 row:∃rest,bY U q (ints (nv s.tk)++rest)
 ne:p≠q
 len:s.tk.length=c.n
 ok:c.ok
 fit:s.st+c.aG<=1024
theorem ic.bS {σ':Hp}(h:ic U p q c s)(e:Ext F U σ')(hp:¬F p)(hq:¬F q):ic σ' p q c s:=
 ⟨by obtain⟨c,a,b⟩:=h.hd;exact⟨c,a,e.bV b hp⟩,by obtain⟨r,a⟩:=h.row;exact⟨r,e.bV a hq⟩,h.ne,h.len,h.ok,h.fit⟩
theorem ic.bP {σ':Hp}(h:ic U p q c s)(e:aF U σ'):ic σ' p q c s:=h.bS e id id
theorem ic.lt (h:ic U p q c s):p<U.size/\q<U.size:=by
 obtain⟨_,_,b⟩:=h.hd;obtain⟨_,a⟩:=h.row;exact⟨b.lt,a.lt⟩
theorem ic.rS (h:ic U p q c s){K:Sl->Prop}(hK:∀cap,c.n<=cap->K ⟨some ⟨q,0,none⟩,c.n,cap⟩):jH (Addr.add ⟨p,0,none⟩ 4) U K:=by
 obtain⟨d,b,a⟩:=h.hd;exact a.rS rfl (hK d b)
theorem ic.rI (h:ic U p q c s){i:Nat}{x:Int}(hx:∀a b:Value,([.int .i64 (s.st:Int),.int .i64 (c.size:Int),.int .i64 (c.aG:Int),.int .i64 (c.batch:Int),a,.int .i64 (s.many:Int)]:List Value)[0+i]?=some (.int .i64 x)){K:Int->Prop}(hK:K x):gH .i64 (Addr.add ⟨p,0,none⟩ i) U K:=by
 obtain⟨j,g,d⟩:=h.hd;exact d.rI (hx _ .nilFunc) hK
theorem ic.fD (h:ic U p q c s){i j:Nat}{x:Int}(hx:∀a b:Value,([.int .i64 (s.st:Int),.int .i64 (c.size:Int),.int .i64 (c.aG:Int),.int .i64 (c.batch:Int),a,.int .i64 (s.many:Int)]:List Value)[0+i+j]?=some (.int .i64 x)){K:Int->Prop}(hK:K x):gH .i64 (Addr.add (Addr.add ⟨p,0,none⟩ i) j) U K:=by
 obtain⟨m,g,d⟩:=h.hd;exact d.fD (hx _ .nilFunc) hK
theorem ic.k9 (h:ic U p q c s)(cap:Nat):cV ⟨some ⟨q,0,none⟩,c.n,cap⟩ 1 (ints (nv s.tk)) U (· = q):=by
 obtain⟨r,b⟩:=h.row;refine b.fW (o:=0) rfl (by rw[Km,xQ,h.len];simp) λj a=>?_;rw[zH,zd a]
theorem yR (h:ic U p q c s){R:aO}(hR:R true U):YH.c (aW p) U R:=by
 refine YH.o ?_;unfold YH.v;refine bX.intro (cF rfl (bL (h.rS λcap _=>?_)));have:=h.ok.sd;rw[zI aC];exact hR
theorem WeP (h:ic U p q c s){R:aN}(hR:R (c.n:Int) U):YK.c (aW p) U R:=by
 refine YK.o ?_;unfold YK.v;exact yR h (cD rfl (bL (h.rS λcap _=>hR)))
theorem yq (h:ic U p q c s)(i:Nat)(hi:i<=1000){R:aN}(hR:R ((at_ c s i:Nat):Int) U):YN.c (aW p) (i:Int) U R:=by
 refine YN.o ?_;unfold YN.v;have a:=h.ok;unfold cA.ok at a;have:=h.fit;have b:i*c.size<=1000*512:=my hi O;refine bL (h.rI (λ_ _=>rfl) (cT (m:=s.st*256) aA O (bL (h.fD (λ_ _=>rfl) ?_))));exact cT (m:=i*c.size) aA O (cT (m:=at_ c s i) (by simp[at_]) (by unfold at_;omega) hR)
theorem Dm (h:ic U p q c s)(x:Int)(hx2:x<=9223372036854775807){R:Int->Int->Hp->Prop}(h1:∀i,idx c s x=some i->R (i:Int) 0 U)(h0:idx c s x=none->R 0 8 U):Yu.c (aW p) x U R:=by
 refine Yu.o ?_;unfold Yu.v;have C:=h.ok;unfold cA.ok at C;have B:=h.ok.kL;have u:=h.fit;have a:=h.len;have F:c.n*c.size<=128*512:=my B O;refine yR h (cD rfl (yq h 0 O ?_));have w:at_ c s 0=s.st*256:=by simp[at_]
 rw[w];refine vY ?_;refine Jn.intro (yq h 0 O ?_);rw[w];refine cN (λA=>cF rfl (h0 ?_)) λD=>?_
 ·unfold idx;rw[zC O]
 ·rw[Ux O O];obtain⟨y,E⟩:=zc (show 0<=x by omega);have key:If (decide (x-((s.st*256:Nat):Int)≥((c.n*c.size:Nat):Int))) (R 0 8 U)
   (bW (some ⟨p,0,none⟩) λg=>gH .i64 ((g.add 1).add 0) U λb=>Nz b<|Ar .i64 ((x-((s.st*256:Nat):Int)).tdiv b) λj=>R j 0 U):=by
   refine cN (λz=>h0 ?_) λr=>bL (h.fD (λ_ _=>rfl) (nz O ?_))
   ·unfold idx;rw[a,zC O]
   ·have:idx c s x=some ((x-((s.st*256:Nat):Int)).toNat/c.size):=by unfold idx;rw[a,zB O]
    refine cT (m:=(x-((s.st*256:Nat):Int)).toNat/c.size) ?_ ?_ (h1 _ this)
    ·rw[Yj O];have:x-((s.st*256:Nat):Int)=(((x-((s.st*256:Nat):Int)).toNat:Nat):Int):=by omega
     rw[this];simp
    ·have:=Nat.div_le_self (x-((s.st*256:Nat):Int)).toNat c.size;omega
  refine bL (bL ⟨h.rS λcap d=>h.fD (λ_ _=>rfl) (cT (m:=c.n*c.size) aA O key),h.fD (λ_ _=>rfl) (h.rS λcap d=>cT (m:=c.n*c.size) aA O key)⟩)
theorem EL (h:ic U p q c s)(x:Int)(hx2:x<=9223372036854775807){R:Int->Int->Hp->Prop}(h1:∀i,obj c s x=some i->i<c.n->R (i:Int) 0 U)(h0:obj c s x=none->R 0 8 U):Yn.c (aW p) x U R:=by
 refine Yn.o ?_;unfold Yn.v;have d:=h.ok;unfold cA.ok at d;have g:=h.ok.kL;refine Dm h x hx2 (λi hi=>bX.intro (cF rfl ?_)) λhi=>bX.intro (cD rfl (cD rfl (h0 (by unfold obj;rw[hi]))));have a:=((UE O).1 hi).2.2;rw[h.len]at a;refine yq h i O (cR (λb=>h0 ?_) λb=>h1 i ?_ a)
 ·have:¬x=((at_ c s i:Nat):Int):=λe=>by rw[e]at b;simp at b
  unfold obj;rw[hi];simp[this]
 ·have:x=((at_ c s i:Nat):Int):=by
   have:((at_ c s i:Nat):Int)=x:=by simpa using b
   exact this.symm
  unfold obj;rw[hi];simp[this]
def cH.is (s:cH)(i:Nat):Bool:=s.tk.getD i false
theorem cH.lD {s:cH}{i:Nat}(hi:i<s.tk.length):s.tk[i]?=some (s.is i):=by
 simp[cH.is,zQ,cW hi]
theorem WeH (h:ic U p q c s)(x:Int)(hx2:x<=9223372036854775807){R:Bool->Int->Hp->Prop}(h1:∀i,obj c s x=some i->R (s.is i) 0 U)(h0:obj c s x=none->R false 8 U):YG.c (aW p) x U R:=by
 refine YG.o ?_;unfold YG.v;refine EL h x hx2 (λi hi a=>cD rfl (bL (h.rS λcap b=>?_))) λhi=>cF rfl (h0 hi);rw[←h.len]at a;refine(h.k9 cap).sN (Gm (cH.lD a)) ?_;have:=h1 i hi;cases hb:s.is i<;>rw[hb]at this<;>simpa using this
theorem AB {s:cH}{i:Nat}(hi:i<s.tk.length)(v:Bool):((s.put i v).many:Int)=s.many+((if v then 1 else 0)-(if s.is i then 1 else 0)):=by
 have key:∀(l:List Bool) (i:Nat) (b:Bool),l[i]?=some b->(((l.set i v).count true:Nat):Int)=(l.count true:Nat)+((if v then 1 else 0)-(if b then 1 else 0)):=by
  intro l
  induction l with
  | nil=>intro i b h;simp at h
  | cons x l ih=>
   intro i b h;cases i with
   | zero=>
    simp at h;subst h;cases v<;>cases x<;>simp[List.count_cons]<;>omega
   | succ i=>
    have:=ih i b (by simpa using h);simp only[sE,List.count_cons]
    push_cast
    omega
 exact key s.tk i _ (cH.lD hi)
theorem Df (s:cH):s.many<=s.tk.length:=List.count_le_length
theorem FJ (h:ic U p q c s){i:Nat}(hi:i<c.n)(v:Bool){sl:Sl}{G:Rg}(hs:cV sl 1 (ints [i]) U G){R:aP}(hR:∀σ',Ext (λb=>b=p\/b=q) U σ'->ic σ' p q c (s.put i v)->R σ') :
 ZC.c (aW p) (if v then 1 else 0) sl U R:=by
 refine ZC.o ?_;unfold ZC.v;have K:sl.len=1:=hs.pY;have Q:=h.ok.kL;have E:=h.len;have V:=Df s;have B:i<s.tk.length:=by omega
 have g:=AB B v;refine Qj (a:=bO) (λ(t:Int) C=>t=0/\C=U\/t=1/\Ext (λb=>b=p\/b=q) U C/\ic C p q c (s.put i v)) (λt _=>1-t.toNat) (.inl ⟨rfl,rfl⟩) ?_;rintro t C (⟨rfl,rfl⟩|⟨rfl,e,M⟩)
 ·refine l6 O ?_;refine hs.sN (i:=0) (x:=i) rfl (bL (h.rI (λ_ _=>rfl) (bL (h.rS λcap H=>?_))));refine(h.k9 cap).sN (Gm (cH.lD B)) ?_;have L:(0:Int)<=(if v then 1 else 0)/\(if v then(1:Int)else 0)<=1:=by cases v<;>simp
  have J:(0:Int)<=((if s.is i then 1 else 0:Nat):Int)/\((if s.is i then 1 else 0:Nat):Int)<=1:=by cases s.is i<;>simp
  have j:((if s.is i then 1 else 0:Nat):Int)=(if s.is i then 1 else 0):=by cases s.is i<;>rfl
  refine ar O O (ar O O (bL ?_));obtain⟨N,D,hd⟩:=h.hd;obtain⟨r,A⟩:=h.row;refine hd.s1 aA λP u w=>?_;have d:=WF u A (Ne.symm h.ne);refine bL (w.rS rfl (ix O aC ?_));rw[add_lit];refine d.s0 (by simp[Km,xQ];omega) λS y z=>?_;refine cT (m:=1) O O ⟨.inr ⟨rfl,?_,?_⟩,by decide⟩
  ·exact(Ext.eV (F:=λb=>b=p\/b=q) u (.inl rfl)).trans (Ext.eV y (.inr rfl))
  ·refine⟨⟨N,D,?_⟩,⟨r,?_⟩,h.ne,by simp[cH.put,h.len],h.ok,h.fit⟩
   ·have:=WF y w h.ne;rw[g,←j];exact this
   ·have e:(ints (nv s.tk)++r).set (0+(i:Int).toNat*1) (.int .i64 (if v then 1 else 0))=ints (nv (s.put i v).tk)++r:=by
     rw[List.set_append_left _ _ (by simp[Km,xQ];omega)]
     congr 1
     simp only[cH.put,Rh,ints,wc];have:(0+(i:Int).toNat*1)=i:=by omega
     rw[this]
     congr 1
     cases v<;>rfl
    rw[e]at z;exact z
 ·exact gg O (hR _ e M)
theorem Wm5 (h:ic U p q c s){x:Int}{i:Nat}(hx2:x<=9223372036854775807)(ho:obj c s x=some i)(ht:s.is i=true){R:aN}(hR:∀σ',Ext (λb=>b=p\/b=q) U σ'->ic σ' p q c (s.put i false)->R 0 σ') :
 ZW.c (aW p) x U R:=by
 refine ZW.o ?_;unfold ZW.v;refine EL h x hx2 (λj g a=>cD rfl (bL (h.rS λcap m=>?_))) λr=>by rw[ho]at r;cases r
 rw[ho]at g;cases g;have d:i<s.tk.length:=by rw[h.len];exact a
 refine(h.k9 cap).sN (Gm (cH.lD d)) ?_;rw[ht];refine cD rfl (nw (cs:=ints [i]) λv A e w=>?_);have z:=h.lt;exact FJ (h.bP e) a false (A0 w rfl) λσ' y u=>hR σ' (e.to.trans y) u
theorem TZ (h:ic U p q c s){i:Nat}(hlow:low s=some i){R:Int->Int->Hp->Prop}(hR:∀σ',Ext (λb=>b=p\/b=q) U σ'->ic σ' p q c (s.put i true)->R ((at_ c s i:Nat):Int) 0 σ') :
 ZQ.c (aW p) U R:=by
 refine ZQ.o ?_;unfold ZQ.v;have D:=h.ok.kL;have d:=nV.1 hlow;obtain⟨hi,A,z⟩:=d;have g:s.tk[i]=false:=by simpa using A
 refine yR h (cD rfl (bL (h.rS λcap y=>?_)));refine Ij (h.k9 cap) (by simp[xQ,h.len];omega) 0 (λj m a=>?_) λa=>?_
 ·have w:j<s.tk.length:=by
   have:=(cX.1 m).1
   rwa [xQ]at this
  have u:j=i:=by
   rcases qn j i with h1|h1|h1
   ·have:=z j h1;rw[Gm (cW w)]at m;have:s.tk[j]=true:=by simpa using this
    simp[this]at m
   ·exact h1
   ·exact absurd (by rw[Gm (cW hi),g];rfl) (a i h1)
  subst u;rw[h.len]at hi;refine gg O (nw (cs:=ints [j]) λv C e r=>?_);refine FJ (h.bP e) hi true (A0 r rfl) λσ' B x=>yq x j O (hR σ' (e.to.trans B) x)
 ·exfalso;apply a;exact zG (i:=i) (by rw[Gm (cW hi),g];rfl)
theorem Wny (h:ic U p q c s){R:Int->Int->Hp->Prop}(hR:∀σ',aF U σ'->R (s.st:Int) (c.aG:Int) σ'):Z4.c (aW p) U R:=by
 refine Z4.o ?_;unfold Z4.v;refine nw (cs:=[.int .i64 0,.int .i64 0]) λv r e m=>?_;have j:=h.bP e;refine yR j (cD rfl (bL (j.rI (λ_ _=>rfl) (bL (j.fD (λ_ _=>rfl) ?_)))));refine m.s1 aA λu g d=>d.s1 aA λv3 b a=>?_;refine a.rI rfl (a.rI rfl (hR _ ?_));exact Ext.fresh (Ext.fresh e (Ext.eV (F:=(· = U.size)) g rfl) λi hi=>O) (Ext.eV (F:=(· = U.size)) b rfl) λi hi=>by omega
theorem N6 (n:Nat):(List.replicate n [Value.int .i64 0]).flatten=ints (List.replicate n 0):=by
 induction n with
 | zero=>rfl
 | succ n ih=>simp only[r9,vq,ih];rfl
theorem PU (hc:c.ok){st:Nat}(hf:st+c.aG<=1024){R:Option Addr->Int->Hp->Prop}(hR:∀σ' p q,aF U σ'->U.size<=p->U.size<=q->ic σ' p q c ⟨st,List.replicate c.n false⟩->R (some ⟨p,0,none⟩) 0 σ') :
 Vl.c (st:Int) c.size c.aG c.batch U R:=by
 refine Vl.o ?_;unfold Vl.v;have E:=hc;unfold cA.ok at E;have M:=hc.kL;refine nw (cs:=[.int .i64 c.size,.int .i64 c.aG,.int .i64 c.batch]) λv L e y=>?_;refine y.rI rfl (y.rI rfl (y.rI rfl (Iy _ _ _ (λg G e1 e2 F B A=>?_) λs=>?_)))
 case refine_2=>rw[(F4 c).2 hc]at s;cases s
 have:g=c:=by
  obtain⟨a,b,d⟩:=c;obtain⟨K,J,N⟩:=g;simp only at e1 e2 F
  congr 1<;>omega
 subst this;have i:=A.bV y id;refine bX.intro (cD rfl (bX.intro (gg O (i.rI rfl (cT (m:=1024-g.aG) O O (gg O ?_))))));refine⟨λx=>bY x U.size [.int .i64 g.size,.int .i64 g.aG,.int .i64 g.batch],i,⟨_,λx w=>by rw[add_lit,w.cell];rfl,⟨_,λx w=>by rw[add_lit,w.cell];rfl,⟨_,λx w=>by rw[add_lit,w.cell];rfl,?_⟩⟩⟩⟩;refine mk O O λP C r u=>⟨r.bV i id,nw (cs:=[.int .i64 (st:Int),.int .i64 g.size,.int .i64 g.aG,.int .i64 g.batch,.slice (some ⟨B.size,0,none⟩) g.n g.n,.int .i64 0]) λv3 H j z=>⟨(r.trans j).bV i id,?_⟩⟩;rw[N6]at u;have D:=A.1;refine hR _ _ _ (((e.trans A).trans r).trans j) O (show U.size<=B.size by omega) ⟨⟨g.n,zD _,?_⟩,⟨[],?_⟩,O,by simp,hc,hf⟩
 ·have:cH.many ⟨st,List.replicate g.n false⟩=0:=by simp[cH.many,yQ]
  rw[this];exact z
 ·have:nv (List.replicate g.n false)=List.replicate g.n 0:=by simp[nv]
  rw[this,kC];exact j.bV u id
end Go.Ar
namespace Go.Proofs
open Go.Vc
set_option maxRecDepth 100000
def Yf.h:Hn:=.q .o1 (.q (.q .o3 .aK) (.q .o1 (.q .gA .aL)))
def Yf.v (a:R2)(b:Hp)(c:Sl->Hp->Prop):Prop:=W8.c a b λd e=>If (!d) (c ⟨none,0,0⟩ e) (aV #[.slice none 0 0] 201 e λf g=>bF a 3 g λi=>Wi.c i ⟨248,#[],#[.pointer (some f)]⟩ g λj k=>bW a λl=>aR l 3 (.slice j.a j.len j.cap) k λm=>jH f m λn=>c n m)
theorem Yf.o {a b c}(d:Yf.v a b c):Yf.c a b c:=Wa Tryz.func185 (x:=Yf.h) (R0 d)
def W8.h:Hn:=.q .o1 (.q (.cU (.seq [.op,.op,.op,.cY true 6 (RI.ops 6),.op])) .l)
def W8.v (a:R2)(b:Hp)(c:aO):Prop:=bX (λd e=>c d e) λf=>If (!a.isNone) (bW a λg=>bN ((g.add 0).add 0) b λh=>f (decide (h>0)) b) (f false b)
theorem W8.o {a b c}(d:W8.v a b c):W8.c a b c:=Wa Tryz.func197 (x:=W8.h) (R0 d)
def QM.h:Hn:=.q .o3 (.q (.q .o7 (.q .o2 .aJ)) (.q .o5 .l))
def QM.v (a b c:Int)(d:Hp)(e:Option Addr->Int->Hp->Prop):Prop:=aV #[.I a,.I b,.I c] 149 d λf g=>aQ f 0 g λh=>aQ f 1 g λi=>aQ f 2 g λj=>ZV.c h i j g λk l m=>If (l != 0) (e none 1 m) (aQ f 0 m λn=>aQ f 1 m λo=>aQ f 2 m λp=>aV #[.I n,.I o,.I p,.slice none 0 0] 274 m λq r=>e (some q) 0 r)
theorem QM.o {a b c d e}(f:QM.v a b c d e):QM.c a b c d e:=Wa Tryz.func212 (x:=QM.h) (R0 f)
def Xt.h:Hn:=.q .o2 (.q (.k (.q .o4 (.c .aL (.q .o3 .aJ)))) (.q .o1 (.q (.k (.loop [(6,.one .s)] (.q (.q .o4 (.c .l .l)) (.k (.q .o7 (.q (.q .o2 (.c .l .l)) .o5)))))) (.q .o3 .l))))
def Xt.v (a:R2)(b:Int)(c:Hp)(d:Sl->Int->Hp->Prop):Prop:=W8.c a c λe f=>If (!e) (d ⟨none,0,0⟩ 5 f) (If (b<0) (d ⟨none,0,0⟩ 1 f) (XS [.s] (λg=>g ⟨none,0,0⟩ f) λh (i:Sl) j=>If (((i.len:Nat):Int)<b) (Zf.c a j λk l m=>If (!l) (d i 0 m) (aV #[.I k] 3 m λn o=>App i 1 8 3 [.I 0] ⟨some n,1,1⟩ o λp q=>h p q)) (d i 0 j)))
theorem Xt.o {a b c d}(e:Xt.v a b c d):Xt.c a b c d:=Wa Tryz.func233 (x:=Xt.h) (R0 e)
def Zc.h:Hn:=.q .o1 (.q (.q .o3 .aK) (.q (.o 11) (.q (.q .o2 .aJ) (.q (.q .o6 (.k (.loop [(31,.I)] (.q .o1 (.q (.c .l .l) (.q (.k (.q .o4 (.q (.oq 17) .aK))) .o2)))))) (.q (.o 11) (.q (.o 15) .aM))))))
def Zc.v (a:R2)(b:Int)(c:Hp)(d:aN):Prop:=W8.c a c λe f=>If (!e) (d 5 f) (bW a λg=>bN ((g.add 0).add 0) f λh=>bN ((g.add 0).add 1) f λi=>bN ((g.add 0).add 2) f λj=>Vl.c b h i j f λk l m=>If (l != 0) (d l m) (bF a 3 m λo=>XS [bO] (λp=>p 0 m) λq (r:Int) s=>If (r<((o.len:Nat):Int)) (Ix o.a o.len r 3 λt=>aQ t 0 s λu=>aQ t 1 s λv=>aY t 2 s λw=>aV #[.I 0,.I 0,.pointer none] 279 s λx y=>aR x 0 (.I u) y λz=>aR x 1 (.I v) z λaa=>aR x 2 (.pointer w) aa λab=>bN ((x.add 0).add 1) ab λac=>bN ((x.add 0).add 1) ab λad=>bM ((if b>ac then b else ac)-(if b<ad then b else ad)) λae=>bW a λaf=>bN ((af.add 0).add 1) ab λag=>If (ae<ag) (d 9 ab) (bM (r+1) λah=>q ah ab)) (bF a 3 s λaj=>Wc.c aj b ⟨292,#[],#[]⟩ s λak al am=>bF a 3 am λao=>aV #[.I 0,.I b,.pointer k] 279 am λap aq=>Wl.c ao ak ⟨some ap,1,1⟩ aq λar au=>bW a λav=>aR av 3 (.slice ar.a ar.len ar.cap) au λaw=>d 0 aw)))
theorem Zc.o {a b c d}(e:Zc.v a b c d):Zc.c a b c d:=Wa Tryz.func235 (x:=Zc.h) (R0 e)
def Yh.h:Hn:=.q .o2 (.kE [] (.q .o4 (.c (.cU (.held true [6] (.tk [0,1,2] (.all [(3,.all [(4,.all [(5,.all [(6,.done)])])])])))) .l)) (.q .o5 .l))
def Yh.v (a b:Int)(c:R2)(d:Addr)(e:Hp)(f:aO):Prop:=aV #[.I a,.I b,.pointer c] 279 e λg h=>Jn [] (λi=>bN ((g.add 0).add 0) i λj=>f (j==0) i) λk=>bN ((g.add 0).add 0) h λl=>If (l==0) (dS h λm=>gC m .s d λ(n:Sl)=>aU m g 2 λo=>Z4.c o h λp q r=>And (m r) <| aV #[.I p,.I q] 268 r λs t=>And (m t) <| App n 2 16 268 [.I 0,.I 0] ⟨some s,1,1⟩ t λu v=>And (m v) <| dF d (.slice u.a u.len u.cap) v λw=>k w) (k h)
theorem Yh.o {a b c d e f}(g:Yh.v a b c d e f):Yh.c a b c d e f:=Wa Tryz.func248 (x:=Yh.h) (R0 g)
def Y6.h:Hn:=.q .o2 (.q (.q .o3 .aJ) (.q .o1 (.q (.q .o3 (.k (.loop [(6,.one .b),(19,.I)] (.q .o1 (.q (.c .l .l) (.q (.k (.q .o5 (.q .o8 (.q (.q .o2 (.c (.q .o3 .l) .l)) (.cU (.seq [.op,.op,.cY false 2 [.op,.op],.op,.cY false 5 (RI.ops 5),.op])))))) .o2)))))) (.q (.q .o1 .aJ) (.q (.q .o3 (.k (.loop [(49,.I)] (.q .o1 (.q (.c .l .l) (.q (.k (.q .o3 (.q .o4 (.q .o6 .gA)))) .o2)))))) (.q .o4 .l))))))
def Y6.v (a:R2)(b:Sl)(c:Hp)(d:Sl->Int->Hp->Prop):Prop:=W8.c a c λe f=>If (!e) (d ⟨none,0,0⟩ 5 f) (XS [.b,bO] (λg=>g false 0 f) λh (i:Bool) (j:Int) k=>If (j<((b.len:Nat):Int)) (Ix b.a b.len j 1 λl=>bN l k λm=>Xq.c a m k λn o p=>If (o != 0) (d ⟨none,0,0⟩ o p) (bX (λq r=>bX (λs t=>bM (j+1) λu=>h s u t) λv=>If q (v true r) (fF b 1 0 j (b.cap:Nat) λw=>Ww.c w m r λx y=>v x y)) λz=>If i (z true p) (z (!n) p))) (If i (d ⟨none,0,0⟩ 9 k) (XS [bO] (λaa=>aa 0 k) λab (ac:Int) ad=>If (ac<((b.len:Nat):Int)) (Ix b.a b.len ac 1 λae=>bN ae ad λaf=>X0.c a af ad λag ah=>bG ag 2 ah λaj=>ZW.c aj af ah λak al=>bW ag λam=>bN ((am.add 0).add 0) al λan=>bM (an-1) λao=>bW ag λap=>dF ((ap.add 0).add 0) (.I ao) al λaq=>bM (ac+1) λar=>ab ar aq) (Yf.c a ad λau av=>d au 0 av))))
theorem Y6.o {a b c d}(e:Y6.v a b c d):Y6.c a b c d:=Wa Tryz.func267 (x:=Y6.h) (R0 e)
def Zf.h:Hn:=.q .o2 (.q .o1 (.q (.q .o6 (.k (.loop [(4,.one .p),(14,.I)] (.q .o1 (.q (.c .l .l) (.q (.k (.q .o2 (.q .o7 (.q (.cU (.gK true [] [(48,.one .b)] (.tk [0,1,2,3,4,5,6,7,8] (.all [(9,.take 10 (.take 11 (.split 34 (.take 12 (.take 13 (.take 14 (.split 37 (.take 15 (.take 16 (.take 17 (.take 18 (.take 19 (.take 20 (.take 21 (.take 22 (.take 23 (.take 24 (.take 25 (.done)))))))))))) (.take 15 (.take 16 (.take 17 (.take 19 (.take 20 (.take 21 (.all [(18,.all [(22,.all [(23,.take 24 (.take 25 (.done)))])]),(22,.all [(18,.all [(23,.take 24 (.take 25 (.done)))])])]))))))))))) (.take 12 (.take 13 (.take 14 (.take 15 (.take 16 (.take 17 (.take 18 (.take 19 (.take 20 (.take 21 (.take 22 (.take 23 (.take 24 (.take 25 (.done))))))))))))))))))])))) (.c .o2 .l))))) .o2)))))) (.q (.q .o2 .aJ) (.q .gA (.q .gA (.q .o3 .l))))))
def Zf.v (a:R2)(b:Hp)(c:Int->Bool->Hp->Prop):Prop:=bF a 3 b λe=>XS [.p,bO] (λf=>f none 0 b) λg (h:R2) (i:Int) j=>If (i<((e.len:Nat):Int)) (bF a 3 j λl=>Ix l.a l.len i 3 λm=>Jn [.b] (λ(n:Bool) o=>If n (bM (i+1) λp=>g (some m) p o) (bM (i+1) λq=>g h q o)) λr=>dS j λs=>bW (some m) λt=>gC s bO ((t.add 0).add 0) λ(u:Int)=>bW (some m) λv=>aU s v 2 λw=>YK.c w j λx y=>And (s y) <| If (u<x) (If h.isNone (r true y) (bW (some m) λz=>bW h λaa=>(bN ((z.add 0).add 0) y λab=>bN ((z.add 0).add 1) y λac=>And (s y) <| bN ((aa.add 0).add 0) y λad=>bN ((aa.add 0).add 1) y λae=>And (s y) <| Xm.c ab ac ad ae y λaf ag=>And (s ag) <| r af ag) ∧ (bN ((aa.add 0).add 0) y λah=>bN ((aa.add 0).add 1) y λai=>And (s y) <| bN ((z.add 0).add 0) y λaj=>bN ((z.add 0).add 1) y λak=>And (s y) <| Xm.c aj ak ah ai y λal am=>And (s am) <| r al am))) (r false y)) (If h.isNone (c 0 false j) (bG h 2 j λao=>ZQ.c ao j λap aq ar=>bW h λau=>bN ((au.add 0).add 0) ar λav=>bM (av+1) λaw=>bW h λax=>dF ((ax.add 0).add 0) (.I aw) ar λay=>c ap true ay))
theorem Zf.o {a b c}(d:Zf.v a b c):Zf.c a b c:=Wa Tryz.func285 (x:=Zf.h) (R0 d)
def Y1.h:Hn:=.q .o2 (.q .o6 .l)
def Y1.v (a b:Int)(c:R2)(d:Int)(e:Hp)(f:aN):Prop:=aV #[.I a,.I b,.pointer c] 279 e λg h=>bN ((g.add 0).add 1) h λi=>bM (i-d) λj=>f j h
theorem Y1.o {a b c d e f}(g:Y1.v a b c d e f):Y1.c a b c d e f:=Wa Tryz.func292 (x:=Y1.h) (R0 g)
def YD.h:Hn:=.q .o2 (.q (.q .o3 .aJ) (.q .o4 (.q (.q .o2 .aJ) (.q (.o 11) (.q (.oq 16) .l)))))
def YD.v (a:R2)(b:Int)(c:Hp)(d:Int->Int->Hp->Prop):Prop:=W8.c a c λe f=>If (!e) (d 0 5 f) (X0.c a b f λg h=>If g.isNone (d 0 8 h) (bG g 2 h λj=>Yu.c j b h λk l m=>bW g λn=>bN ((n.add 0).add 1) m λo=>bM (o*256) λp=>bW a λq=>bN ((q.add 0).add 0) m λr=>bM (k*r) λs=>bM (p+s) λt=>d t 0 m))
theorem YD.o {a b c d}(e:YD.v a b c d):YD.c a b c d:=Wa Tryz.func296 (x:=YD.h) (R0 e)
def Xq.h:Hn:=.q .o2 (.q (.q .o3 .aJ) (.q .o4 (.q (.q .o2 .aJ) (.q .gA .l))))
def Xq.v (a:R2)(b:Int)(c:Hp)(d:Bool->Int->Hp->Prop):Prop:=W8.c a c λe f=>If (!e) (d false 5 f) (X0.c a b f λg h=>If g.isNone (d false 8 h) (bG g 2 h λj=>YG.c j b h λk l m=>d k l m))
theorem Xq.o {a b c d}(e:Xq.v a b c d):Xq.c a b c d:=Wa Tryz.func299 (x:=Xq.h) (R0 e)
def X0.h:Hn:=.q .o1 (.q (.q .o6 (.k (.loop [(13,.I)] (.q .o1 (.q (.c .l .l) (.q (.k (.q .o2 (.q (.o 15) (.q .o2 (.c (.q .o7 .l) .l))))) .o2)))))) .aM)
def X0.v (a:R2)(b:Int)(c:Hp)(d:Option Addr->Hp->Prop):Prop:=bF a 3 c λf=>XS [bO] (λg=>g 0 c) λh (i:Int) j=>If (i<((f.len:Nat):Int)) (bF a 3 j λl=>Ix l.a l.len i 3 λm=>aY m 2 j λn=>Yu.c n b j λo p q=>If (p==0) (bF a 3 q λs=>Ix s.a s.len i 3 λt=>d (some t) q) (bM (i+1) λu=>h u q)) (d none j)
theorem X0.o {a b c d}(e:X0.v a b c d):X0.c a b c d:=Wa Tryz.func310 (x:=X0.h) (R0 e)
def Xm.h:Hn:=.q .o3 (.q (.cU (.seq [.op,.op,.op,.op,.op,.op,.cY false 12 [.op,.op,.op,.op,.op,.op,.cY true 5 (RI.ops 5)],.op])) .l)
def Xm.v (a b c d:Int)(e:Hp)(f:aO):Prop:=aV #[.I a,.I b] 276 e λg h=>aV #[.I c,.I d] 276 h λi j=>aQ g 0 j λk=>aQ i 0 j λl=>bX (λm n=>f m n) λo=>If (k>l) (o true j) (aQ g 0 j λp=>aQ i 0 j λq=>bX (λr s=>o r s) λt=>If (p==q) (aQ g 1 j λu=>aQ i 1 j λv=>t (decide (u<v)) j) (t false j))
theorem Xm.o {a b c d e f}(g:Xm.v a b c d e f):Xm.c a b c d e f:=Wa Tryz.func315 (x:=Xm.h) (R0 g)
end Go.Proofs
namespace Go.Ar
open Go Go.Vc Go.Proofs
variable {U:Hp}{F:Rg}{p:Nat}{c:cA}{ps:List (Nat×Nat)}{ss:List cH}
def eC (ps:List (Nat×Nat)):List Nat:=ps.flatMap λx=>[x.1,x.2]
theorem HQ {ps:List (Nat×Nat)}{b:Nat}:b∈eC ps↔∃x∈ps,b=x.1\/b=x.2:=by simp[eC]
def dU:List (Nat×Nat)->List cH->List Value
 | x::ps,s::ss=>.int .i64 (s.many:Int) :: .int .i64 (s.st:Int) :: .pointer (some ⟨x.1,0,none⟩)::dU ps ss
 | _,_=>[]
theorem KE:∀{ps:List (Nat×Nat)} {ss:List cH},ps.length=ss.length->(dU ps ss).length=3*ss.length
 | [],[],_=>rfl
 | x::ps,s::ss,h=>by simp only[dU,zS]at *;rw[KE O];omega
theorem Ks:∀{ps:List (Nat×Nat)} {ss:List cH} {i:Nat} {x:Nat×Nat} {s:cH},ps[i]?=some x->ss[i]?=some s →
 (dU ps ss)[3*i]?=some (.int .i64 (s.many:Int))/\(dU ps ss)[3*i+1]?=some (.int .i64 (s.st:Int))/\(dU ps ss)[3*i+2]?=some (.pointer (some ⟨x.1,0,none⟩))
 | [],_,_,_,_,h,_=>by simp at h
 | _::_,[],_,_,_,_,h=>by simp at h
 | y::ps,t::ss,0,x,s,h1,h2=>by simp at h1 h2;subst h1;subst h2;simp[dU]
 | y::ps,t::ss,i+1,x,s,h1,h2=>by
  have:=Ks (ps:=ps) (ss:=ss) (i:=i) (by simpa using h1) (by simpa using h2);simp only[dU];rw[show 3*(i+1)=3*i+3 by omega];simpa using this
theorem VJ:∀{ps ps':List (Nat×Nat)} {ss ss':List cH},ps.length=ss.length->dU (ps++ps') (ss++ss')=dU ps ss++dU ps' ss'
 | [],_,[],_,_=>rfl
 | x::ps,_,s::ss,_,h=>by simp only[lG,dU,VJ (ps:=ps) (ss:=ss) (by simpa using h)]
theorem JS:∀{ps:List (Nat×Nat)} {ss:List cH},∀v∈dU ps ss,dX v=true
 | [],_,v,h=>by simp[dU]at h
 | _::_,[],v,h=>by simp[dU]at h
 | x::ps,s::ss,v,h=>by
  simp only[dU,zW]at h;rcases h with rfl|rfl|rfl|h
  ·rfl
  ·rfl
  ·rfl
  ·exact JS v h
structure fH (U:Hp) (F:Rg) (p:Nat) (c:cA) (ps:List (Nat×Nat)) (ss:List cH):Prop where
 hd:∃sl:Sl,bY U p [.int .i64 (c.size:Int),.int .i64 (c.aG:Int),.int .i64 (c.batch:Int),.slice sl.a sl.len sl.cap]/\bT sl 3 (dU ps ss) U (λb=>F b/\b≠p/\b∉eC ps)
 sp:∀(i:Nat) (x:Nat×Nat) s,ps[i]?=some x->ss[i]?=some s->ic U x.1 x.2 c s
 fp:F p
 fb:∀b∈eC ps,F b
 nd:(p::eC ps).Nodup
 len:ps.length=ss.length
 ok:c.ok
 rO:ss.Pairwise (λa b=>a.st<b.st)
theorem fH.loc:dO λU F=>fH U F p c ps ss:=λU C F G h H m=>by
 obtain⟨sl,a,y⟩:=h.hd;have bS:∀b,b<U.size->F b->C[b]?=U[b]? := λb a d=>(m b a d).2;have z:∀{b:Nat} {cs:List Value},bY U b cs->F b->bY C b cs:=by
  rintro b cs ⟨e,B⟩ d;exact⟨e,(bS b (bY.lt ⟨e,B⟩) d).trans B⟩
 have lt:∀b∈eC ps,b<U.size:=by
  intro b a;obtain⟨x,j,w⟩:=HQ.1 a;obtain⟨i,hi⟩:=zP j;have u:=(cX.1 hi).1;have:=(h.sp i x _ hi (cW (by rw[←h.len];exact u))).lt;rcases w with rfl|rfl
  ·exact this.1
  ·exact this.2
 refine⟨⟨sl,z a h.fp,bT.loc _ _ _ _ _ _ _ y H λb a d=>⟨⟨(m b a d.1).1,d.2⟩,(m b a d.1).2⟩⟩,λi x s j A=>?_,(m p a.lt h.fp).1,λb a=>(m b (lt b a) (h.fb b a)).1,h.nd,h.len,h.ok,h.rO⟩;have g:=h.sp i x s j A;have D:x.1∈eC ps:=HQ.2 ⟨x,zG j,.inl rfl⟩;have E:x.2∈eC ps:=HQ.2 ⟨x,zG j,.inr rfl⟩;obtain⟨J,K,hd⟩:=g.hd;obtain⟨r,y⟩:=g.row;exact⟨⟨J,K,z hd (h.fb _ D)⟩,⟨r,z y (h.fb _ E)⟩,g.ne,g.len,g.ok,g.fit⟩
theorem fH.bP {σ':Hp}(h:fH U F p c ps ss)(e:aF U σ'):fH σ' F p c ps ss:=dO.bP fH.loc h e
theorem fH.qm (h:fH U F p c ps ss):ss.length<=1024:=by
 have key:∀i (hi:i<ss.length),i<=ss[i].st:=by
  intro i
  induction i with
  | zero=>intro _;omega
  | succ i ih=>
   intro hi;have d:=ih O;have b:=mu.1 h.rO i (i+1) O hi O;omega
 rcases D8 ss.length with h0|h0
 ·omega
 ·have a:ss.length-1<ss.length:=by omega
  have d:=key _ a;have g:ss.length-1<ps.length:=by rw[h.len];exact a
  have b:=(h.sp _ _ _ (cW g) (cW a)).fit;have:=h.ok.2.2.2.1;omega
structure tg (U:Hp) (F:Rg) (p:Nat) (ps:List (Nat×Nat)) (ss:List cH) (sl:Sl) (rb:Nat) (cs:List Value):Prop where
 a:sl.a=some ⟨rb,0,none⟩
 bV:bY U rb cs
 fr:F rb/\rb≠p/\rb∉eC ps
 get:∀{j:Nat} {v:Value},(dU ps ss)[j]?=some v->cs[j]?=some v
 Bh:3*ss.length<=cs.length
theorem fH.sl (h:fH U F p c ps ss):∃sl:Sl,bY U p [.int .i64 (c.size:Int),.int .i64 (c.aG:Int),.int .i64 (c.batch:Int),.slice sl.a sl.len sl.cap]/\sl.len=ss.length/\(ss≠[]->∃rb cs,tg U F p ps ss sl rb cs):=by
 obtain⟨sl,s,i⟩:=h.hd;have r:=i.1;rw[KE h.len]at r;refine⟨sl,s,O,λg=>?_⟩;have m:0<ss.length:=pM.2 g;rcases i.2 with⟨h0,_⟩|⟨b,cs,hq,ha,hbb,hle,hcl,ht⟩
 ·omega
 ·refine⟨b,cs,ha,hbb,hq,λ{j v} d=>?_,?_⟩
  ·rw[←ht,zm]at d;split at d
   ·exact d
   ·cases d
  ·have:=congrArg List.length ht;rw[zY,KE h.len]at this;omega
theorem fH.jO (h:fH U F p c ps ss){i:Nat}(hi:i<ss.length):∃x s,ps[i]?=some x/\ss[i]?=some s/\ic U x.1 x.2 c s:=by
 have a:i<ps.length:=by rw[h.len];exact hi
 have b:ps[i]?=some ps[i]:=cW a;exact⟨_,_,b,cW hi,h.sp i _ _ b (cW hi)⟩
theorem Uz (h:fH U F p c ps ss){R:aO}(hR:R true U):W8.c (aW p) U R:=by
 refine W8.o ?_;unfold W8.v;obtain⟨sl,b,d,g⟩:=h.sl;have a:=h.ok;unfold cA.ok at a;refine bX.intro (cF rfl (bL (b.fD rfl ?_)));rw[zI O];exact hR
def iL (x:Int):Prop:=x<=9223372036854775807
theorem Bg (h:fH U F p c ps ss)(x:Int)(hx:iL x){R:Option Addr->Hp->Prop}(h0:kT c ss x=none->R none U)
 (h1:∀(i:Nat) sl rb cs,kT c ss x=some i->i<ss.length->bY U p [.int .i64 (c.size:Int),.int .i64 (c.aG:Int),.int .i64 (c.batch:Int),.slice sl.a sl.len sl.cap]->tg U F p ps ss sl rb cs->R (some ⟨rb,3*i,none⟩) U):X0.c (aW p) x U R:=by
 refine X0.o ?_;unfold X0.v;obtain⟨sl,A,Q,M⟩:=h.sl;have G:=h.qm;refine bL (A.rS rfl ?_);refine Qj (a:=bO) (λ(t:Int) D=>∃i:Nat,t=(i:Int)/\i<=ss.length/\D=U/\∀(j:Nat) s,j<i->ss[j]?=some s->idx c s x=none) (λt _=>ss.length-t.toNat) ⟨0,rfl,O,rfl,λj s y=>O⟩ ?_;rintro t D ⟨i,rfl,hi,rfl,g⟩;refine cN (λB=>?_) λC=>?_
 ·simp only at B;have b:i<ss.length:=by omega
  obtain⟨N,s,K,z,P⟩:=h.jO b;obtain⟨rb,cs,E⟩:=M (by rintro rfl;simp at b);have J:=Ks K z;refine bL (A.rS rfl ?_);rw[E.a];refine ix O O ?_;rw[add_lit];refine E.bV.rP (x:=some ⟨N.1,0,none⟩) ?_ ?_
  ·have:=E.get J.2.2;rw[show 0+(i:Int).toNat*3+2=3*i+2 by omega];exact this
  have u:∀r,idx c s x=some r->kT c ss x=some i:=by
   intro r d;refine nV.2 ⟨b,?_,λj y=>?_⟩
   ·have:ss[i]=s:=by rw[cW b]at z;simpa using z
    rw[this,d];rfl
   ·rw[g j _ y (cW O)];simp
  refine Dm P x hx (λr d=>cF rfl (bL (A.rS rfl ?_))) λL=>cD rfl ?_
  ·rw[E.a];refine ix O O ?_;rw[add_lit,show 0+(i:Int).toNat*3=3*i by omega];exact h1 i sl rb cs (u r d) b A E
  ·refine cT (m:=i+1) O O ⟨⟨i+1,rfl,O,rfl,λj H y w=>?_⟩,O⟩;by_cases e:j=i
   ·subst e;rw[z]at w;cases w;exact L
   ·exact g j H O w
 ·refine h0 ?_;refine vG.2 λs z=>?_;obtain⟨j,y⟩:=zP z;have:=(cX.1 y).1;rw[g j s (by simp only at C;omega) y];rfl
theorem Ui {x:Int}{k:Nat}{s:cH}(hk:kT c ss x=some k)(hs:ss[k]?=some s):eD c ss x=(obj c s x).map s.is:=by
 unfold eD;rw[hk];simp only[hs];rfl
theorem CG {x:Int}(hk:kT c ss x=none):eD c ss x=none:=by unfold eD;rw[hk]
theorem JT (h:fH U F p c ps ss)(x:Int)(hx:iL x){R:Bool->Int->Hp->Prop}(h1:∀b,eD c ss x=some b->R b 0 U)(h0:eD c ss x=none->R false 8 U):Xq.c (aW p) x U R:=by
 refine Xq.o ?_;unfold Xq.v;refine Uz h (cD rfl (Bg h x hx (λd=>cF rfl (h0 (CG d))) λi sl A C a hi B E=>cD rfl (bL ?_)));obtain⟨u,s,z,m,w⟩:=h.jO hi;have y:=Ks z m;refine E.bV.rP (x:=some ⟨u.1,0,none⟩) (E.get y.2.2) ?_;have g:=Ui a m;exact WeH w x hx (λj r=>h1 _ (by rw[g,r];rfl)) λd=>h0 (by rw[g,d];rfl)
theorem Gq {x:Int}{k:Nat}{s:cH}(hk:kT c ss x=some k)(hs:ss[k]?=some s):rE c ss x=(idx c s x).map (at_ c s):=by
 unfold rE;rw[hk];simp only[hs]
theorem J7 {x:Int}(hk:kT c ss x=none):rE c ss x=none:=by unfold rE;rw[hk]
theorem ι {x:Int}{k:Nat}{s:cH}(hk:kT c ss x=some k)(hs:ss[k]?=some s):∃i,idx c s x=some i:=by
 obtain⟨hi,a,_⟩:=nV.1 hk;have:ss[k]=s:=by rw[cW hi]at hs;simpa using hs
 rw[this]at a;exact oQ.1 a
theorem SR (h:fH U F p c ps ss)(x:Int)(hx:iL x){R:Int->Int->Hp->Prop}(h1:∀a,rE c ss x=some a->R (a:Int) 0 U)(h0:rE c ss x=none->R 0 8 U):YD.c (aW p) x U R:=by
 refine YD.o ?_;unfold YD.v;refine Uz h (cD rfl (Bg h x hx (λg=>cF rfl (h0 (J7 g))) λi sl K J d hi B E=>cD rfl (bL ?_)));obtain⟨H,s,D,y,u⟩:=h.jO hi;have z:=Ks D y;obtain⟨r,j⟩:=ι d y;have C:=Gq d y;have G:=h.ok;unfold cA.ok at G;have w:=((UE O).1 j).2.2;rw[u.len]at w;have g:=h.ok.kL;have A:=u.fit;have L:r*c.size<=128*512:=my O O;refine E.bV.rP (x:=some ⟨H.1,0,none⟩) (E.get z.2.2) ?_;refine Dm u x hx (λM b=>?_) λg=>by rw[j]at g;cases g
 rw[j]at b;cases b;refine bL (E.bV.fD (x:=s.st) (E.get z.2.1) (cT (m:=s.st*256) aA O (bL (B.fD rfl ?_))));refine cT (m:=r*c.size) aA O (cT (m:=at_ c s r) (by simp[at_]) (by unfold at_;omega) (h1 _ (by rw[C,j];rfl)))
theorem xJ {h:Hp}{rb i:Nat}{cs:List Value}{x y:Int}{z:Option Addr}{e:Nat}(hb:bY h rb cs)(h0:cs[3*i]?=some (.int .i64 x))(h1:cs[3*i+1]?=some (.int .i64 y))(h2:cs[3*i+2]?=some (.pointer z))
 {K:Int->Int->Option Addr->Prop} (hK:K x y z):gH .i64 (Addr.add ⟨rb,3*i,none⟩ 0) h λu=>gH .i64 (Addr.add ⟨rb,3*i,none⟩ 1) h λv=>fX (Addr.add ⟨rb,3*i,none⟩ 2) h λw=>K u v w:=
 hb.rI h0 (hb.rI h1 (hb.rP h2 hK))
theorem II {h:Hp}{x y:Int}{z:Option Addr}{e:Nat}{K:Addr->Hp->Prop}(hK:∀h',aF h h'->bY h' h.size [.int .i64 x,.int .i64 y,.pointer z]->K ⟨h.size,0,none⟩ h') :
 Nw (.cells #[.int .i64 0,.int .i64 0,.pointer none] e (0,0)) h λn v=>dF (n.add 0) (.int .i64 x) v λv1=>dF (n.add 1) (.int .i64 y) v1 λv2=>dF (n.add 2) (.pointer z) v2 λv3=>K n v3:=by
 refine nw (cs:=[.int .i64 0,.int .i64 0,.pointer none]) λv j e d=>d.s1 aA λv1 o1 g=>g.s1 aA λv2 o2 b=>b.s1 aA λv3 o3 a=>?_;refine hK v3 ?_ a;exact Ext.fresh (Ext.fresh (Ext.fresh e o1.ext λi hi=>O) o2.ext λi hi=>O) o3.ext λi hi=>by omega
def iP (c:cA)(l:List Nat):List Value:=l.flatMap λ(s:Nat)=>[.int .i64 (s:Int),.int .i64 (c.aG:Int)]
theorem MO (c:cA)(l:List Nat):(iP c l).length=2*l.length:=by
 induction l with
 | nil=>rfl
 | cons x l ih=>simp only[iP,pt,zK,zS,lg]at *;omega
theorem Wm4 (hc:c.ok){R:Option Addr->Int->Hp->Prop}(hR:∀σ' p,aF U σ'->U.size<=p->p<σ'.size->fH σ' (· = p) p c [] []->R (some ⟨p,0,none⟩) 0 σ'):QM.c c.size c.aG c.batch U R:=by
 refine QM.o ?_;unfold QM.v;refine nw (cs:=[.int .i64 c.size,.int .i64 c.aG,.int .i64 c.batch]) λv u e d=>?_;refine d.rI rfl (d.rI rfl (d.rI rfl (Iy _ _ _ (λw r e1 e2 y x j=>?_) λb=>?_)))
 case refine_2=>rw[(F4 c).2 hc]at b;cases b
 have a:=j.bV d id;refine cD rfl (a.rI rfl (a.rI rfl (a.rI rfl (nw (cs:=[.int .i64 c.size,.int .i64 c.aG,.int .i64 c.batch,.slice none 0 0]) λs m i g=>?_))));exact hR _ _ ((e.trans j).trans i) (by have:=j.1;omega) O ⟨⟨⟨none,0,0⟩,g,bT.nil _ _ _ _⟩,by simp,rfl,by simp[eC],by simp[eC],rfl,hc,by simp⟩
theorem PN (a b a' b':Nat){R:aO}(hR:∀σ',aF U σ'->R (decide (a>a')||(a==a'&&decide (b<b'))) σ'):Xm.c (a:Int) (b:Int) (a':Int) (b':Int) U R:=by
 refine Xm.o ?_;unfold Xm.v;refine nw (cs:=[.int .i64 a,.int .i64 b]) λv r e p=>nw (cs:=[.int .i64 a',.int .i64 b']) λs m e1 g=>?_;have i:=e1.bV p id;have d:=hR _ (e.trans e1);refine i.rI rfl (g.rI rfl (bX.intro (cN (λh=>?_) λh=>?_)))
 ·have:decide (a>a')=true:=by simpa using h
  rw[this,Bool.true_or]at d;exact d
 ·have:decide (a>a')=false:=by simpa using h
  rw[this,xS]at d;refine i.rI rfl (g.rI rfl (bX.intro ?_));rw[l8];refine cR (λj=>?_) λj=>?_
  ·rw[j,rU]at d;refine i.rI rfl (g.rI rfl ?_);have:decide ((b:Int)<(b':Int))=decide (b<b'):=by rw[decide_eq_decide];omega
   rw[this];exact d
  ·rw[j,uV]at d;exact d
theorem Kt:∀{i k:Nat},ZF ss i=some k->k<i/\∃s,ss[k]?=some s/\s.many<s.tk.length
 | 0,_,h=>by simp[ZF]at h
 | i+1,k,h=>by
  have up:ZF ss i=some k->k<i+1/\∃s,ss[k]?=some s/\s.many<s.tk.length:=λh=>by
   have:=Kt h;exact⟨O,this.2⟩
  simp only[ZF]at h;split at h
  ·rename_i x hx;split at h
   ·rename_i hlt;have a:i<i+1/\∃s,ss[i]?=some s/\s.many<s.tk.length:=⟨O,x,hx,hlt⟩;split at h
    ·rename_i j hj;split at h
     ·split at h
      ·cases h;exact a
      ·cases h;exact up hj
     ·cases h;exact a
    ·cases h;exact a
   ·exact up h
  ·exact up h
theorem yx {s:cH}(h:s.many<s.tk.length):∃i,low s=some i/\i<s.tk.length/\s.is i=false:=by
 unfold low;cases hf:s.tk.findIdx? (· == false)with
 | some i=>
  obtain⟨hi,a,_⟩:=nV.1 hf;refine⟨i,rfl,hi,?_⟩;have:s.tk[i]=false:=by simpa using a
  simp[cH.is,zQ,cW hi,this]
 | none=>
  exfalso;have b:=vG.1 hf;have:s.many=s.tk.length:=by
   unfold cH.many;rw[List.count_eq_length];intro x hx;have:=b x hx;cases x
   ·simp at this
   ·rfl
  omega
theorem F5:∀{ps:List (Nat×Nat)} {ss:List cH} {k:Nat} {s s':cH},ps.length=ss.length->ss[k]?=some s->s'.st=s.st->dU ps (ss.set k s')=(dU ps ss).set (3*k) (.int .i64 (s'.many:Int))
 | [],[],_,_,_,_,h,_=>by simp at h
 | [],_::_,_,_,_,h,_,_=>by simp at h
 | _::_,[],_,_,_,_,h,_=>by simp at h
 | x::ps,t::ss,0,s,s',_,h,e=>by simp at h;subst h;simp[dU,e]
 | x::ps,t::ss,k+1,s,s',hl,h,e=>by
  simp only[sE,dU];rw[F5 (ps:=ps) (ss:=ss) (s:=s) (by simpa using hl) (by simpa using h) e];rw[show 3*(k+1)=3*k+1+1+1 by omega];simp
theorem NA {h:Hp}{b:Nat}{cs cs':List Value}(h1:bY h b cs)(h2:bY h b cs'):cs=cs':=by
 obtain⟨e,d⟩:=h1;obtain⟨g,a⟩:=h2;rw[d]at a;simp only[Option.some.injEq,Obj.cells.injEq]at a;simpa using congrArg Array.toList a.1
theorem Q1 {x:Nat×Nat}{i:Nat}(hx:ps[i]?=some x):x.1∈eC ps/\x.2∈eC ps:=
 ⟨HQ.2 ⟨x,zG hx,.inl rfl⟩,HQ.2 ⟨x,zG hx,.inr rfl⟩⟩
theorem J0:∀{ps:List (Nat×Nat)},(eC ps).Nodup->∀{i j:Nat} {x y:Nat×Nat},ps[i]?=some x->ps[j]?=some y->i≠j->∀b,(b=x.1\/b=x.2)->¬(b=y.1\/b=y.2)
 | [],_,_,_,_,_,h,_,_=>by simp at h
 | z::ps,hn,i,j,x,y,h1,h2,hij=>by
  have hn':z.1∉eC ps/\z.2∉eC ps/\z.1≠z.2/\(eC ps).Nodup:=by
   simp only[eC,pt,lG,tu,zr,zW,not_or]at hn;exact⟨hn.1.2,hn.2.1,hn.1.1,hn.2.2⟩
  intro b hb hb'
  match i,j,hij with
  | 0,0,h=>exact h rfl
  | 0,j+1,_=>
   simp at h1;subst h1;have:=Q1 (ps:=ps) (i:=j) (by simpa using h2);rcases hb with rfl|rfl<;>rcases hb' with e|e<;>rw[e]at hn'<;>simp[this]at hn'
  | i+1,0,_=>
   simp at h2;subst h2;have:=Q1 (ps:=ps) (i:=i) (by simpa using h1);rcases hb with rfl|rfl<;>rcases hb' with e|e<;>rw[←e]at hn'<;>simp[this]at hn'
  | i+1,j+1,h=>exact J0 hn'.2.2.2 (by simpa using h1) (by simpa using h2) O b hb hb'
theorem fH.pB (h:fH U F p c ps ss){k:Nat}{x:Nat×Nat}{s s':cH}(hx:ps[k]?=some x)(hs:ss[k]?=some s)(hst:s'.st=s.st){σ1:Hp}(e1:Ext (λb=>b=x.1\/b=x.2) U σ1)(hS:ic σ1 x.1 x.2 c s')
 {sl:Sl} {rb:Nat} {cs:List Value} (hb:bY U p [.int .i64 (c.size:Int),.int .i64 (c.aG:Int),.int .i64 (c.batch:Int),.slice sl.a sl.len sl.cap]) (E:tg U F p ps ss sl rb cs)
 {K:aP} (hK:∀σ2,Ext F U σ2->fH σ2 F p c ps (ss.set k s')->K σ2):dF ⟨rb,3*k,none⟩ (.int .i64 (s'.many:Int)) σ1 K:=by
 obtain⟨nk,H,N⟩:=h.hd;have G:nk=sl:=by
  have:=NA H hb;simp at this;obtain⟨a,n,c⟩:=sl;obtain⟨V,S,Q⟩:=nk;simp at this ⊢;exact this
 subst G;have m:=Q1 hx;have g:=h.nd;simp only[zr]at g;have z:=(cX.1 hs).1;have J:=(bT.loc nk 3 (dU ps ss)).bS N e1 λb hb P=>λd=>P.2.2 (by rcases d with rfl|rfl;exact m.1;exact m.2);have D:=e1.bV hb λd=>g.1 (by rcases d with h|h<;>rw[h];exact m.1;exact m.2)
 refine J.st (j:=3*k) (by rw[KE h.len];omega) (λb w=>by rw[E.a]at w;cases w;rfl) λσ2 e2 C=>?_;have B:Ext F U σ2:=(e1.sub λi hi=>h.fb i (by rcases hi with rfl|rfl;exact m.1;exact m.2)).trans (e2.sub λi hi=>hi.1);refine hK σ2 B ⟨⟨nk,e2.bV D λd=>d.2.1 rfl,?_⟩,λi y t u A=>?_,h.fp,h.fb,h.nd,by simpa using h.len,h.ok,?_⟩
 ·rw[F5 h.len hs hst];exact C
 ·have r:=Q1 u;have k2:ic σ1 y.1 y.2 c t:=by
   by_cases hik:i=k
   ·subst hik;rw[hx]at u;cases u;rw[zO z]at A;cases A;exact hS
   ·rw[zh (Ne.symm hik)]at A;have M:=J0 g.2 u hx hik;exact(h.sp i y t u A).bS e1 (M _ (.inl rfl)) (M _ (.inr rfl))
  exact k2.bS e2 (λd=>d.2.2 r.1) (λd=>d.2.2 r.2)
 ·have:(ss.set k s').map (·.st)=ss.map (·.st):=by
   apply zt;intro i;simp only[zZ];by_cases hik:i=k
   ·subst hik;rw[zO z,hs];simp[hst]
   ·rw[zh (Ne.symm hik)]
  have L:=h.rO;rw[←se (f:=cH.st) (R:=(· < ·))]at L ⊢;rw[this];exact L
theorem WmG (h:fH U F p c ps ss){R:Int->Bool->Hp->Prop}(h1:∀x ss',jc c ss=some (x,ss')->∀σ',Ext F U σ'->fH σ' F p c ps ss'->R (x:Int) true σ')(h0:jc c ss=none->∀σ',aF U σ'->R 0 false σ') :
 Zf.c (aW p) U R:=by
 refine Zf.o ?_;unfold Zf.v;obtain⟨sl,Z,hl,hr⟩:=h.sl;have ag:=h.qm;have hn:=h.ok.kL;obtain⟨d,cs,E⟩:∃d cs,ss≠[]->tg U F p ps ss sl d cs:=by
  by_cases hne:ss=[]
  ·exact⟨0,[],λh=>absurd hne h⟩
  ·obtain⟨d,cs,E⟩:=hr hne;exact⟨d,cs,λ_=>E⟩
 refine bL (Z.rS rfl ?_);refine Uo (a:=.p) (bb:=bO) (λ(iN:Option Addr) (t:Int) D=>∃i:Nat,t=(i:Int)/\i<=ss.length/\aF U D/\iN=(ZF ss i).map λk=>⟨d,3*k,none⟩) (λ_ t _=>ss.length-t.toNat) ⟨0,rfl,O,Ext.refl _ _,rfl⟩ ?_;rintro iN t D ⟨i,rfl,hi,e,rfl⟩;refine cN (λY=>?_) λae=>?_
 ·simp only at Y;have M:i<ss.length:=by omega
  have E:=E (by rintro rfl;simp at M);obtain⟨P,s,K,H,z⟩:=h.jO M;have u:=Ks K H;have ad:=z.len;refine bL ((e.bV Z id).rS rfl ?_);rw[E.a];refine ix O O ?_;rw[add_lit,show 0+(i:Int).toNat*3=3*i by omega];have Eb:=e.bV E.bV id;have C:ZF ss (i+1)=if s.many<s.tk.length then(match ZF ss i with
   | some j=>match ss[j]? with
    | some y=>if xI s y then some i else some j
    | none=>some i
   | none=>some i)else ZF ss i:=by
   simp only[ZF,H];rfl
  have J:∀(r:Bool) (v:Hp),aF U v->(if r then some i else ZF ss i)=ZF ss (i+1) →
   If r (Ar .i64 ((i:Int)+1) λb=>(∃j:Nat,b=(j:Int)/\j<=ss.length/\aF U v/\some (⟨d,3*i,none⟩:Addr)=(ZF ss j).map λk=>⟨d,3*k,none⟩)/\ss.length-b.toNat<ss.length-(i:Int).toNat)
    (Ar .i64 ((i:Int)+1) λb=>(∃j:Nat,b=(j:Int)/\j<=ss.length/\aF U v/\((ZF ss i).map λk=>(⟨d,3*k,none⟩:Addr))=(ZF ss j).map λk=>⟨d,3*k,none⟩)/\ss.length-b.toNat<ss.length-(i:Int).toNat):=by
   intro r v ev hr';cases r
   ·refine cD rfl (cT (m:=i+1) O O ⟨⟨i+1,rfl,O,ev,?_⟩,O⟩);rw[←hr'];rfl
   ·refine cF rfl (cT (m:=i+1) O O ⟨⟨i+1,rfl,O,ev,?_⟩,O⟩);rw[←hr'];rfl
  refine Jn.intro ⟨λG=>bY G d cs,Eb,bL ⟨_,λG z=>by rw[add_lit,add_lit,z.cell];exact E.get u.1,bL ⟨_,λG z=>by rw[add_lit,z.cell];exact E.get u.2.2,?_⟩⟩⟩;refine WeP (z.bP e) ⟨Eb,?_⟩;refine cN (λhlt2=>?_) λhge2=>?_
  ·have W:s.many<s.tk.length:=by omega
   rw[zC W]at C;cases hbf:ZF ss i with
   | none=>
    rw[hbf]at C J;exact cF rfl (J true D e C.symm)
   | some j=>
    rw[hbf]at C J;obtain⟨hji,y,hy,hym⟩:=Kt hbf;simp only[hy]at C;have aa:j<ps.length:=by rw[h.len];omega
    have A:=Ks (cW aa) hy;have fin:Xm.c (s.many:Int) (s.st:Int) (y.many:Int) (y.st:Int) D λV v3=>bY v3 d cs ∧
     If V (Ar .i64 ((i:Int)+1) λb=>(∃j:Nat,b=(j:Int)/\j<=ss.length/\aF U v3/\some (⟨d,3*i,none⟩:Addr)=(ZF ss j).map λk=>⟨d,3*k,none⟩)/\ss.length-b.toNat<ss.length-(i:Int).toNat)
      (Ar .i64 ((i:Int)+1) λb=>(∃j':Nat,b=(j':Int)/\j'<=ss.length/\aF U v3/\((some j).map λk=>(⟨d,3*k,none⟩:Addr))=(ZF ss j').map λk=>⟨d,3*k,none⟩)/\ss.length-b.toNat<ss.length-(i:Int).toNat):=by
     refine PN _ _ _ _ λv3 e3=>⟨e3.bV Eb id,J _ v3 (e.trans e3) ?_⟩;rw[C];rfl
    refine cD rfl (bL (bL ⟨?_,?_⟩))
    ·exact Eb.fD (E.get u.1) (Eb.fD (E.get u.2.1) ⟨Eb,Eb.fD (E.get A.1) (Eb.fD (E.get A.2.1) ⟨Eb,fin⟩)⟩)
    ·exact Eb.fD (E.get A.1) (Eb.fD (E.get A.2.1) ⟨Eb,Eb.fD (E.get u.1) (Eb.fD (E.get u.2.1) ⟨Eb,fin⟩)⟩)
  ·have W:¬s.many<s.tk.length:=by omega
   rw[zB W]at C;exact J false D e C.symm
 ·have ac:i=ss.length:=by simp only at ae;omega
  subst ac;cases hbf:ZF ss ss.length with
  | none=>
   refine cF rfl (h0 ?_ _ e);simp[jc,iN,hbf]
  | some k=>
   obtain⟨hk,s,H,S⟩:=Kt hbf;have E:=E (by rintro rfl;simp at hk);obtain⟨P,s',K,L,z⟩:=h.jO hk;rw[H]at L;cases L;have u:=Ks K H;obtain⟨r,B,X,ab⟩:=yx S;have D:=h.bP e;have one:jc c ss=some (at_ c s r,ss.set k (s.put r true)):=by simp[jc,iN,hbf,H,B]
   have E':tg _ F p ps ss sl d cs:=⟨E.a,e.bV E.bV id,E.fr,E.get,E.Bh⟩;refine cD rfl (bL (E'.bV.rP (x:=some ⟨P.1,0,none⟩) (E.get u.2.2) ?_));refine TZ (z.bP e) B λv5 e5 af=>bL ?_;have N:=Q1 K;have Q:¬(d=P.1\/d=P.2):=λhh=>E.fr.2.2 (by rcases hh with h|h<;>rw[h];exact N.1;exact N.2)
   have hml:=Df s;have g:=AB X true;rw[ab]at g;have w:(s.put r true).many=s.many+1:=by simp at g;omega
   have ad:=z.len;refine(e5.bV E'.bV Q).fD (E.get u.1) (cT (m:=s.many+1) O O (bL ?_));rw[add_lit,add_lit,kA,kA,←w];exact D.pB (s':=s.put r true) K H rfl e5 af (e.bV Z id) E' λv6 e6 h6=>h1 _ _ one v6 (e.to.trans e6) h6
theorem OL {k:Nat}{s s':cH}(hs:ss[k]?=some s):oH (ss.set k s')+(s.tk.length-s.many)=oH ss+(s'.tk.length-s'.many):=by
 unfold oH
 induction ss generalizing k with
 | nil=>simp at hs
 | cons x ss ih=>
  cases k with
  | zero=>simp at hs;subst hs;simp;omega
  | succ k=>
   have:=ih (by simpa using hs);simp only[sE,zR,oC];omega
theorem Rk {x:Nat}{ss':List cH}(h:jc c ss=some (x,ss')):oH ss'+1=oH ss:=by
 unfold jc at h;split at h
 ·rename_i k hk;obtain⟨_,s,m,b⟩:=Kt hk;rw[m]at h;simp only at h;split at h
  ·rename_i i hi;cases h;obtain⟨r,g,d,a⟩:=yx b;rw[hi]at g;cases g;have u:=OL (s':=s.put i true) m;have j:=AB d true;rw[a]at j;have p:(s.put i true).tk.length=s.tk.length:=by simp[cH.put]
   simp at j;omega
  ·cases h
 ·cases h
theorem fH.room (h:fH U F p c ps ss):oH ss<=131072:=by
 have key:∀l:List cH,(∀s∈l,s.tk.length<=128)->oH l<=128*l.length:=by
  intro l
  induction l with
  | nil=>intro _;simp[oH]
  | cons x l ih=>
   intro hl;have r:=hl x aA;have m:=ih λs d=>hl s (by simp[d]);simp only[oH,zR,oC,zS]at *;omega
 have:=key ss λs d=>by
  obtain⟨i,hi⟩:=zP d;have b:=(cX.1 hi).1;obtain⟨x,j,_,a,g⟩:=h.jO b;rw[hi]at a;cases a;rw[g.len];exact h.ok.kL
 have:=h.qm;omega
theorem Gx {m:Nat}{x:Nat}{ss':List cH}(h:jc c ss=some (x,ss')):KI c (m+1) ss=(x::(KI c m ss').1,(KI c m ss').2):=by
 simp[KI,h]
theorem RN (h:fH U F p c ps ss)(m:Int)(hm:0<=m){R:Sl->Int->Hp->Prop}
 (hR:∀s σ',Ext F U σ'->bT s 1 (ints (KI c m.toNat ss).1) σ' (λb=>U.size<=b)->fH σ' (Cut F U) p c ps (KI c m.toNat ss).2->R s 0 σ'):Xt.c (aW p) m U R:=by
 refine Xt.o ?_;unfold Xt.v;have h:=fH.loc.cut h;have J:=fH.room h;refine Uz h (cD rfl (gg O ?_));refine Qj (a:=.s) (λ(out:Sl) B=>∃j d,Ext F U B/\bT out 1 (ints j) B (λb=>U.size<=b)/\fH B (Cut F U) p c ps d/\j.length<=m.toNat/\j.length+oH d=oH ss/\KI c m.toNat ss=(j++(KI c (m.toNat-j.length) d).1,(KI c (m.toNat-j.length) d).2))
  (λout _=>m.toNat-out.len) ⟨[],ss,Ext.refl _ _,bT.nil _ _ _ _,h,by simp,by simp,by simp⟩ ?_
 rintro out B ⟨j,d,e,g,E,W,S,r⟩;have L:=g.pY;refine cN (λP=>?_) λX=>?_
 ·have u:m.toNat-j.length=(m.toNat-(j.length+1))+1:=by omega
  refine WmG E (λx H w v2 e2 G=>cD rfl ?_) λz v2 e2=>cF rfl ?_
  ·have C:Ext F U v2:=e.trans (e2.sub λi hi=>hi.1);have y:=aI.bS g e2 λb _ D N=>by have:=N.2;omega
   refine y.push (vs:=[.int .i64 (x:Int)]) (λb D=>ku C.1 D) rfl rfl (by simp[dX]) O O λZ v4 Y M K=>?_;have Q:=Rk w;refine⟨⟨j++[x],H,C.dW M λi hi=>.inr hi,by rw[Hr];exact K,fH.loc.bS G M λb _ D N=>(by have:=D.2;omega),by simp;omega,by simp;omega,?_⟩,O⟩;rw[r,u,Gx w];simp
  ·have:KI c (m.toNat-j.length) d=([],d):=by rw[u];simp[KI,z]
   rw[this]at r;have A:=hR out v2 (e.trans e2.to);rw[r,kC]at A;exact A (aI.bP g e2) (E.bP e2)
 ·have V:m.toNat-j.length=0:=by omega
  rw[V]at r;have A:=hR out B e;rw[r]at A;simp only[KI,kC]at A;exact A g E
theorem PD (h:fH U F p c ps ss)(m:Int)(hm:m<0){R:Sl->Int->Hp->Prop}(hR:R ⟨none,0,0⟩ 1 U):Xt.c (aW p) m U R:=by
 refine Xt.o ?_;unfold Xt.v;exact Uz h (cD rfl (l6 O hR))
def iZ:List (Nat×Nat)->List cH->List (Nat×Nat)
 | x::ps,s::ss=>if s.many != 0 then x::iZ ps ss else iZ ps ss
 | _,_=>[]
theorem GG:∀{ps:List (Nat×Nat)} {ss:List cH},ps.length=ss.length->(iZ ps ss).length=(cK ss).length
 | [],[],_=>rfl
 | x::ps,s::ss,h=>by
  have ih:=GG (ps:=ps) (ss:=ss) (by simpa using h);simp only[iZ,cK,uA]at *;split<;>simp[ih]
theorem DL:∀{ps:List (Nat×Nat)} {ss:List cH},(iZ ps ss).Sublist ps
 | [],_=>by simp[iZ]
 | _::_,[]=>by simp[iZ]
 | x::ps,s::ss=>by
  simp only[iZ];split
  ·exact DL.cons_cons x
  ·exact DL.cons x
theorem F9:∀{ps ps':List (Nat×Nat)} {ss ss':List cH},ps.length=ss.length->iZ (ps++ps') (ss++ss')=iZ ps ss++iZ ps' ss'
 | [],_,[],_,_=>rfl
 | x::ps,_,s::ss,_,h=>by
  simp only[lG,iZ,F9 (ps:=ps) (ss:=ss) (by simpa using h)];split<;>rfl
theorem IX:∀{ps:List (Nat×Nat)} {ss:List cH} {i:Nat} {x:Nat×Nat} {s:cH},ps.length=ss.length->(iZ ps ss)[i]?=some x->(cK ss)[i]?=some s->∃j:Nat,ps[j]?=some x/\ss[j]?=some s
 | [],[],_,_,_,_,h,_=>by simp[iZ]at h
 | y::ps,t::ss,i,x,s,hl,h1,h2=>by
  have ih:=λi=>IX (ps:=ps) (ss:=ss) (i:=i) (x:=x) (s:=s) (by simpa using hl);simp only[iZ,cK,uA]at h1 h2;cases hm:(t.many != 0)
  ·rw[hm]at h1 h2;obtain⟨j,a,b⟩:=ih i h1 h2;exact⟨j+1,by simpa using a,by simpa using b⟩
  ·rw[hm]at h1 h2;cases i with
   | zero=>simp at h1 h2;exact⟨0,by simp[h1],by simp[h2]⟩
   | succ i=>
    obtain⟨j,a,b⟩:=ih i (by simpa using h1) (by simpa[cK]using h2);exact⟨j+1,by simpa using a,by simpa using b⟩
theorem Β (a b:List cH):cK (a++b)=cK a++cK b:=by simp[cK]
theorem Wem (a b:List cH):QY (a++b)=QY a++QY b:=by simp[QY]
theorem Tj (c:cA)(a b:List Nat):iP c (a++b)=iP c a++iP c b:=by simp[iP]
theorem LN {a b:List (Nat×Nat)}(h:a.Sublist b):(eC a).Sublist (eC b):=by
 induction h with
 | slnil=>exact List.Sublist.refl _
 | cons x _ ih=>exact(ih.cons _).cons _
 | cons_cons x _ ih=>exact(ih.cons_cons _).cons_cons _
theorem El {h:Hp}{Q:Rg}{n3:Nat}{o:Sl}{l:List Nat}{x1 x2:Nat}{s:cH}(hb:bY h n3 [.slice o.a o.len o.cap])(hrow:bT o 2 (iP c l) h Q)(hQ:∀b,Q b->n3<b)(hl:l.length<=2000)(hS:ic h x1 x2 c s){R:aO}
 (hR:∀h' o',Ext (λb=>b=n3\/Q b) h h'->bY h' n3 [.slice (Sl.a o') o'.len o'.cap]->bT o' 2 (iP c (l++if s.many=0 then[s.st]else[])) h' (Grow Q h)->R (s.many==0) h') :
 VQ Tryz.prog ⟨248,#[],#[.pointer (some ⟨n3,0,none⟩)]⟩ [.agg #[.int .i64 (s.many:Int),.int .i64 (s.st:Int),.pointer (some ⟨x1,0,none⟩)]] [.one .b] h R:=by
 refine Gy (all := #[.agg #[.int .i64 (s.many:Int),.int .i64 (s.st:Int),.pointer (some ⟨x1,0,none⟩)],.pointer (some ⟨n3,0,none⟩)]) (by kernel_rfl) aA ?_;refine Yh.o ?_;unfold Yh.v;refine nw (cs:=[.int .i64 (s.many:Int),.int .i64 (s.st:Int),.pointer (some ⟨x1,0,none⟩)]) λv Z e d=>?_;have L:=hb.lt;have g:=e.bV hb id;have hrow:=(bT.loc o 2 (iP c l)).mono hrow (G:=λb=>Q b/\b<h.size) λb hb x=>⟨x,hb⟩;refine Jn.intro (d.fD rfl ?_);rw[xA];refine cR (λA=>?_) λA=>?_
 ·have p:s.many=0:=by simpa using A
  rw[zC p]at hR;refine⟨λh'=>bY h' h.size [.int .i64 (s.many:Int),.int .i64 (s.st:Int),.pointer (some ⟨x1,0,none⟩)]/\bY h' n3 [.slice o.a o.len o.cap],⟨d,g⟩,⟨o,λh' hS=>by rw[hS.2.cell];rfl,⟨some ⟨x1,0,none⟩,λh' hS=>by rw[add_lit,hS.1.cell];rfl,?_⟩⟩⟩;refine Wny (hS.bP e) λX e2=>⟨⟨e2.bV d id,e2.bV g id⟩,?_⟩;have y:=e.trans e2;have m:=aI.bP hrow y;have z:=m.1;rw[MO]at z;refine nw (cs:=[.int .i64 (s.st:Int),.int .i64 (c.aG:Int)]) λv3 S w C=>⟨⟨(e2.trans w).bV d id,(e2.trans w).bV g id⟩,?_⟩;have r:=aI.bP m w;have W:=y.1;refine r.app (ys:=[.int .i64 (s.st:Int),.int .i64 (c.aG:Int)]) rfl rfl ?_ (by simp[dX]) ?_ ?_ nr λP H N E F=>?_
  ·intro j u hu;rw[add_lit,zH,C.cell];exact hu
  ·simp only;have:(o.len+1)*16<=2001*16:=my O O;omega
  ·simp only;omega
  ·have K:bY H h.size [.int .i64 (s.many:Int),.int .i64 (s.st:Int),.pointer (some ⟨x1,0,none⟩)]:=E.bV ((e2.trans w).bV d id) λB=>by have:=B.2;omega
   have J:bY H n3 [.slice o.a o.len o.cap]:=E.bV ((e2.trans w).bV g id) λB=>by have:=hQ _ B.1;omega
   refine⟨⟨K,J⟩,J.s0 aA λv5 o5 M=>(WF o5 K O).fD rfl ?_⟩;have D:Ext (λb=>b=n3\/Q b) h v5:=(aF.to ((e.trans e2).trans w)).trans (E.sub λi hi=>.inr hi.1)|>.trans (o5.ext.sub λi hi=>.inl hi);rw[xA];refine hR v5 P D M ?_;rw[Tj];have:iP c [s.st]=[.int .i64 (s.st:Int),.int .i64 (c.aG:Int)]:=rfl;rw[this];have V:=aI.mono F (G:=Grow Q h) λb _ U=>by
    rcases U with h|h
    ·exact .inl h.1
    ·exact .inr O
   exact aI.bS V o5.ext λb _ x Y=>by
    rcases x with h|h
    ·have:=hQ _ h;omega
    ·omega
 ·have p:¬s.many=0:=by simpa using A
  rw[zB p,kC]at hR;refine d.fD rfl ?_;rw[xA];exact hR v o e.to g (aI.bP (aI.mono hrow λb _ x=>.inl x.1) e)
def A8 (n3:Nat)(c:cA)(l:List Nat)(h:Hp):Prop:=∃o:Sl,bY h n3 [.slice o.a o.len o.cap]/\bT o 2 (iP c l) h (λb=>n3<b)
theorem DC {A D:List Value}{x y z:Value}{k:Nat}(hk:k=A.length)(hD:3<=D.length):(((A++D).set k x).set (k+1) y).set (k+2) z=A++[x,y,z]++D.drop 3:=by
 subst hk
 match D,hD with
 | d0::d1::d2::D,_=>simp[List.set_append]
theorem Gs {i:Nat}{s:cH}(hs:ss[i]?=some s):QY (ss.take (i+1))=QY (ss.take i)++(if s.many=0 then[s.st]else[]):=by
 rw[kx,hs,Wem]
 congr 1
 by_cases hm:s.many=0<;>simp[QY,hm]
theorem GQ {i:Nat}{s:cH}(hs:ss[i]?=some s):cK (ss.take (i+1))=cK (ss.take i)++(if s.many=0 then[]else[s]):=by
 rw[kx,hs,Β]
 congr 1
 by_cases hm:s.many=0<;>simp[cK,hm]
theorem Dp {i:Nat}{x:Nat×Nat}{s:cH}(hl:ps.length=ss.length)(hx:ps[i]?=some x)(hs:ss[i]?=some s):iZ (ps.take (i+1)) (ss.take (i+1))=iZ (ps.take i) (ss.take i)++(if s.many=0 then[]else[x]):=by
 rw[kx,kx,hs,hx,F9 (by simp[hl])]
 congr 1
 by_cases hm:s.many=0<;>simp[iZ,hm]
theorem κ (l:List cH):(QY l).length<=l.length:=by unfold QY;rw[zk];exact oF _ _
theorem ε (l:List cH):(cK l).length<=l.length:=oF _ _
theorem Η (h:fH U F p c ps ss){sl:Sl}{rb n3:Nat}{cs:List Value}{σ1:Hp}(e1:aF U σ1)(hlen:sl.len=ss.length)(hn3:U.size<=n3)(hE:ss≠[]->tg U F p ps ss sl rb cs/\sl.len<=sl.cap/\cs.length=sl.cap*3)(h0:A8 n3 c [] σ1){R:Sl->Hp->Prop}
 (hR:∀h' nk,Ext (λb=>F b/\b≠p/\b∉eC ps\/n3<=b) σ1 h'->A8 n3 c (QY ss) h'->(nk=sl/\QY ss=[]/\cK ss=ss/\iZ ps ss=ps/\Ext (λb=>n3<=b) σ1 h'\/(bT nk 3 (dU (iZ ps ss) (cK ss)) h' (λb=>F b/\b≠p/\b∉eC ps)))->R nk h') :
 Wi.c sl ⟨248,#[],#[.pointer (some ⟨n3,0,none⟩)]⟩ σ1 R:=by
 refine Wi.o ?_;unfold Wi.v;refine Wn.o ?_;unfold Wn.v;have hfew:=h.qm;have r:=h.len;refine Qj (a:=bO) (λ(t:Int) h'=>∃i:Nat,t=(i:Int)/\i<=ss.length/\Ext (λb=>n3<=b) σ1 h'/\A8 n3 c [] h'/\QY (ss.take i)=[]/\cK (ss.take i)=ss.take i/\iZ (ps.take i) (ss.take i)=ps.take i) (λt _=>ss.length-t.toNat) ⟨0,rfl,O,Ext.refl _ _,h0,by simp[QY],by simp[cK],by simp[iZ]⟩ ?_;rintro t h' ⟨i,rfl,hi,e,⟨o,V,Y⟩,q1,q2,q3⟩;have eo:∀{v:Hp},Ext (λb=>n3<=b) σ1 v->Ext (λb=>n3<=b) U v:=λe=>e1.to.trans e;refine cN (λhlt=>?_) λhge=>?_
 ·have af:i<ss.length:=by omega
  obtain⟨E,hcap,hcl⟩:=hE (by rintro rfl;simp at af);obtain⟨xx,s,hp,L,hS⟩:=h.jO af;have eg:=Ks hp L;have hrl:=E.bV.lt;have hSl:=hS.lt;rw[E.a];refine ix O O ?_;rw[add_lit,show 0+(i:Int).toNat*3=3*i by omega];refine xJ (e:=0) ((eo e).bV E.bV O) (E.get eg.1) (E.get eg.2.1) (E.get eg.2.2) ?_;have hn3h:n3<h'.size:=V.lt;refine El V Y (λb h=>h) aA (hS.bS (eo e) O O) λh2 o2 e2 ae A=>?_;have e2:Ext (λb=>n3<=b) h' h2:=e2.sub λb g=>by omega
  have A:=aI.mono A (G:=λb=>n3<b) λb _ g=>by
   rcases g with h|h
   ·exact h
   ·omega
  refine cR (λhm=>?_) λhm=>?_
  ·-- the first that goes
   have x:s.many=0:=by simpa using hm
   rw[zC x,tu]at A;have D:((i:Int)==(-1))=false:=by rw[mI];omega
   show If ((i:Int)==(-1)) _ _;refine cD D (cT (m:=i+1) O O ?_);have q1':QY (ss.take (i+1))=[s.st]:=by rw[Gs L,q1,zC x];rfl
   have N:cK (ss.take (i+1))=ss.take i:=by rw[GQ L,q2,zC x,kC]
   have q3':iZ (ps.take (i+1)) (ss.take (i+1))=ps.take i:=by rw[Dp r hp L,q3,zC x,kC]
   have hke:∀k,k<=ss.length->(dU (iZ (ps.take k) (ss.take k)) (cK (ss.take k))).length=3*(cK (ss.take k)).length:=λk _=>KE (GG (by simp[r]));have Eb2:bY h2 rb cs:=(eo (e.trans e2)).bV E.bV O;refine Uo (a:=bO) (bb:=bO) (λ(i1 j1:Int) v=>∃j:Nat,j1=(j:Int)/\i<j/\j<=ss.length/\i1=((cK (ss.take j)).length:Int)/\(cK (ss.take j)).length<j/\Ext (λb=>b=rb\/n3<=b) σ1 v/\A8 n3 c (QY (ss.take j)) v ∧
    bY v rb (dU (iZ (ps.take j) (ss.take j)) (cK (ss.take j))++cs.drop (3*(cK (ss.take j)).length))) (λ_ j1 _=>ss.length-j1.toNat) ?_ ?_
   ·refine⟨i+1,rfl,O,O,?_,?_,(e.trans e2).sub λb g=>.inr g,?_,?_⟩
    ·rw[N,zY];omega
    ·rw[N,zY];omega
    ·rw[q1'];exact⟨o2,ae,A⟩
    ·rw[N,q3',zY,qv O];have:dU (ps.take i) (ss.take i)++cs.drop (3*i)=cs:=by
      have h1:(dU (ps.take i) (ss.take i)).length=3*i:=by rw[KE (by simp[r]),zY];omega
      apply zt;intro k;rcases ko k (3*i)with hk|hk
      ·rw[zd O];have h2:(dU ps ss)[k]?=(dU (ps.take i) (ss.take i))[k]? := by
        conv=>lhs;rw[←nY i ps,←nY i ss,VJ (by simp[r])]
        rw[zd O]
       rw[←h2];have h3:k<(dU ps ss).length:=by rw[KE r];omega
       rw[cW h3];exact(E.get (cW h3)).symm
      ·rw[zp O,lu,h1]
       congr 1;omega
     rw[this];exact Eb2
   ·rintro i1 j1 v ⟨j,rfl,hij,hj,rfl,hKj,ev,⟨o3,B,J⟩,z⟩;have y:=hke j hj;have evo:Ext (λb=>b=rb\/n3<=b) U v:=e1.to.trans ev;refine cN (λhlt2=>?_) λhge2=>?_
    ·have hj':j<ss.length:=by omega
     obtain⟨yy,u,P,H,Z⟩:=h.jO hj';have Q:=Ks P H;have hSul:=Z.lt;have ag:=Q1 P;refine ix O O ?_;rw[add_lit,show 0+(j:Int).toNat*3=3*j by omega];have get:∀d,d<3->∀w,(dU ps ss)[3*j+d]?=some w->(dU (iZ (ps.take j) (ss.take j)) (cK (ss.take j))++cs.drop (3*(cK (ss.take j)).length))[3*j+d]?=some w:=by
      intro d hd w hw;rw[zp O,lu,y,show 3*(cK (ss.take j)).length+(3*j+d-3*(cK (ss.take j)).length)=3*j+d by omega];exact E.get hw
     refine xJ (e:=0) z (get 0 O _ Q.1) (get 1 O _ Q.2.1) (get 2 O _ Q.2.2) (II λv5 X b5=>b5.rI rfl (b5.rI rfl (b5.rP rfl ?_)));have hn3v:n3<v.size:=B.lt;have aa:=aI.mono J (G:=λb=>n3<b/\b<v.size) λb g hf=>⟨hf,g⟩;have M:=κ (ss.take j);rw[zY]at M;refine El (X.bV B id) (aI.bP aa X) (λb g=>g.1) O ((Z.bS evo (λW=>by rcases W with h|h;exact E.fr.2.2 (h▸ag.1);omega) (λW=>by rcases W with h|h;exact E.fr.2.2 (h▸ag.2);omega)).bP X) λv6 o6 e6 ab C=>?_;have hsz5:=X.1;have C:=aI.mono C (G:=λb=>n3<b) λb _ g=>by
      rcases g with h|h
      ·exact h.1
      ·omega
     have b6:bY v6 v.size [.int .i64 (u.many:Int),.int .i64 (u.st:Int),.pointer (some ⟨yy.1,0,none⟩)]:=e6.bV b5 λW=>by rcases W with h|h;omega;have:=h.2;omega
     have hrb:rb<U.size:=E.bV.lt;have K:=e6.bV (X.bV z id) λW=>by rcases W with h|h;omega;have:=h.1;omega
     have ad:Ext (λb=>b=rb\/n3<=b) σ1 v6:=(ev.trans X.to).trans (e6.sub λb g=>by rcases g with h|h;omega;have:=h.1;omega);rw[←Gs H]at C;have st:=GQ H;have kt:=Dp r P H;by_cases hum:u.many=0
     ·rw[zC hum,kC]at st kt;have:(u.many==0)=true:=by simp[hum]
      rw[this];refine cD rfl (cT (m:=j+1) O O ⟨⟨j+1,rfl,O,O,?_,?_,ad,⟨o6,ab,C⟩,?_⟩,O⟩)
      ·rw[st]
      ·rw[st];omega
      ·rw[st,kt];exact K
     ·rw[zB hum]at st kt;have:(u.many==0)=false:=by simp[hum]
      rw[this];refine cF rfl (b6.rI rfl (b6.rI rfl (b6.rP rfl (ix O O ?_))));rw[add_lit,show 0+((cK (ss.take j)).length:Int).toNat*3=3*(cK (ss.take j)).length by omega];have hlen6:(dU (iZ (ps.take j) (ss.take j)) (cK (ss.take j))++cs.drop (3*(cK (ss.take j)).length)).length=cs.length:=by
       rw[zK,y,kg];omega
      refine K.s1 O λv7 o7 b7=>b7.s1 aE λv8 o8 b8=>b8.s1 aE λv9 o9 b9=>?_;rw[kA,DC y.symm (by rw[kg];omega),List.drop_drop]at b9;have ev9:Ext (λb=>b=rb\/n3<=b) σ1 v9:=((ad.trans (o7.ext.sub λb g=>.inl g)).trans (o8.ext.sub λb g=>.inl g)).trans (o9.ext.sub λb g=>.inl g);have ac:Ext (· = rb) v6 v9:=(o7.ext.trans o8.ext).trans o9.ext;refine cT (m:=(cK (ss.take j)).length+1) O O (cT (m:=j+1) O O ⟨⟨j+1,rfl,O,O,?_,?_,ev9,⟨o6,ac.bV ab O,aI.bS C ac λb _ g he=>O⟩,?_⟩,O⟩)
      ·rw[st];simp
      ·rw[st];simp;omega
      ·rw[st,kt,VJ (GG (by simp[r]))];simp only[zK,zS,lg,dU];rw[show 3*((cK (ss.take j)).length+(0+1))=3*(cK (ss.take j)).length+3 by omega];exact b9
    ·have hjj:j=ss.length:=by omega
     subst hjj;rw[lY]at *;have S:ps.take ss.length=ps:=by rw[←r,lY]
     rw[S]at z y;have M:=ε ss;refine jm O O O ?_;have hK3:3*(cK ss).length<=cs.length:=by omega
     have hlt3:(cK ss).length<ss.length:=hKj;rw[zB O];simp only[E.a,ze,add_lit,zH];refine⟨by simp[dX],?_⟩;simp only;have hz:(List.replicate (sl.len-(cK ss).length) [Value.int .i64 0,.int .i64 0,.pointer none]).flatten.length=3*(sl.len-(cK ss).length):=by
      rw[wu,wg,wy];simp;omega
     refine V8 (o:=(cK ss).length*3) (i:=0) z (by rw[hz,zK,y,kg];omega) λv10 gA b10=>?_;refine jm (lo:=0) O O O ?_;have ah:Ext (λb=>b=rb\/n3<=b) σ1 v10:=ev.trans (gA.ext.sub λb g=>.inl g);refine hR v10 _ (ah.sub λb g=>?_) ⟨o3,WF gA B (by have:=E.bV.lt;omega),aI.bS J gA.ext λb _ g he=>by have:=E.bV.lt;omega⟩ (.inr ?_)
     ·rcases g with rfl|h
      ·exact .inl E.fr
      ·exact .inr h
     ·refine⟨by rw[KE (GG r)];simp;omega,.inr ⟨rb,_,E.fr,?_,b10,?_,?_,?_⟩⟩
      ·simp only[E.a];split<;>simp[add_lit]
      ·simp only;omega
      ·simp only[zK,zY,kg,hz,y];omega
      ·rw[KE (GG r),kA,show(cK ss).length*3=3*(cK ss).length by omega];rw[zl,oI (by rw[zY,zK,y];omega),yr,Nat.min_self];rw[oI O,lH O]
  ·have x:¬s.many=0:=by simpa using hm
   rw[zB x,kC]at A;refine cT (m:=i+1) O O ⟨⟨i+1,rfl,O,e.trans e2,⟨o2,ae,A⟩,?_,?_,?_⟩,O⟩
   ·rw[Gs L,q1,zB x];rfl
   ·rw[GQ L,q2,zB x,kx,L];rfl
   ·rw[Dp r hp L,q3,zB x,kx,hp];rfl
 ·have hii:i=ss.length:=by omega
  subst hii;rw[lY]at *;have S:ps.take ss.length=ps:=by rw[←r,lY]
  rw[S]at q3;have D:((-1:Int)==(-1))=true:=rfl;refine cF D (hR h' sl (e.sub λb g=>.inr g) ?_ (.inl ⟨rfl,q1,q2,q3,e⟩));rw[q1];exact⟨o,V,Y⟩
theorem fH.nk (h:fH U F p c ps ss):∃sl:Sl,bY U p [.int .i64 (c.size:Int),.int .i64 (c.aG:Int),.int .i64 (c.batch:Int),.slice sl.a sl.len sl.cap]/\sl.len=ss.length/\bT sl 3 (dU ps ss) U (λb=>F b/\b≠p/\b∉eC ps) ∧
 ∃rb cs,(ss≠[]->tg U F p ps ss sl rb cs/\sl.len<=sl.cap/\cs.length=sl.cap*3):=by
 obtain⟨sl,r,g⟩:=h.hd;have m:=g.1;rw[KE h.len]at m;refine⟨sl,r,O,g,?_⟩;rcases g.2 with⟨h0,_⟩|⟨b,cs,hq,ha,hbb,hle,hcl,ht⟩
 ·exact⟨0,[],λi=>by have:=pM.2 i;omega⟩
 ·refine⟨b,cs,λ_=>⟨⟨ha,hbb,hq,λ{j v} d=>?_,?_⟩,hle,hcl⟩⟩
  ·rw[←ht,zm]at d;split at d
   ·exact d
   ·cases d
  ·have:=congrArg List.length ht;rw[zY,KE h.len]at this;omega
theorem Wll (h:fH U F p c ps ss){R:Sl->Hp->Prop}
 (hR:∀o σ',Ext F U σ'->bT o 2 (iP c (QY ss)) σ' (λb=>U.size<=b)->fH σ' (Cut F U) p c (iZ ps ss) (cK ss)->R o σ'):Yf.c (aW p) U R:=by
 refine Yf.o ?_;unfold Yf.v;have h:=fH.loc.cut h;obtain⟨sl,a,C,A,W,cs,S⟩:=h.nk;refine Uz h (cD rfl (nw (cs:=[.slice none 0 0]) λV N e1 H=>bL ((e1.bV a id).rS rfl ?_)));refine Η h e1 C (zD _) S ⟨⟨none,0,0⟩,H,bT.nil _ _ _ _⟩ λX nk e2 ⟨o,B,D⟩ u=>bL ?_;have L:=a.lt;have g:=h.nd;have d:=LN (DL (ps:=ps) (ss:=ss));simp only[zr]at g;refine(e2.bV (e1.bV a id) λE=>by rcases E with h|h;exact h.2.1 rfl;omega).s1 aA λv3 o3 G=>?_;have w:=WF o3 B (by have:=B.lt;omega);refine w.vH rfl (hR o v3 ?_ (aI.bS (aI.mono D λb _ a=>O) o3.ext λb _ a m=>O) ?_)
 ·refine(e1.to.dW e2 λb a=>?_).dW o3.ext λb a=>?_
  ·rcases a with h|h
   ·exact .inl h.1.1
   ·exact .inr h
  ·subst a;exact .inl h.fp.1
 ·have y:∀b,b∈eC ps->b<U.size->¬(Cut F U b/\b≠p/\b∉eC ps\/U.size<=b):=λb a M E=>by
   rcases E with h|h
   ·exact h.2.2 a
   ·omega
  refine⟨⟨nk,G,?_⟩,λi x s P Q=>?_,h.fp,λb a=>h.fb b (d.subset a),?_,GG h.len,h.ok,h.rO.sublist ua⟩
  ·rcases u with⟨rfl,_,q2,q3,ex⟩|hr
   ·rw[q2,q3];exact aI.bS (aI.bS (aI.bP A e1) ex λb _ a m=>by have:=a.1.2;omega) o3.ext λb _ a m=>a.2.1 m
   ·exact aI.bS (aI.mono hr λb _ a=>⟨a.1,a.2.1,λr=>a.2.2 (d.subset r)⟩) o3.ext λb _ a m=>a.2.1 m
  ·obtain⟨j,z,J⟩:=IX h.len P Q;have K:=h.sp j x s z J;have r:=Q1 z;have C:=K.lt;exact((K.bP e1).bS e2 (y _ r.1 C.1) (y _ r.2 C.2)).bS o3.ext (λm=>g.1 (m▸r.1)) (λm=>g.1 (m▸r.2))
  ·simp only[zr];exact⟨λr=>g.1 (d.subset r),g.2.sublist d⟩
theorem Mj {x:Int}{k i:Nat}{s:cH}(hc:0<c.size)(hk:kT c ss x=some k)(hs:ss[k]?=some s)(v:Bool)(y:Int):kT c (ss.set k (s.put i v)) y=kT c ss y:=by
 have a:∀t:cH,∀j w z,idx c (t.put j w) z=idx c t z:=λt j w z=>by unfold idx cH.put;simp only[oS]
 unfold kT;have b:=(cX.1 hs).1;have:(ss.set k (s.put i v)).map (λs=>(idx c s y).isSome)=ss.map (λs=>(idx c s y).isSome):=by
  apply zt;intro j;simp only[zZ];by_cases hjk:j=k
  ·subst hjk;rw[zO b,hs];simp[a]
  ·rw[zh (Ne.symm hjk)]
 have d:∀l:List cH,l.findIdx? (λs=>(idx c s y).isSome)=(l.map λs=>(idx c s y).isSome).findIdx? id:=λl=>by rw[List.findIdx?_map];rfl
 rw[d,d,this]
def kO (c:cA)(ss:List cH)(xs:List Int):Prop:=(∀x∈xs,eD c ss x=some true)/\xs.Nodup
theorem yM {x:Int}{b:Bool}(h:eD c ss x=some b):∃k s i,kT c ss x=some k/\ss[k]?=some s/\obj c s x=some i/\s.is i=b:=by
 unfold eD at h;split at h
 ·rename_i k hk;split at h
  ·rename_i s hs;cases ho:obj c s x with
   | none=>rw[ho]at h;cases h
   | some i=>rw[ho]at h;exact⟨k,s,i,hk,hs,ho,by simpa[cH.is]using h⟩
  ·cases h
 ·cases h
theorem Ab {x:Int}{k i:Nat}{s:cH}(hk:kT c ss x=some k)(hs:ss[k]?=some s)(ho:obj c s x=some i):fJ c ss x=ss.set k (s.put i false):=by
 simp[fJ,hk,hs,ho]
theorem TN {x y:Int}(hc:0<c.size)(hx:eD c ss x=some true)(hne:y≠x):eD c (fJ c ss x) y=eD c ss y:=by
 obtain⟨k,s,i,A,d,u,_⟩:=yM hx;rw[Ab A d u];have r:=(cX.1 d).1;have a:=Mj hc A d false (i:=i) y;have p:∀t:cH,∀j w z,obj c (t.put j w) z=obj c t z:=λt j w z=>by unfold obj idx at_ cH.put;simp only[oS]
 cases hy:kT c ss y with
 | none=>rw[CG (a.trans hy),CG hy]
 | some m=>
  by_cases hmk:m=k
  ·subst hmk;rw[Ui (a.trans hy) (zO r),Ui hy d,p];cases hoy:obj c s y with
   | none=>rfl
   | some j=>
    simp only[ze,Option.some.injEq];have g:i≠j:=λe=>by
     subst e;exact hne (((He hc).1 hoy).1.trans ((He hc).1 u).1.symm)
    simp[cH.is,cH.put,zQ,zh g]
  ·have b:m<ss.length:=(nV.1 hy).1;rw[Ui (a.trans hy) ((zh (Ne.symm hmk)).trans (cW b)),Ui hy (cW b)]
theorem kO.next {x:Int}{xs:List Int}(hc:0<c.size)(h:kO c ss (x::xs)):kO c (fJ c ss x) xs:=by
 have b:=zr.1 h.2;refine⟨λy a=>?_,b.2⟩;rw[TN hc (h.1 x aA) λe=>b.1 (e▸a)];exact h.1 y (by simp[a])
theorem JR {xs:List Int}(h:iK c ss xs=0):kO c ss xs:=by
 unfold iK at h;split at h
 ·cases h
 ·rename_i h1;split at h
  ·cases h
  ·rename_i h2;simp only[nT,not_or,qY,mn,Bool.not_eq_false',zV,zU]at h1 h2;refine⟨λx d=>?_,h2.2⟩;have a:=h1 x d;have b:=h2.1 x d;cases ht:eD c ss x with
   | none=>rw[ht]at a;simp at a
   | some v=>
    cases v
    ·rw[ht]at b;exact absurd rfl b
    ·rfl
theorem OE {sl:Sl}{xs:List Int}{X:Rg}(h:fH U F p c ps ss)(hs:cV sl 1 (xs.map (Value.int .i64)) U X)(hX:∀b,X b->¬F b)(hi:∀x∈xs,iL x)(hA:kO c ss xs)(hl:xs.length<=1000000){K:aP}
 (hK:∀σ',Ext F U σ'->fH σ' F p c ps (xs.foldl (fJ c) ss)->K σ') :
 XS [bO] (λI1=>I1 0 U) λJ3 (t49:Int) v6=>If (decide (t49<((sl.len:Nat):Int))) (Ix sl.a sl.len t49 1 λa51=>gH .i64 a51 v6 λaddr1=>
  X0.c (aW p) addr1 v6 λvx v7=>bW vx λa57=>fX (a57.add 2) v7 λt59=>ZW.c t59 addr1 v7 λt61 v8=>bW vx λa63=>gH .i64 ((a63.add 0).add 0) v8 λt66=>
  Ar .i64 (t66-1) λt67=>bW vx λa68=>dF ((a68.add 0).add 0) (.int .i64 t67) v8 λv9=>Ar .i64 (t49+1) λt71=>J3 t71 v9) (K v6):=by
 have hlen:sl.len=xs.length:=by have:=hs.1;simp at this;omega
 have A:0<c.size:=by have:=h.ok.1;omega
 refine Qj (a:=bO) (λ(t:Int) L=>∃(i:Nat) (r:List cH),t=(i:Int)/\i<=xs.length/\Ext F U L/\fH L F p c ps r/\kO c r (xs.drop i)/\(xs.drop i).foldl (fJ c) r=xs.foldl (fJ c) ss) (λt _=>xs.length-t.toNat) ⟨0,ss,rfl,O,Ext.refl _ _,h,by simpa using hA,by simp⟩ ?_;rintro t L ⟨i,r,rfl,hil,e,J,w,z⟩;refine cN (λhlt=>?_) λhge=>?_
 ·have y:i<xs.length:=by omega
  have hx:xs[i]?=some xs[i]:=cW y;have hd:xs.drop i=xs[i]::xs.drop (i+1):=wL y;rw[hd]at w z;refine(aH.bS hs e λb _ S hF=>hX b S hF).ma hx ?_;obtain⟨k,s,j,N,d,M,G⟩:=yM (w.1 xs[i] mJ);have C:=hi xs[i] (kz y);refine Bg J xs[i] C (λhn=>by rw[N]at hn;cases hn) λk' nk rb cs B Z S E=>bL ?_;rw[N]at B;cases B;obtain⟨R,s',P,D,V⟩:=J.jO Z;rw[d]at D;cases D;have eg:=Ks P d;have hj:=((He A).1 M).2;refine E.bV.rP (x:=some ⟨R.1,0,none⟩) (E.get eg.2.2) ?_;refine Wm5 V C M G λv8 e8 W=>bL ?_;have H:=Q1 P;have Q:¬(rb=R.1\/rb=R.2):=λhh=>E.fr.2.2 (by rcases hh with h|h<;>rw[h];exact H.1;exact H.2)
  have hml:=Df s;have g:=AB hj false;rw[G]at g;have hsl:=V.len;have hnl:=V.ok.kL;have u:((s.put j false).many:Int)=s.many-1:=by simp at g;omega
  refine(e8.bV E.bV Q).fD (E.get eg.1) (ar O O (bL ?_));simp only[add_lit,kA];rw[←u];refine J.pB (s':=s.put j false) P d rfl e8 W S E λv9 e9 Y=>?_;refine cT (m:=i+1) O O ⟨⟨i+1,_,rfl,O,e.trans e9,Y,?_,?_⟩,O⟩
  ·have:=kO.next A w
   rwa [Ab N d M]at this
  ·rw[rD,Ab N d M]at z;exact z
 ·have:i=xs.length:=by omega
  subst this;rw[List.drop_length,List.foldl_nil]at z;subst z;exact hK L e J
theorem Me (h:fH U F p c ps ss){sl:Sl}{xs:List Int}{X:Rg}(hs:cV sl 1 (xs.map (Value.int .i64)) U X)(hX:∀b,X b->¬F b)(hi:∀x∈xs,iL x)(hl:xs.length<=1000000)(hcap:sl.len<=sl.cap){R:Sl->Int->Hp->Prop}
 (h0:iK c ss xs≠0->R ⟨none,0,0⟩ (iK c ss xs) U)
 (h1:iK c ss xs=0->∀o σ',Ext F U σ'->bT o 2 (iP c (QY (xs.foldl (fJ c) ss))) σ' (λb=>U.size<=b)->fH σ' (Cut F U) p c (iZ ps (xs.foldl (fJ c) ss)) (cK (xs.foldl (fJ c) ss))->R o 0 σ') :
 Y6.c (aW p) sl U R:=by
 refine Y6.o ?_;unfold Y6.v;have af:sl.len=xs.length:=by have:=hs.1;simp at this;omega
 refine Uz h (cD rfl ?_);have P:∀i,(xs.take i).any (λx=>eD c ss x==some false)=true\/¬(xs.take i).Nodup->(∀x∈xs,(eD c ss x).isSome=true)->iK c ss xs=9:=by
  intro i d hall;unfold iK;rw[zB,zC]
  ·rcases d with d|d
   ·rw[zy]at d;obtain⟨x,u,W⟩:=d;have:xs.any (λx=>eD c ss x==some false)=true:=zy.2 ⟨x,vz u,W⟩;rw[this];rfl
   ·have:¬xs.Nodup:=λE=>d (E.sublist (Dw _ _));simp[this]
  ·simp only[qY,mn];intro x u;have:=hall x u;cases ht:eD c ss x
   ·rw[ht]at this;cases this
   ·simp
 refine Uo (a:=.b) (bb:=bO) (λ(P:Bool) (t:Int) B=>∃i:Nat,t=(i:Int)/\i<=xs.length/\B=U/\(∀x∈xs.take i,(eD c ss x).isSome=true)/\(P=true↔(xs.take i).any (λx=>eD c ss x==some false)=true\/¬(xs.take i).Nodup)) (λ_ t _=>xs.length-t.toNat)
  ⟨0,rfl,O,rfl,by simp,by simp⟩ ?_
 rintro A t B ⟨i,rfl,hil,rfl,g,C⟩;refine cN (λhlt=>?_) λhge=>?_
 ·have D:i<xs.length:=by omega
  have u:xs[i]?=some xs[i]:=cW D;have Q:=hi xs[i] (kz D);have J:xs.take (i+1)=xs.take i++[xs[i]]:=by rw[kx,u];rfl
  refine hs.ma u (JT h xs[i] Q (λb d=>cD rfl ?_) λE=>cF rfl ?_)
  ·have w:∀x∈xs.take (i+1),(eD c ss x).isSome=true:=by
    rw[J];intro x u;rcases zM.1 u with h1|h1
    ·exact g x h1
    ·simp at h1;subst h1;rw[d];rfl
   have fin:∀L:Bool,(L=true↔(xs.take (i+1)).any (λx=>eD c ss x==some false)=true\/¬(xs.take (i+1)).Nodup)->Ar .i64 ((i:Int)+1) λs=>
    (∃j:Nat,s=(j:Int)/\j<=xs.length/\B=B/\(∀x∈xs.take j,(eD c ss x).isSome=true)/\(L=true↔(xs.take j).any (λx=>eD c ss x==some false)=true\/¬(xs.take j).Nodup))/\xs.length-s.toNat<xs.length-(i:Int).toNat:=
    λL ae=>cT (m:=i+1) O O ⟨⟨i+1,rfl,O,rfl,w,ae⟩,O⟩
   have S:∀y:Int,(xs.take i++[y]).Nodup↔(xs.take i).Nodup/\y∉xs.take i:=λy=>by
    rw[nb];constructor
    ·exact λh=>⟨h.1,λM=>h.2.2 y M y aA rfl⟩
    ·exact λh=>⟨h.1,by simp,λa ha z hz e=>by simp at hz;subst hz;exact h.2 (e▸ha)⟩
   have ex:(xs.take (i+1)).any (λx=>eD c ss x==some false)=true\/¬(xs.take (i+1)).Nodup↔(A=true\/b=false)\/xs[i]∈xs.take i:=by
    rw[J,S,List.any_append,C];simp only[List.any_cons,List.any_nil,Bool.or_false,nT,d];have ab:((some b==some false)=true)↔b=false:=by cases b<;>simp
    rw[ab];constructor
    ·rintro((h|h)|h)
     ·exact .inl (.inl (.inl h))
     ·exact .inl (.inr h)
     ·by_cases E:(xs.take i).Nodup
      ·by_cases M:xs[i]∈xs.take i
       ·exact .inr M
       ·exact absurd ⟨E,M⟩ h
      ·exact .inl (.inl (.inr E))
    ·rintro(((h|h)|h)|h)
     ·exact .inl (.inl h)
     ·exact .inr λG=>h G.1
     ·exact .inl (.inr h)
     ·exact .inr λG=>G.2 h
   have J1:∀r:Bool,(r=true↔A=true\/b=false)->bX (λL v4=>Ar .i64 ((i:Int)+1) λs=>
    (∃j:Nat,s=(j:Int)/\j<=xs.length/\v4=B/\(∀x∈xs.take j,(eD c ss x).isSome=true)/\(L=true↔(xs.take j).any (λx=>eD c ss x==some false)=true\/¬(xs.take j).Nodup))/\xs.length-s.toNat<xs.length-(i:Int).toNat) λJ2=>
    If r (J2 true B) (fF sl 1 0 (i:Int) (sl.cap:Nat) λaa=>Ww.c aa xs[i] B λad v5=>J2 ad v5):=by
    intro r hr;refine bX.intro ?_;cases r
    ·refine cD rfl ?_;refine jm (lo:=0) O O O ?_;have K:cV ⟨if sl.cap=0 then sl.a else sl.a.map (·.add (0*1)),i-0,sl.cap-0⟩ 1 ((xs.take i).map (Value.int .i64)) B X:=by
      refine⟨by simp;omega,?_⟩;rcases hs.2 with h0|⟨b',o',cs',hf',ha',hb',hc'⟩
      ·left;have:xs=[]:=by simpa using h0
       simp[this]
      ·refine .inr ⟨b',o',cs',hf',?_,hb',λj hj=>?_⟩
       ·rw[zB O,ha'];simp[add_lit]
       ·simp only[zk,zY]at hj;rw[hc' j aE,List.map_take,zm,zC O]
     refine G5 K aE _ (fin _ ?_);rw[ex,←hr];simp
    ·refine cF rfl (fin true ?_);rw[ex,←hr];simp
   refine bX.intro ?_;cases A
   ·refine cD rfl (J1 _ ?_);cases b<;>simp
   ·exact cF rfl (J1 _ aA)
  ·have:iK c ss xs=8:=by
    unfold iK;rw[zC];exact zy.2 ⟨xs[i],kz D,by rw[E];rfl⟩
   have h0:=h0 (by rw[this];decide);rw[this]at h0;exact h0
 ·have:i=xs.length:=by omega
  subst this;rw[lY]at *;cases A
  ·refine cD rfl ?_;have hE:iK c ss xs=0:=by
    unfold iK;have V:¬(xs.any (λx=>eD c ss x==some false)=true\/¬xs.Nodup):=λG=>by have:=C.2 G;cases this
    rw[zB,zB]
    ·simp only[not_or,qY,Decidable.not_not]at V;rw[V.1];simp[V.2]
    ·simp only[qY,mn];intro x u;have:=g x u;cases ht:eD c ss x
     ·rw[ht]at this;cases this
     ·simp
   refine OE (fH.loc.cut h) hs (λb d hf=>hX b d hf.1) hi (JR hE) hl λv6 e6 Z=>?_;refine Wll Z λo ac Y N H=>?_;exact h1 hE o ac ((e6.trans Y).sub λb d=>d.1) (aI.mono N λb _ d=>ku e6.1 d) (fH.loc.mono H λb _ d=>d.1)
  ·refine cF rfl ?_;have h9:=P xs.length (by rw[lY];exact C.1 rfl) g;have h0:=h0 (by rw[h9];decide);rw[h9]at h0;exact h0
theorem R6 {x y:Sl}{a o b o':Nat}{cs ds:List Value}(hx:x.a=some ⟨a,o,none⟩)(hy:y.a=some ⟨b,o',none⟩)(ha:bY U a cs)(hb:bY U b ds)(hne:a≠b)(hd:ds≠[]){K:aO}(hK:K false U) :
 tJ Tryz.prog 320 [.slice x.a x.len x.cap,.slice y.a y.len y.cap] U K:=by
 rintro w rfl;obtain⟨g,ha⟩:=ha;obtain⟨d,hb⟩:=hb;refine⟨false,w,?_,.refl _,hK⟩;rw[hx,hy,run_callFunc_extern Tryz.func320 (by kernel_rfl) (by kernel_rfl) (by kernel_rfl) (e:=Extern.SlicesOverlaps.overlaps #[272,272] #[4]) (by kernel_rfl)];have:=Lib.run_overlaps_apart (P:=Tryz.prog) w 272 4 279 Tryz.underlying272 3 Tryz.sizeOf279
  ⟨a,o,none⟩ ⟨b,o',none⟩ x.len x.cap y.len y.cap hne g d cs.length ds.length (by simp[World.shape?,ha]) (by simp[World.shape?,hb]) (by simpa using hd) (by simp[World.frozen?,ha]) (by simp[World.frozen?,ha])
 rw[this];rfl
theorem PV {Q:Rg}{s:Sl}{xs:List Value}{i m vb:Nat}{x y z:Value}(h:bT s 3 xs U Q)(hlen:s.len=m)(hm:m<=2000)(hi:i<=m)(hv:bY U vb [x,y,z])(hvb:¬Q vb)(h1:∀v∈xs,dX v=true)(h2:dX x=true/\dX y=true/\dX z=true)
 {R:Sl->Hp->Prop} (hR:∀s' σ',Ext Q U σ'->bT s' 3 (xs.take (3*i)++[x,y,z]++xs.drop (3*i)) σ' (Grow Q U)->R s' σ') :
 Wl.c s (i:Int) ⟨some ⟨vb,0,none⟩,1,1⟩ U R:=by
 refine Wl.o ?_;unfold Wl.v;have hxl:=h.1;have hcap:s.len<=s.cap:=by
  rcases h.2 with⟨h0,h0'⟩|⟨b,cs,_,_,_,M,_⟩
  ·omega
  ·exact M
 have W:Rd U (some ⟨vb,0,none⟩) [x,y,z]:=by
  intro j u hu;rw[add_lit,zH,hv.cell];exact hu
 have ho:∀v∈[x,y,z],dX v=true:=by simp[h2]
 refine jm O O O (cD rfl (cR (λZ=>?_) λZ=>?_))
 ·have hie:i=m:=by
   have:(i:Int)=((s.len:Nat):Int):=by simpa using Z
   omega
  refine h.app (ys:=[x,y,z]) rfl rfl W ho aD aD nr λs' h' hl' e' ho'=>hR s' h' e' ?_
  rw[lH O,Cp O,kC];exact ho'
 ·have hie:i<m:=by
   have:¬(i:Int)=((s.len:Nat):Int):=by simpa using Z
   omega
  obtain⟨b,cs,P,ha,E,M,H,ht⟩:∃b cs,Q b/\s.a=some ⟨b,0,none⟩/\bY U b cs/\s.len<=s.cap/\cs.length=s.cap*3/\cs.take xs.length=xs:=by
   rcases h.2 with⟨h0,_⟩|h
   ·omega
   ·exact h
  have G:vb≠b:=λe=>hvb (e▸P);have w:∀j v,xs[j]?=some v->cs[j]?=some v:=λj v p=>by
   rw[←ht,zm]at p;split at p
   ·exact p
   ·cases p
  refine cT (m:=m+1) aD O (cN (λhgt=>?_) λhle2=>?_)
  ·-- no room: a new row
   refine jm (lo:=0) O O O (cT (m:=m+1) aD O (cT (m:=m+1-i) O O ?_))
   have B:¬s.cap=0:=by omega
   rw[zB B];simp only[ha,ze,add_lit,uW,kA,Nat.sub_zero];refine⟨O,xs.take (3*i),by rw[zY];simp only;omega,?_,by simp[dX],by simp only;omega,by simp only;omega,O,λhin=>by simp only at hin;omega,λ_ cc J=>?_⟩
   ·intro j v p;rw[add_lit,zH,E.cell];rw[zm]at p;split at p
    ·exact w j v p
    ·cases p
   simp only[dG]at J ⊢;have hi1:i+(m+1-i)=m+1:=by omega
   rw[hi1]at J ⊢;refine nw λv2 hz2 e2 Y=>?_;have A:∀k,(List.replicate k [Value.int .i64 0,.int .i64 0,.pointer none]).flatten.length=3*k:=λk=>by
    rw[wu,wg,wy];simp;omega
   have g:(xs.take (3*i)).length=3*i:=by rw[zY];omega
   refine jm aD aD aD ?_
   have V:=e2.bV hv id;have n1:(if cc=i then(some ⟨U.size,0,none⟩:Option Addr)else(some ⟨U.size,0,none⟩:Option Addr).map (·.add (i*3)))=some ⟨U.size,i*3,none⟩:=by
    have:¬cc=i:=by omega
    rw[zB this];simp[add_lit]
   rw[n1];refine⟨[x,y,z],by simp only;rw[qv O];rfl,?_,ho,?_⟩
   ·intro j u hu;rw[add_lit,zH,V.cell];exact hu
   simp only;refine V8 (o:=i*3) (i:=0) Y (by simp only[zK,g,A,zS,lg];omega) λv3 o3 S=>?_;refine cT (m:=i+1) aD O (jm aD aD aD (jm O O O ?_))
   have K:bY v3 b cs:=WF o3 (e2.bV E id) (by have:=E.lt;omega);have d:(xs.drop (3*i)).length=3*(m-i):=by rw[kg];omega
   refine⟨xs.drop (3*i),by simp only;rw[qv O,d];omega,?_,λv hv=>h1 v (tK hv),?_⟩
   ·have r:¬s.cap=i:=by omega
    rw[zB r];simp only[ha,ze,add_lit];intro j v p;rw[add_lit,K.cell];rw[lu]at p;have:=w _ _ p;rw[show 0+i*3+j=3*i+j by omega];exact this
   have hbig:(xs.take (3*i)++(List.replicate (m+1-i) [Value.int .i64 0,.int .i64 0,.pointer none]).flatten++(List.replicate (cc-(m+1)) [Value.int .i64 0,.int .i64 0,.pointer none]).flatten).length=3*cc:=by
    simp only[zK,g,A];omega
   have tk:∀L:List Value,((xs.take (3*i)++(List.replicate (m+1-i) [Value.int .i64 0,.int .i64 0,.pointer none]).flatten++(List.replicate (cc-(m+1)) [Value.int .i64 0,.int .i64 0,.pointer none]).flatten).take (3*i))=xs.take (3*i):=λ_=>by
    rw[zl,oI O,lH O]
   have fin:∀v4,Kb v3 v4 U.size->bY v4 U.size ((xs.take (3*i)++[x,y,z])++xs.drop (3*i)++((xs.take (3*i)++(List.replicate (m+1-i) [Value.int .i64 0,.int .i64 0,.pointer none]).flatten++(List.replicate (cc-(m+1)) [Value.int .i64 0,.int .i64 0,.pointer none]).flatten).drop (3*i+3)).drop (3*(m-i)))->R ⟨some ⟨U.size,0,none⟩,m+1,cc⟩ v4:=by
    intro v4 o4 b4;refine hR _ v4 ?_ ⟨?_,.inr ⟨U.size,_,.inr (zD _),rfl,b4,by simp only;omega,?_,?_⟩⟩
    ·exact((e2.to.dW o3.ext λi hi=>by subst hi;exact .inr (zD _)).dW o4.ext λi hi=>by subst hi;exact .inr (zD _))
    ·simp only[zK,g,d,zS,lg];omega
    ·simp only[zK,g,d,zS,lg,kg,A];omega
    ·rw[zl (xs.take (3*i)++[x,y,z]),←zl,Al];rfl
   have e3:(xs.take (3*i)++(List.replicate (m+1-i) [Value.int .i64 0,.int .i64 0,.pointer none]).flatten++(List.replicate (cc-(m+1)) [Value.int .i64 0,.int .i64 0,.pointer none]).flatten).take (i*3+0)=xs.take (3*i):=by
    rw[show i*3+0=3*i by omega];exact tk []
   rw[e3]at S;have D:(xs.take (3*i)++[x,y,z]++(xs.take (3*i)++(List.replicate (m+1-i) [Value.int .i64 0,.int .i64 0,.pointer none]).flatten++(List.replicate (cc-(m+1)) [Value.int .i64 0,.int .i64 0,.pointer none]).flatten).drop (i*3+0 + [x,y,z].length)).length=3*cc:=by
    simp only[zK,kg,g,A,zS,lg];omega
   by_cases r:cc=i+1
   ·exfalso;omega
   ·rw[zB r];simp only[ze,add_lit,zH];refine V8 (o:=(i+1)*3) (i:=0) S (by rw[D,d];omega) λv4 o4 b4=>fin v4 o4 ?_;have q1:(i+1)*3+0=(xs.take (3*i)++[x,y,z]).length:=by rw[zK,g];simp;omega
    have q2:(i+1)*3+0+(xs.drop (3*i)).length=(xs.take (3*i)++[x,y,z]).length+3*(m-i):=by rw[d,q1]
    rw[q2,q1,Al,List.drop_append]at b4
    ·rw[Cp (show(xs.take (3*i)++[x,y,z]).length<=(xs.take (3*i)++[x,y,z]).length+3*(m-i) by omega),tu]at b4;have q3:i*3+0 + [x,y,z].length=3*i+3:=by simp;omega
     rw[q3]at b4;have q4:(xs.take (3*i)++[x,y,z]).length+3*(m-i)-(xs.take (3*i)++[x,y,z]).length=3*(m-i):=by omega
     rw[q4]at b4;exact b4
    ·rfl
  ·-- room: the rest moves
   have hle3:m+1<=s.cap:=by omega
   have B:¬s.cap=0:=by omega
   have r:¬s.cap=i:=by omega
   refine cT (m:=m+1) aD O (jm (lo:=0) O O O ?_)
   rw[zB B];simp only[ha,ze,add_lit,uW,kA,Nat.sub_zero];refine cT (m:=i+1) aD O (jm aD aD aD ?_)
   have C:cs.take (3*m)=xs:=by rw[←hlen,show 3*s.len=xs.length by omega];exact ht
   have X:∃o',(if s.cap=i+1 then(some ⟨b,0,none⟩:Option Addr)else(some ⟨b,0,none⟩:Option Addr).map (·.add ((i+1)*3)))=some ⟨b,o',none⟩:=by
    split
    ·exact⟨0,rfl⟩
    ·exact⟨_,by simp[add_lit];rfl⟩
   obtain⟨o',X⟩:=X;refine R6 (x:=⟨some ⟨vb,0,none⟩,1,1⟩) (a:=vb) (o:=0) (b:=b) rfl X hv E G (λe=>by rw[e]at H;simp at H;omega) (cF rfl ?_);refine cT (m:=i+1) aD O (jm aD aD aD (jm aD aD aD ?_))
   have N:¬s.cap=i+1:=by omega
   rw[zB N,zB r];simp only[ze,add_lit,zH];have d:(xs.drop (3*i)).length=3*(m-i):=by rw[kg];omega
   refine⟨xs.drop (3*i),by simp only;rw[Nat.min_eq_right O,d];omega,?_,λv hv=>h1 v (tK hv),?_⟩
   ·intro j v p;rw[add_lit,E.cell];rw[lu]at p;have:=w _ _ p;rw[show i*3+j=3*i+j by omega];exact this
   refine V8 (o:=(i+1)*3) (i:=0) E (by rw[d];omega) λv3 o3 S=>?_;refine jm aD aD aD ?_
   rw[zB r];simp only[ze,add_lit,zH];have hv3:=WF o3 hv G;refine⟨[x,y,z],by simp only;rw[qv O];rfl,?_,ho,?_⟩
   ·intro j u hu;rw[add_lit,zH,hv3.cell];exact hu
   have hl3:(cs.take ((i+1)*3+0)++xs.drop (3*i)++cs.drop ((i+1)*3+0+(xs.drop (3*i)).length)).length=cs.length:=by
    simp only[zK,zY,kg,d];omega
   refine V8 (o:=i*3) (i:=0) S (by rw[hl3];simp;omega) λv4 o4 b4=>?_;have a1:(cs.take ((i+1)*3+0)).length=3*i+3:=by rw[zY];omega
   have g:(xs.take (3*i)).length=3*i:=by rw[zY];omega
   have p1:(cs.take ((i+1)*3+0)++xs.drop (3*i)++cs.drop ((i+1)*3+0+(xs.drop (3*i)).length)).take (i*3+0)=xs.take (3*i):=by
    rw[zl,oI O,yr,qv O,←C,yr,qv O]
    congr 1;omega
   have p2:(cs.take ((i+1)*3+0)++xs.drop (3*i)++cs.drop ((i+1)*3+0+(xs.drop (3*i)).length)).drop (i*3+0 + [x,y,z].length)=xs.drop (3*i)++cs.drop ((i+1)*3+0+(xs.drop (3*i)).length):=by
    rw[zl,List.drop_left'];rw[a1];simp;omega
   rw[p1,p2,←zl]at b4;refine hR _ v4 ((Ext.eV (F:=Q) o3 P).trans (Ext.eV o4 P)) ⟨?_,.inr ⟨b,_,.inl P,rfl,b4,aD,?_,?_⟩⟩
   ·simp only[zK,g,zS,lg,d];omega
   ·simp only[zK,g,kg,zS,lg,d];omega
   ·rw[Al];rfl
def ZJ (ss:List cH)(st:Nat):Nat:=(ss.takeWhile (λs=>s.st<st)).length
theorem GU (l:List cH)(P:cH->Bool):l.takeWhile P=l.take (l.takeWhile P).length/\l.dropWhile P=l.drop (l.takeWhile P).length:=by
 induction l with
 | nil=>simp
 | cons x l ih=>
  simp only[List.takeWhile_cons,List.dropWhile_cons];cases P x
  ·simp
  ·simp only[zT,zS,vL,vX];exact⟨by rw[←ih.1],ih.2⟩
theorem wA (c:cA)(ss:List cH)(st:Nat):iu c ss st=ss.take (ZJ ss st)++⟨st,List.replicate c.n false⟩::ss.drop (ZJ ss st):=by
 have:=GU ss (λs=>decide (s.st<st));unfold iu ZJ;rw[this.2,←this.1]
theorem GB (hs:ss.Pairwise (λa b=>a.st<b.st))(st:Nat):ZJ ss st<=ss.length/\∀(i:Nat) s,ss[i]?=some s->(s.st<st↔i<ZJ ss st):=by
 unfold ZJ
 induction ss with
 | nil=>simp
 | cons x ss ih=>
  have d:=sF.1 hs;obtain⟨j,g⟩:=ih d.2;simp only[List.takeWhile_cons];by_cases hx:x.st<st
  ·simp only[hx,decide_true,zT,zS];refine⟨O,λi s hi=>?_⟩;cases i with
   | zero=>simp at hi;subst hi;simp[hx]
   | succ i=>have:=g i s (by simpa using hi);omega
  ·simp only[hx,decide_false,za,jR,lg,Nat.zero_le,Nat.not_lt_zero,iff_false,tU];intro i s hi;cases i with
   | zero=>simp at hi;subst hi;exact hx
   | succ i=>
    have:=d.1 s (zG (i:=i) (by simpa using hi));omega
theorem MM (h:fH U F p c ps ss){σ1:Hp}(e1:aF U σ1){sl:Sl}{rb:Nat}{cs:List Value}(hl:sl.len=ss.length)(hE:ss≠[]->tg U F p ps ss sl rb cs)(st:Nat)(hst:st<=1024){R:Int->Bool->Hp->Prop}(hR:∀σ' b,aF σ1 σ'->R (ZJ ss st:Int) b σ') :
 Wc.c sl (st:Int) ⟨292,#[],#[]⟩ σ1 R:=by
 refine Wc.o ?_;unfold Wc.v;have Q:=h.qm;obtain⟨M,kj⟩:=GB h.rO st;have C:∀(k:Nat) (x:Nat×Nat) s (v:Hp) (K:aN),ps[k]?=some x->ss[k]?=some s->aF σ1 v->(∀z,aF v z->K ((s.st:Int)-(st:Int)) z) →
  VQ Tryz.prog ⟨292,#[],#[]⟩ [.agg #[.int .i64 (s.many:Int),.int .i64 (s.st:Int),.pointer (some ⟨x.1,0,none⟩)],.int .i64 (st:Int)] [.one bO] v K:=by
  intro k x s v K y r ev hK;refine Gy (all := #[.agg #[.int .i64 (s.many:Int),.int .i64 (s.st:Int),.pointer (some ⟨x.1,0,none⟩)],.int .i64 (st:Int)]) (by kernel_rfl) aA ?_;refine Y1.o ?_;unfold Y1.v;have hf:=(h.sp k x s y r).fit;refine nw (cs:=[.int .i64 (s.many:Int),.int .i64 (s.st:Int),.pointer (some ⟨x.1,0,none⟩)]) λX hz e H=>H.fD rfl (ar O O (hK X e))
 refine Uo (a:=bO) (bb:=bO) (λ(i j:Int) v=>∃a b:Nat,i=(a:Int)/\j=(b:Int)/\a<=ZJ ss st/\ZJ ss st<=b/\b<=ss.length/\aF σ1 v) (λi j _=>j.toNat-i.toNat) ⟨0,ss.length,rfl,by rw[hl],O,M,O,Ext.refl _ _⟩ ?_;rintro i j v ⟨a,b,rfl,rfl,Z,H,D,ev⟩;have A:aF U v:=e1.trans ev;refine cN (λW=>?_) λhge=>?_
 ·have w:ss≠[]:=by rintro rfl;simp at D;omega
  have E:=hE w;refine cT (m:=a+b) O O ?_;have hw:IntKind.u64.wrap ((a+b:Nat):Int)=((a+b:Nat):Int):=by
   unfold IntKind.wrap;simp[IntKind.bits,IntKind.signed];omega
  refine vY ?_;rw[hw];refine nn O ?_;have J:min (1:Int).toNat IntKind.u64.bits=1:=by decide
  rw[J,BJ];have B:(((a+b:Nat):Int)/2^1)=(((a+b)/2:Nat):Int):=by omega
  refine cT (m:=(a+b)/2) B O ?_;have d:(a+b)/2<ss.length:=by omega
  obtain⟨x,s,y,r,Y⟩:=h.jO d;have u:=Ks y r;rw[E.a];refine ix O O ?_;rw[add_lit,show 0+(((a+b)/2:Nat):Int).toNat*3=3*((a+b)/2) by omega];refine xJ (e:=0) (A.bV E.bV id) (E.get u.1) (E.get u.2.1) (E.get u.2.2) (C _ x s v _ y r ev λz G=>?_);have g:=kj _ s r;show If (decide (((s.st:Int)-(st:Int))<0)) _ _;refine cN (λP=>?_) λN=>?_
  ·exact cT (m:=(a+b)/2+1) O O ⟨⟨_,b,rfl,rfl,by have:=g.1 O;omega,H,D,ev.trans G⟩,O⟩
  ·exact⟨⟨a,_,rfl,rfl,Z,by
    apply Classical.byContradiction;intro hc;have:=g.2 O;omega,O,ev.trans G⟩,O⟩
 ·have L:a=ZJ ss st:=by omega
  subst L;refine bX.intro (cN (λS=>?_) λV=>hR v _ ev);have d:ZJ ss st<ss.length:=by omega
  have w:ss≠[]:=by rintro rfl;simp at d
  have E:=hE w;obtain⟨x,s,y,r,Y⟩:=h.jO d;have u:=Ks y r;rw[E.a];refine ix O O ?_;rw[add_lit,show 0+(ZJ ss st:Int).toNat*3=3*ZJ ss st by omega];refine xJ (e:=0) (A.bV E.bV id) (E.get u.1) (E.get u.2.1) (E.get u.2.2) (C _ x s v _ y r ev λz G=>hR z _ (ev.trans G))
theorem WmY (h:fH U F p c ps ss){st:Nat}(hf:st+c.aG<=1024){R:aN}(h9:ot c ss st=9->∀σ',aF U σ'->R 9 σ')
 (h0:ot c ss st=0->∀σ' ps',Ext F U σ'->fH σ' (Grow F U) p c ps' (iu c ss st)->R 0 σ'):Zc.c (aW p) (st:Int) U R:=by
 refine Zc.o ?_;unfold Zc.v;have h:=fH.loc.cut h;obtain⟨sl,d,hl,ag,rb,cs,hE⟩:=h.nk;have hfew:=h.qm;have hc:=h.ok;have hck:=hc;unfold cA.ok at hck;refine Uz h (cD rfl (bL (d.fD rfl (d.fD rfl (d.fD rfl ?_)))));refine PU hc hf λv1 D M e1 hpn hqn X=>cD rfl (bL ((e1.bV d id).rS rfl ?_));have hplt:=d.lt;refine Qj (a:=bO) (λ(t:Int) v=>∃i:Nat,t=(i:Int)/\i<=ss.length/\aF v1 v/\∀(j:Nat) s,j<i->ss[j]?=some s->¬max s.st st-min s.st st<c.aG) (λt _=>ss.length-t.toNat) ⟨0,rfl,O,Ext.refl _ _,λj s z=>O⟩ ?_;rintro t v ⟨i,rfl,hi,ev,V⟩;have u:=e1.trans ev;refine cN (λab=>?_) λhge=>?_
 ·simp only at ab;have ae:i<ss.length:=by omega
  obtain⟨E,hcap,hcl⟩:=hE (by rintro rfl;simp at ae);obtain⟨x,s,y,g,hS⟩:=h.jO ae;have eg:=Ks y g;have hsf:=hS.fit;rw[E.a];refine ix O O ?_;rw[add_lit,show 0+(i:Int).toNat*3=3*i by omega];refine xJ (e:=0) (u.bV E.bV id) (E.get eg.1) (E.get eg.2.1) (E.get eg.2.2) (II λv6 e6 b6=>b6.fD rfl (b6.fD rfl ?_));have hd:(if(st:Int)>(s.st:Int)then(st:Int)else(s.st:Int))-(if(st:Int)<(s.st:Int)then(st:Int)else(s.st:Int))=((max s.st st-min s.st st:Nat):Int):=by
   split<;>split<;>omega
  refine cT (m:=max s.st st-min s.st st) hd O (bL (((u.trans e6).bV d id).fD rfl ?_));refine cN (λhlt2=>h9 ?_ _ (u.trans e6)) λhge2=>?_
  ·unfold ot;rw[zC];exact zy.2 ⟨s,zG g,by simpa using(by omega:max s.st st-min s.st st<c.aG)⟩
  ·refine cT (m:=i+1) O O ⟨⟨i+1,rfl,O,ev.trans e6,λj s' z N=>?_⟩,O⟩;by_cases e:j=i
   ·subst e;rw[g]at N;cases N;omega
   ·exact V j s' O N
 ·have hii:i=ss.length:=by simp only at hge;omega
  subst hii;have hE0:ot c ss st=0:=by
   unfold ot;rw[zB];simp only[qY,mn,zV];intro s g;obtain⟨j,z⟩:=zP g;exact V j s (cX.1 z).1 z
  refine bL ((u.bV d id).rS rfl ?_);refine MM h u hl (λS=>(hE S).1) st O λv7 bb e7=>bL (((u.trans e7).bV d id).rS rfl ?_);have ai:=u.trans e7;obtain⟨hp1,kj⟩:=GB h.rO st;refine nw (cs:=[.int .i64 0,.int .i64 st,.pointer (some ⟨D,0,none⟩)]) λv8 hz8 e8 hb8=>?_;have H:=ai.trans e8;have W:=aI.bP ag H;have hsz7:=ai.1;refine PV W hl O hp1 hb8 (λw=>by have:=w.1.2;omega) JS ⟨rfl,rfl,rfl⟩ λs' v9 e9 hr9=>bL ?_;have hb9:=e9.bV (H.bV d id) λw=>w.2.1 rfl;refine hb9.s1 aA λY gA aa=>?_;have J:=h.len;have C:=h.nd;simp only[zr]at C;have ab:=X.lt;have hsz1:=(ev.trans e7).trans e8 |>.1;have A:∀b∈eC ps,b<U.size:=λb d=>(h.fb b d).2;have ad:∀{a b s'},ic v8 a b c s'->¬(Cut F U a/\a≠p/\a∉eC ps)->¬(Cut F U b/\b≠p/\b∉eC ps)->a≠p->b≠p->ic Y a b c s':=λhS n1 n2 m1 m2=>(hS.bS e9 n1 n2).bS gA.ext m1 m2;have ac:=((X.bP ev).bP e7).bP e8;have af:dU (ps.take (ZJ ss st)++(D,M)::ps.drop (ZJ ss st)) (ss.take (ZJ ss st)++⟨st,List.replicate c.n false⟩::ss.drop (ZJ ss st)) =
   (dU ps ss).take (3*ZJ ss st)++[.int .i64 0,.int .i64 st,.pointer (some ⟨D,0,none⟩)]++(dU ps ss).drop (3*ZJ ss st):=by
   rw[VJ (by simp[J])];have r:dU ps ss=dU (ps.take (ZJ ss st)) (ss.take (ZJ ss st))++dU (ps.drop (ZJ ss st)) (ss.drop (ZJ ss st)):=by
    rw[←VJ (by simp[J]),nY,nY]
   have Z:(dU (ps.take (ZJ ss st)) (ss.take (ZJ ss st))).length=3*ZJ ss st:=by rw[KE (by simp[J]),zY];omega
   rw[r,Al Z,List.drop_left' Z,zl];have:cH.many ⟨st,List.replicate c.n false⟩=0:=by simp[cH.many,yQ]
   simp[dU,this]
  refine h0 hE0 Y (ps.take (ZJ ss st)++(D,M)::ps.drop (ZJ ss st)) ?_ ?_
  ·refine(((aF.to H).trans (e9.sub λb d=>d.1.1))).trans (gA.ext.sub λb d=>d▸h.fp.1)
  ·have B:(eC (ps.take (ZJ ss st)++(D,M)::ps.drop (ZJ ss st))).Perm (D::M::eC ps):=by
    have:eC ps=eC (ps.take (ZJ ss st))++eC (ps.drop (ZJ ss st)):=by
     conv=>lhs;rw[←nY (ZJ ss st) ps]
     simp only[eC,List.flatMap_append]
    rw[this];have h3:eC (ps.take (ZJ ss st)++(D,M)::ps.drop (ZJ ss st))=eC (ps.take (ZJ ss st))++D::M::eC (ps.drop (ZJ ss st)):=by simp[eC]
    rw[h3];exact List.perm_middle.trans ((List.perm_middle).cons D)
   have P:∀b,b∈eC (ps.take (ZJ ss st)++(D,M)::ps.drop (ZJ ss st))↔b=D\/b=M\/b∈eC ps:=by
    intro b;rw[B.mem_iff];simp
   refine⟨⟨s',aa,?_⟩,λi x s y g=>?_,.inl h.fp.1,λb d=>?_,?_,?_,hc,?_⟩
   ·rw[wA,af];refine aI.bS (aI.mono hr9 λb _ d=>?_) gA.ext λb _ d he=>d.2.1 he;rw[P];rcases d with d|d
    ·exact⟨.inl d.1.1,d.2.1,λw=>by
      rcases w with h|h|h
      ·have:=d.1.2;omega
      ·have:=d.1.2;omega
      ·exact d.2.2 h⟩
    ·exact⟨.inr O,O,λw=>by
      rcases w with h|h|h
      ·omega
      ·omega
      ·have:=A b h;omega⟩
   ·rw[wA]at g;have L:(ps.take (ZJ ss st)).length=ZJ ss st:=by rw[zY];omega
    have K:(ss.take (ZJ ss st)).length=ZJ ss st:=by rw[zY];omega
    have ah:∀j:Nat,ps[j]?=some x->ss[j]?=some s->ic Y x.1 x.2 c s:=λj r Z=>by
     have G:=Q1 r;exact ad ((h.sp j x s r Z).bP H) (λw=>w.2.2 G.1) (λw=>w.2.2 G.2) (λe=>C.1 (e▸G.1)) (λe=>C.1 (e▸G.2))
    rcases qn i (ZJ ss st)with hlt'|heq|hgt
    ·rw[zd O,zm,zC hlt']at y g;exact ah i y g
    ·rw[zp O]at y g;rw[L,heq,pH]at y;rw[K,heq,pH]at g;simp at y g;subst y;subst g;exact ad ac (λw=>by have:=w.1.2;simp only at this;omega) (λw=>by have:=w.1.2;simp only at this;omega) aC aC
    ·rw[zp O]at y g;rw[L]at y;rw[K]at g;obtain⟨k,hk⟩:∃k,i-ZJ ss st=k+1:=⟨i-ZJ ss st-1,O⟩;rw[hk,yH,lu]at y g;exact ah _ y g
   ·rcases(P b).1 d with r|r|r
    ·subst r;exact .inr hpn
    ·subst r;exact .inr hqn
    ·exact .inl (h.fb b r).1
   ·simp only[zr];refine⟨λG=>?_,?_⟩
    ·rcases(P p).1 G with r|r|r
     ·omega
     ·omega
     ·exact C.1 r
    ·rw[B.nodup_iff];simp only[zr,zW,not_or];have S:=X.ne;exact⟨⟨S,λG=>by have:=A _ G;omega⟩,λG=>by have:=A _ G;omega,C.2⟩
   ·rw[wA];simp[J]
   ·rw[wA];rw[qE];have Q:=h.rO;refine⟨Q.sublist (Dw _ _),sF.2 ⟨λs g=>?_,Q.sublist (List.drop_sublist _ _)⟩,λa ha b d=>?_⟩
    ·obtain⟨j,z⟩:=zP g;rw[lu]at z;have r:=kj _ s z;have Z:s.st≠st:=λe=>by
      have:=V (ZJ ss st+j) s (cX.1 z).1 z;rw[e]at this;simp at this;omega
     show st<s.st;omega
    ·obtain⟨i,hi⟩:=zP ha;rw[zm]at hi;split at hi
     ·rename_i hlt';have hat:=(kj i a hi).2 hlt';rcases zW.1 d with rfl|d
      ·exact hat
      ·obtain⟨j,z⟩:=zP d;rw[lu]at z;obtain⟨hi1,hi2⟩:=cX.1 hi;obtain⟨hj1,hj2⟩:=cX.1 z;have:=mu.1 Q i (ZJ ss st+j) hi1 hj1 O;rw[hi2,hj2]at this;exact this
     ·cases hi
end Go.Ar
namespace Go.Proofs
open Go.Vc
set_option maxRecDepth 100000
def XA.h:Hn:=.q .o1 (.q (.cU (.seq [.op,.op,.op,.cY true 5 (RI.ops 5),.op])) .l)
def XA.v (a:R2)(b:Hp)(c:aO):Prop:=bX (λd e=>c d e) λf=>If (!a.isNone) (bE a 0 b λh=>f (decide (h>0)) b) (f false b)
theorem XA.o {a b c}(d:XA.v a b c):XA.c a b c:=Wa Tryz.func199 (x:=XA.h) (R0 d)
def Qk.h:Hn:=.q .o2 (.q (.q (.cU (.seq [.op,.op,.op,.cY false 2 [.op,.op],.op,.cY false 2 [.op,.op],.op,.cY false 2 [.op,.op]])) .aJ) (.q .o6 .l))
def Qk.v (a b:Int)(c:Hp)(d:Option Addr->Int->Hp->Prop):Prop:=bX (λe f=>bX (λg h=>bX (λi j=>If i (d none 1 j) (aV #[.I a,.I b,.I 0,.slice none 0 0] 283 j λk l=>d (some k) 0 l)) λm=>If g (m true h) (m (decide (b>8)) h)) λn=>If e (n true f) (n (decide (b<0)) f)) λo=>If (a<1) (o true c) (o (decide (a>32)) c)
theorem Qk.o {a b c d}(e:Qk.v a b c d):Qk.c a b c d:=Wa Tryz.func213 (x:=Qk.h) (R0 e)
def WV.h:Hn:=.q .o2 (.q (.k (.q .o4 (.c .aL (.q .o7 .aJ)))) (.q .o7 (.q .o8 (.q .gA (.q .gA (.q .o3 .l))))))
def WV.v (a:R2)(b:Hp)(c:Sl->Int->Hp->Prop):Prop:=XA.c a b λd e=>If (!d) (c ⟨none,0,0⟩ 5 e) (bF a 3 e λg=>If (((g.len:Nat):Int)==0) (c ⟨none,0,0⟩ 4 e) (bF a 3 e λi=>bM (((i.len:Nat):Int)-1) λj=>bF a 3 e λl=>Ix l.a l.len j 1 λm=>jH m e λn=>bF a 3 e λp=>fF p 1 0 j (p.cap:Nat) λq=>bW a λr=>aR r 3 (.slice q.a q.len q.cap) e λs=>bE a 2 s λu=>bW a λv=>aR v 2 (.I (if j<u then j else u)) s λw=>c n 0 w))
theorem WV.o {a b c}(d:WV.v a b c):WV.c a b c:=Wa Tryz.func232 (x:=WV.h) (R0 d)
def Xs.h:Hn:=.q .o2 (.q (.k (.q .o4 (.c .aL (.q .o8 (.c .aL (.q (.oq 11) .aJ)))))) (.q (.cU (.held true [8,11] (.tk [0,1,2,3,4,5] (.all [(6,.all [(7,.all [(8,.take 9 (.take 10 (.all [(11,.done)])))])])])))) .aL))
def Xs.v (a:R2)(b:Sl)(c:Hp)(d:Bool->Int->Hp->Prop):Prop:=XA.c a c λe f=>If (!e) (d false 5 f) (bE a 0 f λh=>If (((b.len:Nat):Int) != h) (d false 1 f) (bF a 3 f λj=>bE a 1 f λl=>If (((j.len:Nat):Int)≥l) (d false 0 f) (dS f λm=>bW a λn=>aT m n 3 λo=>W4.c b f λp q=>And (m q) <| aV #[.slice p.a p.len p.cap] 31 q λr s=>And (m s) <| App o 1 24 31 [.slice none 0 0] ⟨some r,1,1⟩ s λt u=>bW a λv=>aR v 3 (.slice t.a t.len t.cap) u λw=>d true 0 w)))
theorem Xs.o {a b c d}(e:Xs.v a b c d):Xs.c a b c d:=Wa Tryz.func300 (x:=Xs.h) (R0 e)
end Go.Proofs
namespace Go.Ar
open Go Go.Vc Go.Proofs
variable {U:Hp}{F:Rg}{p batch room:Nat}{t:gO}
def qg (s:Sl):Value:=.slice s.a s.len s.cap
def Wu (xs:List Int):List Value:=xs.map (Value.int .i64)
theorem Uf {l:List Int}:∀v∈Wu l,dX v=true:=by
 intro v hv;simp only[Wu,zE]at hv;obtain⟨x,_,rfl⟩:=hv;rfl
def rm (sls:List Sl)(bs:List (List Int))(U:Hp)(D:Rg):Prop:=sls.length=bs.length/\∀(i:Nat) s xs,sls[i]?=some s->bs[i]?=some xs->cV s 1 (Wu xs) U D/\s.len<=s.cap
theorem rm.loc (sls:List Sl)(bs:List (List Int)):dO (rm sls bs):=λU m F G h g j=>⟨h.1,λi s a d b=>⟨cV.loc _ _ _ _ _ _ _ (h.2 i s a d b).1 g j,(h.2 i s a d b).2⟩⟩
def Dj (sls:List Sl):Prop:=sls.Pairwise λs t=>∀a a',s.a=some a->t.a=some a'->a.block≠a'.block
def kS (s:Sl)(b:Nat):Prop:=∃a,s.a=some a/\a.block=b
theorem _root_.Go.Vc.cV.mh {s:Sl}{sz:Nat}{xs:List Value}{D:Rg}(h:cV s sz xs U D):cV s sz xs U λb=>D b/\kS s b:=
 ⟨h.1,h.2.imp id λ⟨b,o,g,d,a,r⟩=>⟨b,o,g,⟨d,_,a,rfl⟩,a,r⟩⟩
theorem _root_.Go.Vc.cV.bV {s:Sl}{sz:Nat}{xs:List Value}{D:Rg}(h:cV s sz xs U D)(hx:xs≠[]){b:Nat}(hb:kS s b):D b/\b<U.size:=by
 rcases h.2 with h0|⟨b',o,cs,hq,ha,hc,_⟩
 ·exact absurd h0 hx
 ·obtain⟨a,d,rfl⟩:=hb;rw[ha]at d;cases d;exact⟨hq,hc.lt⟩
theorem Dj.snoc {sls:List Sl}{bs:List (List Int)}{D:Rg}{z:Nat}{s':Sl}{xs:List Value}{v:Hp}(h:Dj sls)(hB:rm sls bs U D)(hne:∀xs∈bs,xs≠[])(hz:∀b,D b->b<z)(hs:bT s' 1 xs v λb=>z<=b)(hx:xs≠[]):Dj (sls++[s']):=by
 refine qE.2 ⟨h,List.pairwise_singleton _ _,λs g u m a x w r=>?_⟩;rw[zN]at m;subst m;obtain⟨i,hi⟩:=zP g;have j:=(cX.1 hi).1;have d:bs[i]?=some (bs[i]'(by rw[←hB.1];exact j)):=cW _;have p:=((hB.2 i s _ hi d).1.bV (by simp only[Wu,ne_eq,Aw];exact hne _ (zG d)) ⟨a,w,rfl⟩).1;have y:=(hs.fW.bV hx ⟨x,r,rfl⟩).1;have:=hz _ p;omega
structure iT (U:Hp) (F:Rg) (p batch room:Nat) (t:gO):Prop where
 mem:∃(sl:Sl) (sls:List Sl) (D:Rg),bY U p [.int .i64 (batch:Int),.int .i64 (room:Int),.int .i64 (t.low:Int),.slice sl.a sl.len sl.cap]/\bT sl 1 (sls.map qg) U (λb=>F b/\b≠p/\¬D b)/\rm sls t.bs U D/\(∀b,D b->F b/\b≠p)/\Dj sls
 fp:F p
 b1:1<=batch/\batch<=32
 r1:room<=8
 qm:t.bs.length<=room
 low:t.low<=t.bs.length
 all:∀xs∈t.bs,xs.length=batch
theorem iT.loc:dO λU F=>iT U F p batch room t:=λU x F G h m d=>by
 obtain⟨sl,i,D,a,u,s,j,w⟩:=h.mem;refine⟨⟨sl,i,λb=>D b/\b<U.size,?_,?_,?_,λb a=>⟨(d b a.2 (j b a.1).1).1,(j b a.1).2⟩,w⟩,(d p a.lt h.fp).1,h.b1,h.r1,h.qm,h.low,h.all⟩
 ·obtain⟨e,r⟩:=a;exact⟨e,(d p (bY.lt ⟨e,r⟩) h.fp).2.trans r⟩
 ·exact bT.loc _ _ _ _ _ _ _ u m λb a g=>⟨⟨(d b a g.1).1,g.2.1,λhd=>g.2.2 hd.1⟩,(d b a g.1).2⟩
 ·exact rm.loc _ _ _ _ _ _ s m λb a hd=>⟨⟨hd,a⟩,(d b a (j b hd).1).2⟩
theorem iT.bP {σ':Hp}(h:iT U F p batch room t)(e:aF U σ'):iT σ' F p batch room t:=dO.bP iT.loc h e
theorem Dl (h:iT U F p batch room t){R:aO}(hR:R true U):XA.c (aW p) U R:=by
 refine XA.o ?_;unfold XA.v;obtain⟨sl,b,D,a,_⟩:=h.mem;have:=h.b1;refine bX.intro (cF rfl (bL (a.rI rfl ?_)));rw[zI O];exact hR
theorem _root_.Go.Vc.cV.SV {s:Sl}{F:Rg}{sls:List Sl}(h:cV s 1 (sls.map qg) U F){i:Nat}{x:Sl}(hx:sls[i]?=some x){K:Sl->Prop}(hK:K x):Ix s.a s.len (i:Int) 1 λa=>jH a U K:=by
 have hi:=(cX.1 hx).1;obtain⟨b,o,m,d⟩:=h.cell (j:=i) (v:=qg x) (by simp[hx]);have g:=h.1;rw[zk]at g;rw[m];refine ix O O ?_;rw[add_lit];exact oz (by simpa[qg]using d) hK
theorem Pq (h1:1<=batch)(h2:batch<=32)(h3:room<=8){R:Option Addr->Int->Hp->Prop}(hR:∀σ' p,aF U σ'->U.size<=p->p<σ'.size->iT σ' (· = p) p batch room ⟨0,[]⟩->R (some ⟨p,0,none⟩) 0 σ'):Qk.c batch room U R:=by
 refine Qk.o ?_;unfold Qk.v;refine bX.intro (gg O (bX.intro (gg O (bX.intro (gg O (gg O ?_))))));refine nw (cs:=[.int .i64 batch,.int .i64 room,.int .i64 0,.slice none 0 0]) λv d e a=>?_;exact hR v _ e (zD _) O ⟨⟨⟨none,0,0⟩,[],λ_=>False,a,bT.nil _ _ _ _,⟨rfl,λi s g h=>by simp at h⟩,λb h=>h.elim,List.Pairwise.nil⟩,rfl,⟨h1,h2⟩,h3,by simp,by simp,by simp⟩
theorem RQ (h:iT U F p batch room t){sl:Sl}{xs:List Int}{X:Rg}(hs:cV sl 1 (Wu xs) U X)(hl:xs.length<=1000000){R:Bool->Int->Hp->Prop}(h1:xs.length≠batch->R false 1 U)(h2:xs.length=batch->room<=t.bs.length->R false 0 U)
 (h3:xs.length=batch->t.bs.length<room->∀σ',Ext F U σ'->iT σ' (Grow F U) p batch room {t with bs:=t.bs++[xs]}->R true 0 σ'):Xs.c (aW p) sl U R:=by
 refine Xs.o ?_;unfold Xs.v;have h:=iT.loc.cut h;obtain⟨B,y,D,d,hr,x,J,hJ⟩:=h.mem;have r:sl.len=xs.length:=by have:=hs.1;simp[Wu]at this;omega
 have hso:B.len=t.bs.length:=by have:=hr.1;rw[zk,x.1]at this;omega
 have hr8:=h.r1;have hb1:=h.b1;refine Dl h (cD rfl (bL (d.rI rfl ?_)));rw[r7];refine cR (λz=>h1 (by rw[←r];simpa using z)) λS=>?_;have g:xs.length=batch:=by rw[←r];simpa using S
 refine bL (d.rS rfl (bL (d.rI rfl (cN (λZ=>h2 g (by simp only at Z;omega)) λK=>?_))));simp only at K;refine⟨λh'=>bY h' p [.int .i64 (batch:Int),.int .i64 (room:Int),.int .i64 (t.low:Int),.slice B.a B.len B.cap],d,bL ⟨B,λh' Q=>by rw[add_lit,Q.cell];rfl,?_⟩⟩;refine HE hs Uf O λw v1 hl1 e1 A=>⟨e1.bV d id,?_⟩;refine nw (cs:=[.slice w.a w.len w.cap]) λv2 hz2 e2 L=>⟨(e1.trans e2).bV d id,?_⟩;have M:=aI.bP (aI.bP hr e1) e2;refine M.app (ys:=[qg w]) rfl rfl ?_ (by simp[dX,qg]) ?_ ?_ nr λs2 v3 hl3 V Y=>bL ?_
 ·intro j u hu;rw[add_lit,zH,L.cell];exact hu
 ·simp only;have:(B.len+1)*24<=9*24:=my O O;omega
 ·simp only;omega
 ·have N:=V.bV ((e1.trans e2).bV d id) λC=>C.2.1 rfl;have hplt:=d.lt;have hs1:=e1.1;refine N.s1 aA λv4 o4 W=>h3 g O v4 ?_ ?_
  ·exact((aF.to (e1.trans e2)).trans (V.sub λb d=>d.1.1)).trans (o4.ext.sub λb d=>d▸h.fp.1)
  ·refine⟨⟨s2,y++[w],λb=>D b/\b<U.size\/U.size<=b/\b<v1.size,W,?_,⟨by simp[x.1],λi s ys hi m=>?_⟩,λb d=>?_,?_⟩,.inl h.fp.1,h.b1,h.r1,by simp;omega,by have:=h.low;simp;omega,λys m=>?_⟩
   ·rw[zj];refine aI.bS (aI.mono Y λb _ d=>?_) o4.ext λb _ d P=>d.2.1 P;rcases d with d|d
    ·exact⟨.inl d.1.1,d.2.1,λhd=>by
      rcases hd with hd|hd
      ·exact d.2.2 hd.1
      ·have:=d.1.2;omega⟩
    ·exact⟨.inr O,O,λhd=>by rcases hd with hd|hd<;>omega⟩
   ·have mv:∀{s:Sl} {ys:List Int} {G:Rg},cV s 1 (Wu ys) v2 G->(∀b,G b->b≠p/\¬(Cut F U b/\b≠p/\¬D b))->cV s 1 (Wu ys) v4 G:=λQ hn=>
     aH.bS (aH.bS Q V λb _ d=>(hn b d).2) o4.ext λb _ d P=>(hn b d).1 P
    rcases ko i y.length with hi'|hi'
    ·rw[zd hi']at hi;rw[zd (by rw[←x.1];exact hi')]at m;obtain⟨k1,k2⟩:=x.2 i s ys hi m;refine⟨aH.mono (mv (aH.bP (aH.bP (aH.mono k1 (G:=λb=>D b/\b<U.size) λb d hd=>⟨hd,d⟩) e1) e2) λb hd=>⟨(J b hd.1).2,λC=>C.2.2 hd.1⟩) λb _ hd=>.inl hd,k2⟩
    ·rw[zp hi']at hi;rw[zp (by rw[←x.1];exact hi')]at m;have E:i-y.length=0:=by
      have:=(cX.1 hi).1;simp at this;omega
     rw[E]at hi;rw[show i-t.bs.length=0 by rw[←x.1];exact E]at m;simp at hi m;subst hi;subst m;have H:w.len<=w.cap:=by
      rcases A.2 with⟨q1,q2⟩|⟨_,_,_,_,_,q,_⟩
      ·omega
      ·exact q
     refine⟨aH.mono (mv (aH.bP (aH.mono A.fW (G:=λb=>U.size<=b/\b<v1.size) λb d hd=>⟨hd,d⟩) e2) λb hd=>⟨O,λC=>by have:=C.1.2;omega⟩) λb _ hd=>.inr hd,H⟩
   ·rcases d with hd|hd
    ·exact⟨.inl (J b hd.1).1.1,(J b hd.1).2⟩
    ·exact⟨.inr hd.1,O⟩
   ·have z:∀ys∈t.bs,ys≠[]:=λys m e=>by have:=iT.all ‹_› ys m;rw[e]at this;simp at this;omega
    exact hJ.snoc x z (λb hd=>(J b hd).1.2) A (by simp only[Wu,ne_eq,Aw];intro e;rw[e]at g;simp at g;omega)
   ·rcases zM.1 m with h|h
    ·exact iT.all ‹_› ys h
    ·simp at h;subst h;exact g
theorem P8 (h:iT U F p batch room t)(h0:t.bs=[]){R:Sl->Int->Hp->Prop}(hR:R ⟨none,0,0⟩ 4 U):WV.c (aW p) U R:=by
 refine WV.o ?_;unfold WV.v;obtain⟨b,i,D,g,d,j,r,m⟩:=h.mem;have a:b.len=t.bs.length:=by have:=d.1;rw[zk,j.1]at this;omega
 refine Dl h (cD rfl (bL (g.rS rfl (cF ?_ hR))));simp[a,h0]
theorem NF (h:iT U F p batch room t)(h0:t.bs≠[]){R:Sl->Int->Hp->Prop}(hR:∀out σ',Ext F U σ'->(∀b,kS out b->F b)->cV out 1 (Wu (t.bs.getLast?.getD [])) σ' (kS out)->out.len<=out.cap->iT σ' (λb=>F b/\¬kS out b) p batch room t.rem->R out 0 σ'):WV.c (aW p) U R:=by
 refine WV.o ?_;unfold WV.v;obtain⟨K,g,D,d,H,y,B,Y⟩:=h.mem;have hso:K.len=t.bs.length:=by have:=H.1;rw[zk,y.1]at this;omega
 have W:=pM.2 h0;have hr8:=h.r1;have hfw:=h.qm;have V:=h.low;have S:t.bs.length-1<g.length:=by rw[y.1];omega
 obtain⟨o,N⟩:∃o,g[t.bs.length-1]?=some o:=⟨_,cW S⟩;have j:t.bs[t.bs.length-1]?=some (t.bs.getLast?.getD []):=by
  rw[List.getLast?_eq_getElem?,cW O];rfl
 obtain⟨k1,k2⟩:=y.2 _ o _ N j;refine Dl h (cD rfl (bL (d.rS rfl (cD ?_ ?_))))
 ·simp only[mI];omega
 refine bL (d.rS rfl (cT (m:=t.bs.length-1) aC O (bL (d.rS rfl ?_))));refine H.fW.SV N (bL (d.rS rfl ?_));have Z:K.len<=K.cap:=by
  rcases H.2 with⟨q1,q2⟩|⟨_,_,_,_,_,q,_⟩
  ·omega
  ·exact q
 refine jm (lo:=0) O aD aD (bL (d.s1 aA λv1 o1 C=>bL (C.rI rfl (bL ?_))))
 refine C.s1 aA λv2 o2 u=>?_;have r:Ext (· = p) U v2:=o1.ext.trans o2.ext;have G:(if((t.bs.length-1:Nat):Int)<(t.low:Int)then((t.bs.length-1:Nat):Int)else(t.low:Int))=((min t.low (t.bs.length-1):Nat):Int):=by split<;>omega
 rw[G]at u;have Q:∀z∈t.bs,z≠[]:=λz w e=>by have X:=h.all z w;have h2:=h.b1;rw[e]at X;simp at X;omega
 have A:∀b,kS o b->D b:=λb d=>(k1.bV (by simp only[Wu,ne_eq,Aw];exact Q _ (zG j)) d).1;refine hR o v2 (r.sub λb d=>d▸h.fp) (λb d=>(B b (A b d)).1) (aH.mono (aH.bS k1 r λb _ d E=>(B b d).2 E).mh λb _ hd=>hd.2) k2 ⟨⟨_,g.dropLast,λb=>D b/\¬kS o b,u,?_,⟨by simp[y.1,gO.rem],λi s z hi w=>?_⟩,λb hd=>⟨⟨(B b hd.1).1,hd.2⟩,(B b hd.1).2⟩,List.Pairwise.sublist (List.dropLast_sublist _) Y⟩,⟨h.fp,λd=>(B p (A p d)).2 rfl⟩,h.b1,h.r1,by simp[gO.rem];omega,by simp[gO.rem];omega,λz w=>h.all z (List.dropLast_subset _ w)⟩
 ·refine aI.bS ?_ r λb _ d E=>d.2.1 E;refine⟨by simp[y.1],?_⟩;rcases H.2 with⟨q1,q2⟩|⟨b,cs,hq,L,hbb,hle,hcl,ht⟩
  ·omega
  ·refine .inr ⟨b,cs,⟨⟨hq.1,λd=>hq.2.2 (A b d)⟩,hq.2.1,λhd=>hq.2.2 hd.1⟩,?_,hbb,by simp only;omega,by simp only;omega,?_⟩
   ·simp only[L];split<;>simp[add_lit]
   ·simp only[zk]at ht ⊢;have hd:g.dropLast.map qg=(g.map qg).take (g.length-1):=by rw[yE,List.map_take]
    rw[hd,←ht,yr,Bv]
    congr 1;omega
 ·have x:i<t.bs.length-1:=by
   have:=(cX.1 w).1;simpa[gO.rem]using this
  rw[yE,zm]at hi;simp only[gO.rem,yE,zm]at w;rw[zC (by rw[y.1];exact x)]at hi;rw[zC x]at w;obtain⟨m1,m2⟩:=y.2 i s z hi w;refine⟨aH.mono (aH.bS m1 r λb _ d E=>(B b d).2 E).mh λb _ d=>⟨d.1,λu=>?_⟩,m2⟩;obtain⟨a,L,e1⟩:=d.2;obtain⟨a',M,e2⟩:=u;obtain⟨P,rfl⟩:=cX.1 hi;obtain⟨J,rfl⟩:=cX.1 N;exact mu.1 Y i _ P J x a a' L M (e1.trans e2.symm)
def wY (out:Sl)(bs:List (List Int))(U:Hp)(G:Rg):Prop:=∃sls:List Sl,cV out 1 (sls.map qg) U G/\rm sls bs U G
theorem wY.loc (out:Sl)(bs:List (List Int)):dO (wY out bs):=λU j F G ⟨a,i,g⟩ b d=>⟨a,cV.loc _ _ _ _ _ _ _ i b d,rm.loc _ _ _ _ _ _ g b d⟩
end Go.Ar
namespace Go.Ar
open Go Go.Vc Go.Proofs
open Go.Bu (ZG)
variable {U:Hp}{F:Rg}{p:Nat}{ow:Nat->Nat}
def vo (ow:Nat->Nat)(x:Nat)(l:List (Nat×Nat×Nat)):Prop:=
 l.length<=x/\(∀r∈l,1<=r.2.1/\r.1+r.2.1<=x/\∀y,r.1<=y->y<r.1+r.2.1->ow y=r.2.2)/\∀y,y<x->ow y≠0->∃r∈l,r.1<=y/\y<r.1+r.2.1
theorem vo.new {x:Nat}{l:List (Nat×Nat×Nat)}(h:vo ow x l):vo ow (x+1) (l++[(x,1,ow x)]):=by
 refine⟨by simp;exact h.1,λr b=>?_,λy i g=>?_⟩
 ·rcases zM.1 b with a|a
  ·exact⟨(h.2.1 r a).1,by have:=(h.2.1 r a).2.1;omega,(h.2.1 r a).2.2⟩
  ·simp at a;subst a;exact⟨zD _,zD _,λy a d=>by simp only at a d ⊢;rw[show y=x by omega]⟩
 ·rcases ko y x with a|a
  ·obtain⟨r,b,d⟩:=h.2.2 y a g;exact⟨r,kG _ b,d⟩
  ·exact⟨(x,1,ow x),by simp,by simp only;omega⟩
theorem vo.more {x a m no:Nat}{l:List (Nat×Nat×Nat)}(h:vo ow x (l++[(a,m,no)]))(he:a+m=x)(hno:ow x=no):vo ow (x+1) (l++[(a,m+1,no)]):=by
 refine⟨by have:=h.1;simp at this ⊢;omega,λr g=>?_,λy j i=>?_⟩
 ·rcases zM.1 g with b|b
  ·have:=h.2.1 r (kG _ b);exact⟨this.1,O,this.2.2⟩
  ·simp at b;subst b;have:=h.2.1 (a,m,no) aA;refine⟨by simp only;omega,by simp only;omega,λy b d=>?_⟩;simp only at b d ⊢;rcases ko y (a+m)with h3|h3
   ·exact this.2.2 y b h3
   ·rw[show y=x by omega];exact hno
 ·rcases ko y x with b|b
  ·obtain⟨r,g,d⟩:=h.2.2 y b i;rcases zM.1 g with h3|h3
   ·exact⟨r,kG _ h3,d⟩
   ·simp at h3;subst h3;exact⟨(a,m+1,no),by simp,by simp only at d ⊢;omega⟩
  ·exact⟨(a,m+1,no),by simp,by simp only;have:=h.2.1 (a,m,no) aA;simp only at this;omega⟩
end Go.Ar
namespace Go.Proofs
open Go.Vc
set_option maxRecDepth 100000
def YI.h:Hn:=.q .o1 (.q (.q .o4 (.q .o2 .aJ)) (.q .o5 .aM))
def YI.v (a:R2)(b c:Int)(d:Hp)(e:aN):Prop:=XJ.c a b 1 d λf g=>If (f != 0) (e f g) (Nz 8<|bM (b.tdiv 8) λh=>Zs.c a h c g λi=>e 0 i)
theorem YI.o {a b c d e}(f:YI.v a b c d e):YI.c a b c d e:=Wa Tryz.func62 (x:=YI.h) (R0 f)
def Y8.h:Hn:=.q .o2 (.q (.q .o4 (.q .o2 (.c (.q .o3 .l) .l))) (.q .o6 .l))
def Y8.v (a:R2)(b:Int)(c:Hp)(d:Int->Int->Hp->Prop):Prop:=XJ.c a b 1 c λe f=>If (e != 0) (d 0 e f) (Nz 8<|bM (b.tdiv 8) λg=>Zt.c a g f λh i=>d h 0 i)
theorem Y8.o {a b c d}(e:Y8.v a b c d):Y8.c a b c d:=Wa Tryz.func65 (x:=Y8.h) (R0 e)
def XJ.h:Hn:=.q .o1 (.q (.k (.q .o4 (.c .aM (.q .o3 (.c .aM (.q (.cU (.seq [.op,.op,.op,.cY false 3 (RI.ops 3),.op])) .aK)))))) (.q .gA (.q (.q (.cU (.gK true [] [(50,.one .b)] (.tk [0,1,2,3,4,5,6,7] (.split 39 (.tk [8,9,10,11,12,13,14,15,16,17,18] (.done)) (.tk [8,9,10,11,12,13,14,15,16] (.all [(17,.take 18 (.done))])))))) .aK) .aM)))
def XJ.v (a:R2)(b c:Int)(d:Hp)(e:aN):Prop:=XX.c a d λf g=>If (!f) (e 5 g) (If (c==0) (e 0 g) (bX (λh i=>If h (e 7 i) (Nz 256<|bM (b.tdiv 256) λj=>Nz 8<|bM (b.tdiv 8) λk=>bM (k+c) λl=>bM (l-1) λm=>Nz 32<|bM (m.tdiv 32) λn=>Jn [.b] (λ(o:Bool) p=>If o (e 7 p) (e 0 p)) λq=>dS i λr=>bW a λs=>aT r s 0 λt=>If (n≥((t.len:Nat):Int)) (q true i) (bW a λu=>aT r u 0 λv=>bM (n+1) λw=>fF v 2 j w (v.cap:Nat) λx=>gC r .b ((Addr.mk 0 0 none).add 0) λ(y:Bool)=>gC r .b ((Addr.mk 0 0 none).add 1) λ(z:Bool)=>Wq.c x y z i λaa ab=>And (r ab) <| q aa ab))) λac=>If (b<0) (ac true g) (Nz 8 <| ac ((b.tmod 8) != 0) g)))
theorem XJ.o {a b c d e}(f:XJ.v a b c d e):XJ.c a b c d e:=Wa Tryz.func104 (x:=XJ.h) (R0 f)
def Zs.h:Hn:=.q .o3 (.kE [] (.q (.oq 9) (.c (.q (.cU (.tail 7 (RI.ops 7) [.op])) (.q (.cU (.held true [6] (.tk [0,1,2,3,4] (.all [(5,.all [(6,.done)])])))) (.cU (.tail 13 (RI.ops 13) [.op])))) .l)) (.o 11))
def Zs.v (a:R2)(b c:Int)(d:Hp)(e:aP):Prop:=Nz 32<|bM (b.tdiv 32) λf=>Jn [] (λg=>bJ a 1 g λi=>Lk .i64 .s i f g λj=>Nz 32 <| Ix (j.getD ⟨none,0,0⟩).a (j.getD ⟨none,0,0⟩).len (b.tmod 32) 1 λk=>dF k (.I c) g λl=>e l) λm=>bF a 0 d λo=>Ix o.a o.len f 2 λp=>aZ p 0 d λq=>aZ p 1 d λr=>mg ((Addr.mk 1 0 none).add 0) d λs=>mg ((Addr.mk 1 0 none).add 1) d λt=>If (!((q==s)&&((r==t)&&true))) (bF a 0 d λv=>mg ((Addr.mk 1 0 none).add 0) d λw=>mg ((Addr.mk 1 0 none).add 1) d λx=>Ix v.a v.len f 2 λy=>aR y 0 (.bool w) d λz=>aR y 1 (.bool x) z λaa=>dS aa λab=>bW a λac=>gC ab .m (ac.add 1) λ(ad:Option Nat)=>Mk 32 32 8 3 [.I 0] aa λae af=>And (ab af) <| kH .i64 .s ad f ae af λag=>bE a 2 ag λai=>bJ a 1 ag λak=>rp .i64 .s ak ag λal=>bW a λam=>aR am 2 (.I (if al>ai then al else ai)) ag λan=>m an) (m d)
theorem Zs.o {a b c d e}(f:Zs.v a b c d e):Zs.c a b c d e:=Wa Tryz.func105 (x:=Zs.h) (R0 f)
def Zt.h:Hn:=.q .o1 (.q (.q (.o 12) (.q .o1 (.c (.q .o6 .l) .l))) .aM)
def Zt.v (a:R2)(b:Int)(c:Hp)(d:aN):Prop:=bJ a 1 c λf=>Nz 32<|bM (b.tdiv 32) λg=>Lk .i64 .s f g c λh=>If h.isSome (Nz 32 <| Ix (h.getD ⟨none,0,0⟩).a (h.getD ⟨none,0,0⟩).len (b.tmod 32) 1 λi=>bN i c λj=>d j c) (d 0 c)
theorem Zt.o {a b c d}(e:Zt.v a b c d):Zt.c a b c d:=Wa Tryz.func110 (x:=Zt.h) (R0 e)
def X8.h:Hn:=.q .o1 (.q (.q .o3 .aK) (.q .o6 .l))
def X8.v (a:R2)(b:Hp)(c:aN):Prop:=XX.c a b λd e=>If (!d) (c 0 e) (bF a 0 e λg=>c ((g.len:Nat):Int) e)
theorem X8.o {a b c}(d:X8.v a b c):X8.c a b c:=Wa Tryz.func130 (x:=X8.h) (R0 d)
def XX.h:Hn:=.q .o1 (.q (.cU (.seq [.op,.op,.op,.cY true 6 (RI.ops 6),.op])) .l)
def XX.v (a:R2)(b:Hp)(c:aO):Prop:=bX (λd e=>c d e) λf=>If (!a.isNone) (bF a 0 b λh=>f (decide (((h.len:Nat):Int)>0)) b) (f false b)
theorem XX.o {a b c}(d:XX.v a b c):XX.c a b c:=Wa Tryz.func131 (x:=XX.h) (R0 d)
def Kz.h:Hn:=.q .o2 (.q (.q (.cU (.seq [.op,.op,.op,.cY false 2 [.op,.op]])) .aJ) (.q .o7 .l))
def Kz.v (a:Int)(b:Hp)(c:Option Addr->Int->Hp->Prop):Prop:=bX (λd e=>If d (c none 1 e) (Mk a a 2 181 [.bool false,.bool false] e λf g=>Nw (.map #[] 0) g λh i=>aV #[.slice f.a f.len f.cap,.map (some h.block),.I 0] 185 i λj k=>c (some j) 0 k)) λl=>If (a<1) (l true b) (l (decide (a>1024)) b)
theorem Kz.o {a b c}(d:Kz.v a b c):Kz.c a b c:=Wa Tryz.func153 (x:=Kz.h) (R0 d)
def Zy.h:Hn:=.q .o2 (.q (.k (.q .o4 (.c .aL (.q (.cU (.seq [.op,.op,.op,.cY false 2 [.op,.op],.op,.cY false 7 (RI.ops 7),.op,.cY false 9 (RI.ops 9),.op])) .aJ)))) (.q (.o 11) .l))
def Zy.v (a:R2)(b c:Int)(d:Hp)(e:Sl->Int->Hp->Prop):Prop:=XX.c a d λf g=>If (!f) (e ⟨none,0,0⟩ 5 g) (bX (λh i=>bX (λj k=>bX (λl m=>If l (e ⟨none,0,0⟩ 1 m) (bF a 0 m λo=>bM (b+c) λp=>fF o 2 b p (o.cap:Nat) λq=>e q 0 m)) λr=>If j (r true k) (bF a 0 k λt=>bM (((t.len:Nat):Int)-b) λu=>r (decide (c>u)) k)) λv=>If h (v true i) (bF a 0 i λx=>v (decide (b>((x.len:Nat):Int))) i)) λy=>If (b<0) (y true g) (y (decide (c<1)) g))
theorem Zy.o {a b c d e}(f:Zy.v a b c d e):Zy.c a b c d e:=Wa Tryz.func306 (x:=Zy.h) (R0 f)
def Zz.h:Hn:=.q .o1 (.q .o2 (.k (.loop [(8,.I)] (.q (.q .o5 (.c .l .l)) (.q (.k (.q (.cU (.tail 7 (RI.ops 7) [.op])) .o6)) .o3)))))
def Zz.v (a:R2)(b c:Int)(d e:Bool)(f:Hp)(g:aP):Prop:=aV #[.bool d,.bool e] 181 f λh i=>XS [bO] (λj=>j b i) λk (l:Int) m=>bM (b+c) λn=>If (l<n) (bF a 0 m λp=>aZ h 0 m λq=>aZ h 1 m λr=>Ix p.a p.len l 2 λs=>aR s 0 (.bool q) m λt=>aR s 1 (.bool r) t λu=>bJ a 1 u λw=>lN .i64 .s w l u λx=>bM (l+1) λy=>k y x) (g m)
theorem Zz.o {a b c d e f g}(h:Zz.v a b c d e f g):Zz.c a b c d e f g:=Wa Tryz.func307 (x:=Zz.h) (R0 h)
def Zw.h:Hn:=.q .o1 (.q .o9 (.q (.k (.q .o3 (.c .aL (.q .o3 .aK)))) (.q .o5 .aM)))
def Zw.v (a:R2)(b c:Int)(d:Hp)(e:aN):Prop:=Zy.c a b c d λf g h=>If (g != 0) (e g h) (Wk.c f ⟨342,#[],#[]⟩ h λi j=>If i (e 5 j) (mg ((Addr.mk 2 0 none).add 0) j λk=>mg ((Addr.mk 2 0 none).add 1) j λl=>Zz.c a b c k l j λm=>e 0 m))
theorem Zw.o {a b c d e}(f:Zw.v a b c d e):Zw.c a b c d e:=Wa Tryz.func318 (x:=Zw.h) (R0 f)
def YS.h:Hn:=.q .o2 (.q .o4 .l)
def YS.v (a b:Bool)(c:Hp)(d:aO):Prop:=aV #[.bool a,.bool b] 181 c λe f=>aZ e 0 f λg=>aZ e 1 f λh=>mg ((Addr.mk 0 0 none).add 0) f λi=>mg ((Addr.mk 0 0 none).add 1) f λj=>d (!((g==i)&&((h==j)&&true))) f
theorem YS.o {a b c d}(e:YS.v a b c d):YS.c a b c d:=Wa Tryz.func342 (x:=YS.h) (R0 e)
end Go.Proofs
namespace Go.Ar
open Go Go.Vc Go.Proofs
open Go.Bu (ZG)
variable {U:Hp}{F:Rg}{p q r:Nat}{sp:Sp}
structure Gl (U:Hp):Prop where
 c0:cell U ⟨2,0,none⟩=some (.bool true)
 c1:cell U ⟨2,1,none⟩=some (.bool false)
 u0:cell U ⟨0,0,none⟩=some (.bool false)
 u1:cell U ⟨0,1,none⟩=some (.bool false)
structure Gc (U:Hp):Prop where
 d0:cell U ⟨1,0,none⟩=some (.bool true)
 d1:cell U ⟨1,1,none⟩=some (.bool true)
structure Gd (U:Hp):Prop where
 lt:1<U.size
def iW (F:Rg):Prop:=∀b,F b->b≠2/\b≠0
theorem KZ {h:Hp}{b o:Nat}{v:Value}(hc:cell h ⟨b,o,none⟩=some v):b<h.size:=(En hc).1
theorem Gl.bS {σ':Hp}(g:Gl U)(e:Ext F U σ')(hF:iW F):Gl σ':=by
 have b:¬F 2:=λh=>(hF _ h).1 rfl;have a:¬F 0:=λh=>(hF _ h).2 rfl;exact⟨(KF e (KZ g.c0) b).trans g.c0,(KF e (KZ g.c1) b).trans g.c1,(KF e (KZ g.u0) a).trans g.u0,(KF e (KZ g.u1) a).trans g.u1⟩
theorem Gc.bS {σ':Hp}(g:Gc U)(e:Ext F U σ')(hF:¬F 1):Gc σ':=⟨(KF e (KZ g.d0) hF).trans g.d0,(KF e (KZ g.d1) hF).trans g.d1⟩
theorem Gc.bP {σ':Hp}(g:Gc U)(e:aF U σ'):Gc σ':=g.bS e id
theorem Gd.bS {σ':Hp}(g:Gd U)(e:Ext F U σ')(hF:¬F 1):Gd σ':=⟨vW g.lt e.1⟩
theorem Gd.bP {σ':Hp}(g:Gd U)(e:aF U σ'):Gd σ':=g.bS e id
theorem Gc.gd (g:Gc U):Gd U:=⟨KZ g.d0⟩
theorem Gl.bP {σ':Hp}(g:Gl U)(e:aF U σ'):Gl σ':=g.bS e λ_ h=>h.elim
theorem iW.grow (hF:iW F)(g:Gl U):iW (Grow F U):=λb a=>by
 rcases a with h|h
 ·exact hF b h
 ·have d:=KZ g.c0;have i:=KZ g.u0;exact⟨O,O⟩
theorem iW.sub {G:Rg}(hF:iW F)(h:∀b,G b->F b):iW G:=λb a=>hF b (h b a)
def gE:Nat->Bool×Bool
 | 0=>(false,false)
 | 1=>(true,false)
 | _=>(true,true)
def gT (st:List Nat):List Value:=st.flatMap λx=>[.bool (gE x).1,.bool (gE x).2]
theorem Ua (l:List Nat):(gT l).length=2*l.length:=by
 induction l with
 | nil=>rfl
 | cons x l ih=>simp only[gT,pt,zK,zS,lg]at *;omega
theorem Fu {l:List Nat}{i x:Nat}(h:l[i]?=some x):(gT l)[2*i]?=some (.bool (gE x).1)/\(gT l)[2*i+1]?=some (.bool (gE x).2):=by
 induction l generalizing i with
 | nil=>simp at h
 | cons y l ih=>
  have e:gT (y::l)=[.bool (gE y).1,.bool (gE y).2]++gT l:=by simp[gT]
  rw[e];cases i with
  | zero=>simp at h;subst h;simp
  | succ i=>
   have:=ih (i:=i) (by simpa using h);rw[show 2*(i+1)=2*i+2 by omega];simpa using this
theorem EA {l:List Nat}{i v:Nat}(h:i<l.length)(rest:List Value):((gT l++rest).set (2*i) (.bool (gE v).1)).set (2*i+1) (.bool (gE v).2)=gT (l.set i v)++rest:=by
 induction l generalizing i with
 | nil=>simp at h
 | cons y l ih=>
  have e:∀z m,gT (z::m)=.bool (gE z).1 :: .bool (gE z).2::gT m:=λz m=>by simp[gT]
  cases i with
  | zero=>simp[e]
  | succ i=>
   have:=ih (i:=i) (by simpa using h);rw[sE,e,e,show 2*(i+1)=2*i+1+1 by omega];simp only[lG,sE];rw[this]
theorem Bi {x y:Nat}(hx:x<=2)(hy:y<=2):(((gE x).1==(gE y).1)&&(((gE x).2==(gE y).2)&&true))=(x==y):=by
 match x,y,hx,hy with
 | 0,0,_,_=>rfl
 | 1,1,_,_=>rfl
 | 2,2,_,_=>rfl
 | 0,1,_,_=>rfl
 | 0,2,_,_=>rfl
 | 1,0,_,_=>rfl
 | 1,2,_,_=>rfl
 | 2,0,_,_=>rfl
 | 2,1,_,_=>rfl
theorem KT {α:Type}(x:Int×α)(l:List (Int×α))(k:Int):bU (x::l) k=if x.1=k then some x.2 else bU l k:=by
 unfold bU;rw[vR];by_cases h:x.1=k
 ·simp[h]
 ·have:(x.1==k)=false:=by simpa using h
  rw[this,zB h]
theorem SM {α:Type}(l:List (Int×α))(n k:Int)(v:α):bU (l.map λx=>if x.1==n then(n,v)else x) k=if k=n then(if l.any (λx=>x.1==n)then some v else none)else bU l k:=by
 induction l with
 | nil=>simp[bU]
 | cons x l ih=>
  rw[zR,KT,ih,KT,List.any_cons];by_cases hx:x.1=n
  ·by_cases hk:k=n
   ·subst hk;simp[hx]
   ·have:¬n=k:=λe=>hk e.symm;simp[hx,hk,this]
  ·have a:(x.1==n)=false:=by simpa using hx
   simp only[a,za,jR,xS];by_cases hk:k=n
   ·subst hk;simp[hx]
   ·simp[hk]
theorem NL {α:Type}(l:List (Int×α))(n k:Int)(v:α)(h:l.any (λx=>x.1==n)=false):bU (l++[(n,v)]) k=if k=n then some v else bU l k:=by
 induction l with
 | nil=>
  rw[tu,KT];by_cases hk:k=n
  ·simp[hk]
  ·have:¬n=k:=λe=>hk e.symm;simp[hk,this,bU]
 | cons x l ih=>
  rw[List.any_cons,Aj]at h;rw[lG,KT,ih h.2,KT];have a:¬x.1=n:=by simpa using h.1
  by_cases hk:k=n
  ·subst hk;simp[a]
  ·simp[hk]
theorem UW {α:Type}(l:List (Int×α))(n k:Int)(v:α):bU (dA l n v) k=if k=n then some v else bU l k:=by
 unfold dA;cases h:l.any (λx=>x.1==n)
 ·rw[zB aA,NL l n k v h]
 ·rw[zC rfl,SM,h];simp
theorem DD {α:Type}(l:List (Int×α))(n k:Int):bU (cO l n) k=if k=n then none else bU l k:=by
 unfold cO
 induction l with
 | nil=>simp[bU]
 | cons x l ih=>
  rw[uA,KT];by_cases hx:x.1=n
  ·have:(!(x.1==n))=false:=by simp[hx]
   rw[this];simp only[za,jR,ih];by_cases hk:k=n
   ·simp[hk]
   ·have:¬x.1=k:=λe=>hk (e.symm.trans hx);simp[hk,this]
  ·have:(!(x.1==n))=true:=by simpa using hx
   rw[this,zC rfl,KT,ih];by_cases hk:k=n
   ·subst hk;simp[hx]
   ·simp[hk]
theorem Qi {α:Type}{l:List (Int×α)}{k:Int}{v:α}(h:bU l k=some v):(k,v)∈l:=by
 unfold bU at h;cases hf:l.find? (λx=>x.1==k)with
 | none=>rw[hf]at h;cases h
 | some x=>
  rw[hf]at h;have g:=uc hf;have d:=uG hf;have a:x.1=k:=by simpa using g
  have b:x.2=v:=by simpa using h
  rw[←a,←b];exact d
theorem OG {α:Type}{l:List (Int×α)}{k:Int}:(bU l k).isSome=true↔k∈l.map (·.1):=by
 unfold bU;rw[Option.isSome_map,Ee];simp
def Ja (U:Hp)(s:Sl)(b:Nat)(f:Nat->Int):Prop:=s.a=some ⟨b,0,none⟩/\s.len=32/\32<=s.cap/\∃cs,bY U b cs/\32<=cs.length/\∀j,j<32->cs[j]?=some (.int .i64 (f j))
structure fI (U:Hp) (F:Rg) (p q r:Nat) (l:List (Int×Sl)) (B:Nat->Nat) (sp:Sp):Prop where
 hd:∃cap,sp.st.length<=cap/\bY U p [.slice (some ⟨q,0,none⟩) sp.st.length cap,.map (some r),.int .i64 (sp.pk:Int)]
 row:∃rest,bY U q (gT sp.st++rest)
 map:dM U r .i64 .s l
 keys:∀x:Int,(bU l x).isSome=true↔∃k:Nat,x=k/\sp.st[k]?=some 2
 wd:∀(k:Nat) s,bU l (k:Int)=some s->Ja U s (B k) λj=>sp.wd (32*k+j)
 inj:∀k k':Nat,sp.st[k]?=some 2->sp.st[k']?=some 2->B k=B k'->k=k'
 out:∀k:Nat,sp.st[k]?=some 2->F (B k)/\B k≠p/\B k≠q/\B k≠r
 fs:F p/\F q/\F r/\p≠q/\p≠r/\q≠r
 zero:∀w:Nat,sp.st[w/32]?≠some 2->sp.wd w=0
 n1:1<=sp.st.length
 n2:sp.st.length<=1024
 sY:∀x∈sp.st,x<=2
 pk:sp.pk<=1024
def dQ (U:Hp)(F:Rg)(p:Nat)(sp:Sp):Prop:=∃q r l B,fI U F p q r l B sp
theorem fI.entry {l:List (Int×Sl)}{B:Nat->Nat}(h:fI U F p q r l B sp){k:Nat}(hk:sp.st[k]?=some 2):∃s,bU l (k:Int)=some s/\Ja U s (B k) λj=>sp.wd (32*k+j):=by
 have:=(h.keys (k:Int)).2 ⟨k,rfl,hk⟩;obtain⟨s,a⟩:=oQ.1 this;exact⟨s,a,h.wd k s a⟩
theorem fI.l4 {l:List (Int×Sl)}{B:Nat->Nat}(h:fI U F p q r l B sp){k:Nat}{s:Sl}(hs:bU l (k:Int)=some s):sp.st[k]?=some 2:=by
 obtain⟨k',e,a⟩:=(h.keys (k:Int)).1 (by rw[hs];rfl);have:k=k':=by omega
 subst this;exact a
theorem dQ.loc:dO λU F=>dQ U F p sp:=λU M F G ⟨q,r,l,B,h⟩ P D=>by
 have i:∀{b:Nat} {d:List Value},bY U b d->F b->bY M b d/\G b:=by
  rintro b d ⟨e,z⟩ K;have:=D b (bY.lt ⟨e,z⟩) K;exact⟨⟨e,this.2.trans z⟩,this.1⟩
 obtain⟨c,L,hd⟩:=h.hd;obtain⟨j,a⟩:=h.row;obtain⟨H,w,y,N⟩:=h.map;have m:=D r (jT.1 y).1 h.fs.2.2.1;refine⟨q,r,l,B,⟨c,L,(i hd h.fs.1).1⟩,⟨j,(i a h.fs.2.1).1⟩,⟨H,w,m.2.trans y,N⟩,h.keys,λk s g=>?_,h.inj,λk g=>?_,⟨(i hd h.fs.1).2,(i a h.fs.2.1).2,m.1,h.fs.2.2.2⟩,h.zero,h.n1,h.n2,h.sY,h.pk⟩
 ·obtain⟨x,A,E,d,u,C⟩:=h.wd k s g;exact⟨x,A,E,d,(i u (h.out k (h.l4 g)).1).1,C⟩
 ·obtain⟨s,J,x,A,E,d,u,C⟩:=h.entry g;exact⟨(i u (h.out k g).1).2,(h.out k g).2⟩
theorem dQ.bP {σ':Hp}(h:dQ U F p sp)(e:aF U σ'):dQ σ' F p sp:=dO.bP dQ.loc h e
variable {l:List (Int×Sl)}{B:Nat->Nat}
theorem fI.rS (h:fI U F p q r l B sp){K:Sl->Prop}(hK:∀cap,sp.st.length<=cap->K ⟨some ⟨q,0,none⟩,sp.st.length,cap⟩):jH (Addr.add ⟨p,0,none⟩ 0) U K:=by
 obtain⟨c,a,hd⟩:=h.hd;exact hd.rS rfl (hK c a)
theorem fI.rM (h:fI U F p q r l B sp){K:Option Nat->Prop}(hK:K (some r)):lL (Addr.add ⟨p,0,none⟩ 1) U K:=by
 obtain⟨c,a,hd⟩:=h.hd;exact hd.rM rfl hK
theorem fI.yv (h:fI U F p q r l B sp){i x:Nat}(hx:sp.st[i]?=some x){K:Bool->Bool->Prop}(hK:K (gE x).1 (gE x).2):mg (Addr.add ⟨q,2*i,none⟩ 0) U λa=>mg (Addr.add ⟨q,2*i,none⟩ 1) U λb=>K a b:=by
 obtain⟨g,d⟩:=h.row;have hi:=(cX.1 hx).1;have j:=Fu hx;refine d.rB (x:=(gE x).1) ?_ (d.rB (x:=(gE x).2) ?_ hK)
 ·rw[kA,zd (by rw[Ua];omega)];exact j.1
 ·rw[zd (by rw[Ua];omega)];exact j.2
theorem BN (h:dQ U F p sp){R:aO}(hR:R true U):XX.c (aW p) U R:=by
 refine XX.o ?_;unfold XX.v;obtain⟨q,r,l,B,h⟩:=h;have:=h.n1;refine bX.intro (cF rfl (bL (h.rS λcap _=>?_)));rw[zI aC];exact hR
theorem Jq (h:dQ U F p sp){R:aN}(hR:R (sp.st.length:Int) U):X8.c (aW p) U R:=by
 refine X8.o ?_;unfold X8.v;have a:=h;obtain⟨q,r,l,B,h⟩:=h;exact BN a (cD rfl (bL (h.rS λcap _=>hR)))
theorem fI.xo (h:fI U F p q r l B sp):l.length=sp.st.count 2:=by
 have s:=h.map.nodup;have m:(l.map (·.1)).Perm (((List.range sp.st.length).filter λk=>sp.st[k]?==some 2).map λk=>((k:Nat):Int)):=by
  rw[DH s]
  ·intro x;rw[←OG,h.keys];simp only[zE,zJ,zg,zU];constructor
   ·rintro⟨k,rfl,hk⟩;exact⟨k,⟨(cX.1 hk).1,hk⟩,rfl⟩
   ·rintro⟨k,⟨_,hk⟩,rfl⟩;exact⟨k,rfl,hk⟩
  ·have i:((List.range sp.st.length).filter λk=>sp.st[k]?==some 2).Pairwise (· ≠ ·):=List.Pairwise.sublist ua List.nodup_range;exact List.Pairwise.map _ (λa b (g:a≠b) d=>g (by exact_mod_cast d)) i
 have j:=m.length_eq;simp only[zk]at j;rw[j,←Ah];have key:∀st:List Nat,(List.range st.length).countP (λk=>st[k]?==some 2)=st.count 2:=by
  intro st
  induction st with
  | nil=>rfl
  | cons x st ih=>
   rw[zS,List.range_succ_eq_map,wV,List.countP_map,List.count_cons,←ih]
   congr 1
 exact key sp.st
end Go.Ar
namespace Go.Ar
open Go Go.Vc Go.Proofs
open Go.Bu (ZG)
variable {U:Hp}{F:Rg}{p q r:Nat}{sp:Sp}{l:List (Int×Sl)}{B:Nat->Nat}
theorem NI (l:List Nat)(n:Nat):gT (l.take n)=(gT l).take (2*n):=by
 induction l generalizing n with
 | nil=>simp[gT]
 | cons y l ih=>
  have e:∀z m,gT (z::m)=.bool (gE z).1 :: .bool (gE z).2::gT m:=λz m=>by simp[gT]
  cases n with
  | zero=>simp[gT]
  | succ n=>
   rw[vL,e,e,ih,show 2*(n+1)=2*n+1+1 by omega];simp
theorem γ (l:List Nat)(n:Nat):gT (l.drop n)=(gT l).drop (2*n):=by
 induction l generalizing n with
 | nil=>simp[gT]
 | cons y l ih=>
  have e:∀z m,gT (z::m)=.bool (gE z).1 :: .bool (gE z).2::gT m:=λz m=>by simp[gT]
  cases n with
  | zero=>simp[gT]
  | succ n=>
   rw[vX,e,ih,show 2*(n+1)=2*n+1+1 by omega];simp
theorem LO (n v:Nat):gT (List.replicate n v)=(List.replicate n [Value.bool (gE v).1,.bool (gE v).2]).flatten:=by
 induction n with
 | zero=>rfl
 | succ n ih=>rw[r9,r9,vq,←ih];simp[gT]
theorem _root_.Go.Vc.cV.yv {s:Sl}{l:List Nat}(h:cV s 2 (gT l) U F){i x:Nat}(hx:l[i]?=some x){K:Bool->Bool->Prop}(hK:K (gE x).1 (gE x).2) :
 Ix s.a s.len (i:Int) 2 λa=>mg (a.add 0) U λu=>mg (a.add 1) U λw=>K u w:=by
 have hi:=(cX.1 hx).1;have j:=Fu hx;obtain⟨b,o,m,p⟩:=h.cell j.1;obtain⟨y,o1,d,g⟩:=h.cell j.2;rw[m]at d;cases d;have r:=h.1;rw[Ua]at r;rw[m];refine ix O O ?_;rw[add_lit];refine nN ?_ (nN ?_ hK)<;>rw[add_lit]
 ·rw[show o+(i:Int).toNat*2+0=o+2*i by omega];exact p
 ·rw[show o+(i:Int).toNat*2+1=o+(2*i+1) by omega];exact g
theorem _root_.Go.Vc.cV.wQ {s:Sl}{l:List Nat}(h:cV s 2 (gT l) U F):s.len=l.length:=by
 have:=h.1;rw[Ua]at this;omega
theorem ζ {s:Sl}{xs:List Nat}(h:cV s 2 (gT xs) U F)(hl:xs.length<=1000000)(h2:∀x∈xs,x<=2){v:Nat}(hv:v<=2){R:aN}
 (hR:∀(t:Int) σ',aF U σ'->decide (t≥0)=xs.contains v->R t σ'):Wv.c s (gE v).1 (gE v).2 U R:=by
 refine Wv.o ?_;unfold Wv.v;have A:=h.wQ;refine nw (cs:=[.bool (gE v).1,.bool (gE v).2]) λw E e y=>?_;have h:=aH.bP h e;refine Qj (a:=bO) (λ(t:Int) u=>∃i:Nat,t=(i:Int)/\i<=xs.length/\u=w/\∀j,j<i->xs[j]?≠some v) (λt _=>xs.length-t.toNat) ⟨0,rfl,O,rfl,λj g=>O⟩ ?_;rintro t u ⟨i,rfl,hi,rfl,b⟩;refine cN (λB=>?_) λD=>?_
 ·have d:i<xs.length:=by omega
  have z:xs[i]?=some xs[i]:=cW d;refine y.rB rfl (y.rB rfl (h.yv z ?_));rw[Bi hv (h2 _ (kz d))];refine cR (λr=>?_) λr=>?_
  ·have:v=xs[i]:=by simpa using r
   refine hR _ _ e ?_;have C:xs.contains v=true:=by rw[this];simp
   rw[C,zI O]
  ·have p:¬v=xs[i]:=by simpa using r
   refine cT (m:=i+1) O O ⟨⟨i+1,rfl,O,rfl,λj g=>?_⟩,O⟩;by_cases e:j=i
   ·subst e;rw[z];intro e2;cases e2;exact p rfl
   ·exact b j O
 ·refine hR _ _ e ?_;have:xs.contains v=false:=by
   simp only[sU,decide_eq_false_iff_not];intro hm;obtain⟨j,g⟩:=zP hm;have:=(cX.1 g).1;exact b j O g
  rw[this];rfl
theorem Tb {s:Sl}{xs:List Nat}(h:cV s 2 (gT xs) U F)(hl:xs.length<=1000000)(h2:∀x∈xs,x<=2){v:Nat}(hv:v<=2){R:aO}
 (hR:∀σ',aF U σ'->R (xs.contains v) σ'):Wq.c s (gE v).1 (gE v).2 U R:=by
 refine Wq.o ?_;unfold Wq.v;refine nw (cs:=[.bool (gE v).1,.bool (gE v).2]) λw g e a=>a.rB rfl (a.rB rfl ?_);refine ζ (aH.bP h e) hl h2 hv λt σ' d b=>?_;rw[b];exact hR σ' (Ext.trans e d)
theorem M5 (g:Gl U){x:Nat}(hx:x<=2){R:aO}(hR:∀σ',aF U σ'->R (x != 0) σ'):YS.c (gE x).1 (gE x).2 U R:=by
 refine YS.o ?_;unfold YS.v;refine nw (cs:=[.bool (gE x).1,.bool (gE x).2]) λv d e a=>a.rB rfl (a.rB rfl ?_);have g:=g.bP e;refine nN (by rw[←g.u0];rfl) (nN (by rw[←g.u1];rfl) ?_);have b:(((gE x).1==false)&&(((gE x).2==false)&&true))=(x==0):=Bi hx (y:=0) O;rw[b];exact hR v e
theorem Pa {s:Sl}{xs:List Nat}(h:cV s 2 (gT xs) U F)(g:Gl U)(hl:xs.length<=1000000)(h2:∀x∈xs,x<=2){R:aO}
 (hR:∀σ',aF U σ'->R (xs.any (· != 0)) σ'):Wk.c s ⟨342,#[],#[]⟩ U R:=by
 refine Wk.o ?_;unfold Wk.v;refine Wt.o ?_;unfold Wt.v;have A:=h.wQ;refine Qj (a:=bO) (λ(t:Int) C=>∃i:Nat,t=(i:Int)/\i<=xs.length/\aF U C/\∀(j x:Nat),j<i->xs[j]?=some x->x=0) (λt _=>xs.length-t.toNat) ⟨0,rfl,O,Ext.refl _ _,λj x r=>O⟩ ?_;rintro t w ⟨i,rfl,hi,e,p⟩;refine cN (λD=>?_) λG=>?_
 ·have b:i<xs.length:=by omega
  have z:xs[i]?=some xs[i]:=cW b;refine(aH.bP h e).yv z ?_;refine Gy (all := #[.agg #[.bool (gE xs[i]).1,.bool (gE xs[i]).2]]) (by kernel_rfl) aA ?_;refine M5 (g.bP e) (h2 _ (kz b)) λE B=>?_;refine cR (λy=>?_) λy=>?_
  ·have:xs.any (· != 0)=true:=zy.2 ⟨_,kz b,y⟩;have:=hR E (Ext.trans e B);rw[‹xs.any (· != 0)=true›]at this;show R (decide ((i:Int)≥0)) _;rw[zI O];exact this
  ·have u:xs[i]=0:=by simpa using y
   refine cT (m:=i+1) O O ⟨⟨i+1,rfl,O,Ext.trans e B,λj x r d=>?_⟩,O⟩;by_cases e:j=i
   ·subst e;rw[z]at d;cases d;exact u
   ·exact p j x O d
 ·have:xs.any (· != 0)=false:=by
   rw[mn];intro x hm;obtain⟨j,r⟩:=zP hm;have:=(cX.1 r).1;simpa using p j x O r
  have:=hR w e;rw[‹xs.any (· != 0)=false›]at this;exact this
theorem fI.part (h:fI U F p q r l B sp){x y c:Nat}(hl:x+y<=sp.st.length):cV ⟨some ⟨q,2*x,none⟩,y,c⟩ 2 (gT ((sp.st.drop x).take y)) U F:=by
 obtain⟨d,b⟩:=h.row;have a:(gT ((sp.st.drop x).take y)).length=y*2:=by rw[Ua,zY,kg];omega
 refine⟨a,.inr ⟨q,2*x,_,h.fs.2.1,rfl,b.q,λj g=>?_⟩⟩;rw[a]at g;rw[zd (by rw[Ua];omega),NI,γ,zm,zC O,lu]
theorem RG (h:dQ U F p sp)(a m:Int){R:Sl->Int->Hp->Prop}(h0:ZG sp.st.length a m=false->R ⟨none,0,0⟩ 1 U)
 (h1:∀(x y:Nat) s,a=x->m=y->1<=y->x+y<=sp.st.length->cV s 2 (gT ((sp.st.drop x).take y)) U F->R s 0 U):Zy.c (aW p) a m U R:=by
 refine Zy.o ?_;unfold Zy.v;have g:=h;obtain⟨q,r,l,B,h⟩:=h;have n2:=h.n2;have b:¬(0<=a/\1<=m/\m<=sp.st.length-a)->R ⟨none,0,0⟩ 1 U:=λi=>h0 (by simp only[ZG,←vI];exact zL i);refine BN g (cD rfl (bX.intro (cN (λj=>bX.intro (cF rfl (bX.intro (cF rfl (cF rfl (b O)))))) λj=>?_)));refine bX.intro (cN (λw=>bX.intro (cF rfl (cF rfl (b O)))) λw=>bL (h.rS λcap d=>?_));simp only;refine bX.intro (cN (λz=>cF rfl (b O)) λz=>?_);refine bL (h.rS λcap d=>ar aC aC ?_);simp only;refine cN (λA=>b O) λA=>?_;obtain⟨x,rfl⟩:=zc (show 0<=a by omega);obtain⟨y,rfl⟩:=zc (show 0<=m by omega);refine bL (h.rS λcap d=>cT (m:=x+y) O O ?_);refine jm O aC (zD _) ?_;simp only;rw[zB O];refine h1 x y _ rfl rfl O O ?_;have:=h.part (x:=x) (y:=y) (c:=cap-x) O;have e:(Option.map (λ(u:Addr)=>u.add (x*2)) (some (⟨q,0,none⟩:Addr)))=some ⟨q,2*x,none⟩:=by
  simp only[ze,add_lit];congr 2;omega
 rw[e,Cz];exact this
def Sp.jV (s:Sp)(k v:Nat):Sp:={s with st:=s.st.set k v,wd:=λw=>if k*32<=w/\w<(k+1)*32 then 0 else s.wd w}
theorem LH {st:List Nat}(h:∀x∈st,x<=2){k v:Nat}(hv:v<=2):∀x∈st.set k v,x<=2:=by
 intro x hx;rcases Av hx with h1|h1
 ·exact h x h1
 ·omega
theorem fI.jV (h:fI U F p q r l B sp){k v:Nat}(hk:k<sp.st.length)(hv:v<=1){σ':Hp}(e:Ext (λb=>b=q\/b=r) U σ'){rest:List Value}
 (hb:bY σ' q (gT (sp.st.set k v)++rest)) (hm:dM σ' r .i64 .s (cO l (k:Int))):fI σ' F p q r (cO l (k:Int)) B (sp.jV k v):=by
 have d:∀j:Nat,(sp.st.set k v)[j]?=some 2↔j≠k/\sp.st[j]?=some 2:=λj=>by
  rw[nI];by_cases hjk:k=j
  ·subst hjk;rw[zC rfl,zC hk];constructor
   ·intro h;have:v=2:=by simpa using h
    omega
   ·intro h;exact absurd rfl h.1
  ·rw[zB hjk];exact⟨λh=>⟨λe=>hjk e.symm,h⟩,λh=>h.2⟩
 obtain⟨c,G,hd⟩:=h.hd;have H:¬(p=q\/p=r):=by have:=h.fs;omega
 refine⟨⟨c,by simpa[Sp.jV]using G,by simpa[Sp.jV]using e.bV hd H⟩,⟨rest,hb⟩,hm,λx=>?_,λj s g=>?_,λj y D m=>?_,λj a=>?_,h.fs,λw u=>?_,by simpa[Sp.jV]using h.n1,by simpa[Sp.jV]using h.n2,LH h.sY O,h.pk⟩
 ·rw[DD];by_cases hx:x=(k:Int)
  ·rw[zC hx];constructor
   ·intro h;cases h
   ·rintro⟨j,rfl,a⟩;have:=(d j).1 a;omega
  ·rw[zB hx,h.keys];constructor
   ·rintro⟨j,rfl,a⟩;exact⟨j,rfl,(d j).2 ⟨O,a⟩⟩
   ·rintro⟨j,rfl,a⟩;exact⟨j,rfl,((d j).1 a).2⟩
 ·rw[DD]at g;by_cases hx:(j:Int)=(k:Int)
  ·rw[zC hx]at g;cases g
  ·rw[zB hx]at g;obtain⟨z,J,L,E,A,K,C⟩:=h.wd j s g;have M:=h.out j (h.l4 g);refine⟨z,J,L,E,e.bV A O,K,λi hi=>?_⟩;rw[C i hi];simp only[Sp.jV];rw[zB O]
 ·exact h.inj j y ((d j).1 D).2 ((d y).1 m).2
 ·exact h.out j ((d j).1 a).2
 ·simp only[Sp.jV]at u ⊢;by_cases hin:k*32<=w/\w<(k+1)*32
  ·rw[zC hin]
  ·rw[zB hin];refine h.zero w λm=>u ((d _).2 ⟨O,m⟩)
theorem Sp.pX (s:Sp)(a v:Nat):s.set a 0 v=s:=by
 have d:gF s.st a (a+0) v=s.st:=by
  apply zt;intro i;rw[Gf];cases s.st[i]? with
  | none=>rfl
  | some x=>simp only[ze];rw[zB O]
 have b:(λw=>if a*32<=w/\w<(a+0)*32 then 0 else s.wd w)=s.wd:=by
  funext w;rw[zB O]
 simp only[Sp.set,d,b]
theorem Sp.pU (s:Sp)(a m v:Nat)(h:a+m<s.st.length):(s.set a m v).jV (a+m) v=s.set a (m+1) v:=by
 have d:(gF s.st a (a+m) v).set (a+m) v=gF s.st a (a+(m+1)) v:=by
  apply zt;intro i;rw[nI,Gf,Gf,Vn];by_cases hi:a+m=i
  ·subst hi;rw[zC rfl,zC h,cW h,ze,zC O]
  ·rw[zB hi];cases s.st[i]? with
   | none=>rfl
   | some x=>
    simp only[ze];by_cases hin:a<=i/\i<a+m
    ·rw[zC hin,zC O]
    ·rw[zB hin,zB O]
 have b:(λw=>if(a+m)*32<=w/\w<(a+m+1)*32 then 0 else(if a*32<=w/\w<(a+m)*32 then 0 else s.wd w))=λw=>if a*32<=w/\w<(a+(m+1))*32 then 0 else s.wd w:=by
  funext w
  by_cases d:(a+m)*32<=w/\w<(a+m+1)*32
  ·rw[zC d,zC O]
  ·rw[zB d];by_cases b:a*32<=w/\w<(a+m)*32
   ·rw[zC b,zC O]
   ·rw[zB b,zB O]
 simp only[Sp.set,Sp.jV,d,b]
theorem ο (h:dQ U F p sp){x y v:Nat}(hl:x+y<=sp.st.length)(hv:v<=1){R:aP}(hR:∀σ',Ext F U σ'->dQ σ' F p (sp.set x y v)->R σ') :
 Zz.c (aW p) x y (gE v).1 (gE v).2 U R:=by
 refine Zz.o ?_;unfold Zz.v;have X:sp.st.length<=1024:=by obtain⟨q,r,l,B,h⟩:=h;exact h.n2
 have s:dQ U (Cut F U) p sp:=dO.cut dQ.loc h;refine nw (cs:=[.bool (gE v).1,.bool (gE v).2]) λu hz e g=>?_;have Y:=s.bP e;refine Qj (a:=bO) (λ(t:Int) w=>∃i:Nat,t=((x+i:Nat):Int)/\i<=y/\Ext (Cut F U) u w/\bY w U.size [.bool (gE v).1,.bool (gE v).2]/\dQ w (Cut F U) p (sp.set x i v)) (λt _=>x+y-t.toNat)
  ⟨0,rfl,O,Ext.refl _ _,g,by rw[Sp.pX];exact Y⟩ ?_
 rintro t w ⟨i,rfl,hi,E,j,q,r,l,B,d⟩;refine cT (m:=x+y) O O (cN (λQ=>?_) λZ=>?_)
 ·have G:(sp.set x i v).st.length=sp.st.length:=Vn _ _ _ _;refine bL (d.rS λcap J=>j.rB rfl (j.rB rfl (ix O aC ?_)));rw[add_lit,show 0+((x+i:Nat):Int).toNat*2=2*(x+i) by omega];obtain⟨K,z⟩:=d.row;have L:x+i<(sp.set x i v).st.length:=by omega
  refine z.s1 (by rw[zK,Ua];omega) λw1 o1 V=>V.s1 (by rw[oS,zK,Ua];omega) λw2 o2 H=>?_;rw[kA,EA L]at H;have e2:Ext (· = q) w w2:=o1.ext.trans o2.ext;obtain⟨c,S,hd⟩:=d.hd;have A:=e2.bV hd d.fs.2.2.2.1;refine bL (A.rM rfl ⟨l,e2.fV d.map (λe=>d.fs.2.2.2.2.2 e.symm),λw3 C _ D=>?_⟩);have o3:=C r rfl;have M:Ext (λb=>b=q\/b=r) w w3:=(e2.sub λb g=>.inl g).trans (o3.ext.sub λb g=>.inr g);have N:=d.jV L hv M (WF o3 H d.fs.2.2.2.2.2) D;rw[Sp.pU _ _ _ _ O]at N;have P:Ext (Cut F U) w w3:=M.sub λb g=>by
   rcases g with rfl|rfl
   ·exact d.fs.2.1
   ·exact d.fs.2.2.1
  refine cT (m:=x+(i+1)) O O ⟨⟨i+1,rfl,O,E.trans P,P.bV j λW=>by have:=W.2;omega,_,_,_,_,N⟩,O⟩
 ·have:i=y:=by omega
  subst this;refine hR w (Ext.cut (e.to.trans E)) (dO.mono dQ.loc ⟨q,r,l,B,d⟩ λb _ g=>g.1)
theorem MU (h:dQ U F p sp)(g:Gl U)(hF:iW F)(a m:Int){R:aN}(hR:∀σ',Ext F U σ'->dQ σ' F p (fZ sp a m)->R (fE sp a m) σ') :
 Zw.c (aW p) a m U R:=by
 refine Zw.o ?_;unfold Zw.v;have j:(∀x∈sp.st,x<=2)/\sp.st.length<=1024:=by obtain⟨q,r,l,B,h⟩:=h;exact⟨h.sY,h.n2⟩
 refine RG h a m (λi=>?_) λx y s E C L A K=>?_
 ·have e1:fE sp a m=1:=by unfold fE;rw[i];rfl
  have e2:fZ sp a m=sp:=by unfold fZ;rw[e1];rfl
  have:=hR U (Ext.refl _ _);rw[e1,e2]at this;exact cF rfl (this h)
 ·subst E;subst C;have i:ZG sp.st.length (x:Int) (y:Int)=true:=by simp only[ZG,zF,zV];omega
  refine cD rfl (Pa K g (by rw[zY,kg];omega) (λz D=>j.1 z (tK (vz D))) λJ e1=>?_);have d:fE sp x y=if((sp.st.drop x).take y).any (· != 0)then 5 else 0:=by unfold fE;rw[i];rfl
  refine cR (λb=>?_) λb=>?_
  ·rw[b]at d;have e2:fZ sp x y=sp:=by unfold fZ;rw[d];rfl
   have:=hR J (aF.to e1);rw[d,e2]at this;exact this (h.bP e1)
  ·rw[b]at d;have e2:fZ sp x y=sp.set x y 1:=by unfold fZ;rw[d];rfl
   have u:=g.bP e1;refine nN (by rw[←u.c0];rfl) (nN (by rw[←u.c1];rfl) ?_);refine ο (v:=1) (h.bP e1) A O λw G H=>?_;have:=hR w (Ext.trans (aF.to e1) G);rw[d,e2]at this;exact this H
theorem FL (h:dQ U F p sp)(g:Gl U)(x:Int)(hx:x<=9223372036854775807){R:aN}(hR:∀σ',aF U σ'->R (eO sp x) σ') :
 XJ.c (aW p) x 1 U R:=by
 refine XJ.o ?_;unfold XJ.v;have D:=h;obtain⟨q,r,l,B,h⟩:=h;have n2:=h.n2;have i:(x<0\/x%8≠0)->R 7 U:=λj=>by
  have:=hR U (Ext.refl _ _);unfold eO at this;rw[zC j]at this;exact this
 refine BN D (cD rfl (cD rfl (bX.intro (cN (λA=>cF rfl (i (.inl A))) λA=>nz aB ?_))));obtain⟨y,rfl⟩:=zc (show 0<=x by omega);refine cR (λd=>?_) λd=>?_
 ·refine i (.inr ?_);rw[Kh O]at d;simpa using d
 have H:y%8=0:=by
  rw[Kh O]at d;have:((y:Int)%8)=0:=by simpa using d
  omega
 have ok:¬((y:Int)<0\/(y:Int)%8≠0):=by omega
 refine nz aB (cT (m:=y/256) (by rw[Yj O];simp) O (nz aB (cT (m:=y/8) (by rw[Yj O];simp) O ?_)));refine cT (m:=y/8+1) O O (cT (m:=y/8) O O (nz aB (cT (m:=y/256) (by rw[Yj O];simp;omega) O ?_)));have fin:∀(b:Bool) σ',aF U σ'->(b=true↔sp.st.getD (y/256) 0=0)->If b (R 7 σ') (R 0 σ'):=λb σ' e j=>by
  have:=hR σ' e;unfold eO at this;rw[zB ok]at this;refine cR (λh=>?_) λh=>?_
  ·rw[zC (by simpa using j.1 h)]at this;exact this
  ·rw[zB (λG=>by rw[j.2 (by simpa using G)]at h;cases h)]at this;exact this
 obtain⟨c,J,hd⟩:=h.hd;refine Jn.intro ⟨λm=>bY m p [.slice (some ⟨q,0,none⟩) sp.st.length c,.map (some r),.int .i64 (sp.pk:Int)]/\Gl m,⟨hd,g⟩,?_⟩;refine bL ⟨⟨some ⟨q,0,none⟩,sp.st.length,c⟩,λm a=>by rw[add_lit,a.1.cell];rfl,?_⟩;refine cN (λs=>?_) λs=>?_
 ·simp only at s;refine fin _ U (Ext.refl _ _) ⟨λ_=>?_,λ_=>rfl⟩;rw[zQ,zX O];rfl
 simp only at s;refine bL ⟨⟨some ⟨q,0,none⟩,sp.st.length,c⟩,λm a=>by rw[add_lit,a.1.cell];rfl,?_⟩;refine cT (m:=y/256+1) O O (jm O aC (zD _) ?_);simp only;rw[zB O];refine⟨false,λm a=>a.2.u0,⟨false,λm a=>a.2.u1,?_⟩⟩;have e:(Option.map (λ(u:Addr)=>u.add (y/256*2)) (some (⟨q,0,none⟩:Addr)))=some ⟨q,2*(y/256),none⟩:=by
  simp only[ze,add_lit];congr 2;omega
 rw[e,Cz];have C:=h.part (x:=y/256) (y:=1) (c:=c-y/256) O;refine Tb (v:=0) C (by rw[zY,kg];omega) (λz E=>h.sY z (tK (vz E))) O λσ' w=>?_;refine⟨⟨w.bV hd id,g.bP w⟩,fin _ σ' w ?_⟩;have hi:y/256<sp.st.length:=by omega
 rw[zQ,cW hi,wL hi,vL,wm];simp[eq_comm]
theorem Θ (h:dQ U F p sp){w:Nat}(hw:w<=2305843009213693952){R:aN}(hR:R (sp.wd w) U):Zt.c (aW p) (w:Int) U R:=by
 refine Zt.o ?_;unfold Zt.v;obtain⟨q,r,l,B,h⟩:=h;refine bL (h.rM (nz aB (cT (m:=w/32) (by rw[Yj O];simp) O ⟨l,h.map,?_⟩)));cases hg:bU l ((w/32:Nat):Int)with
 | none=>
  refine cD rfl ?_;have:sp.st[w/32]?≠some 2:=λi=>by
   have:=(h.keys _).2 ⟨_,rfl,i⟩;rw[hg]at this;cases this
  rw[h.zero w this]at hR;exact hR
 | some s=>
  obtain⟨b,u,y,j,d,x,g⟩:=h.wd _ s hg;refine cF rfl (nz aB ?_);simp only[qz];have a:((w:Int).tmod 32)=((w%32:Nat):Int):=by rw[Kh O];simp
  rw[b,a];refine ix O O ?_;rw[add_lit];refine d.uO ?_ hR;rw[show 0+((w%32:Nat):Int).toNat*1=w%32 by omega,g _ O];simp only;rw[show 32*(w/32)+w%32=w by omega]
theorem OY (h:dQ U F p sp)(g:Gl U)(x:Int)(hx:x<=9223372036854775807){R:Int->Int->Hp->Prop}(hR:∀σ',aF U σ'->R (if eO sp x=0 then sp.wd (x.toNat/8)else 0) (eO sp x) σ') :
 Y8.c (aW p) x U R:=by
 refine Y8.o ?_;unfold Y8.v;refine FL h g x hx λσ' e=>?_;have:=hR σ' e;refine cR (λb=>?_) λb=>?_
 ·have i:¬eO sp x=0:=by simpa using b
  rw[zB i]at this;exact this
 ·have a:eO sp x=0:=by simpa using b
  rw[zC a,a]at this;have d:0<=x:=by
   rcases(by omega:x<0\/0<=x)with hlt|hge
   ·unfold eO at a;rw[zC (.inl hlt)]at a;cases a
   ·exact hge
  obtain⟨y,rfl⟩:=zc d;exact nz aB (cT (m:=y/8) (by rw[Yj O];simp) O (Θ (h.bP e) O this))
theorem fI.Cw (h:fI U F p q r l B sp){k:Nat}(hk:k<sp.st.length)(hn:sp.st[k]?≠some 2){σ':Hp}{b:Nat}{s:Sl}{T:Rg}(e:Ext T U σ')(hT:∀i,i<U.size->T i->i=q\/i=r)(hz:U.size<=b){rest:List Value}
 (hb:bY σ' q (gT (sp.st.set k 2)++rest)) (hm:dM σ' r .i64 .s (dA l (k:Int) s)) (ha:s.a=some ⟨b,0,none⟩) (hl:s.len=32) (hc:s.cap=32) (hw:bY σ' b (List.replicate 32 (.int .i64 0))) :
 fI σ' (Grow F U) p q r (dA l (k:Int) s) (λj=>if j=k then b else B j) {sp with st:=sp.st.set k 2}:=by
 have u:∀j:Nat,(sp.st.set k 2)[j]?=some 2↔j=k\/sp.st[j]?=some 2:=λj=>by
  rw[nI];by_cases hjk:k=j
  ·subst hjk;rw[zC rfl,zC hk];simp
  ·rw[zB hjk];exact⟨λh=>.inr h,λh=>h.resolve_left λe=>hjk e.symm⟩
 obtain⟨c,E,hd⟩:=h.hd;obtain⟨_,C⟩:=h.row;have R:=hd.lt;have V:=C.lt;have S:=h.map.lt;have W:=e.1;have g:=h.fs;have A:∀{j:Nat},sp.st[j]?=some 2->B j<U.size:=λ{j} d=>by
  obtain⟨t,_,_,_,_,cs,G,_⟩:=h.entry d;exact G.lt
 have cZ:∀{i:Nat} {cs:List Value},bY U i cs->i≠q->i≠r->bY σ' i cs:=λ{i cs} hi D y=>e.bV hi λL=>by
  rcases hT i hi.lt L with h|h
  ·exact D h
  ·exact y h
 refine⟨⟨c,by simpa using E,by simpa using cZ hd g.2.2.2.1 g.2.2.2.2.1⟩,⟨rest,hb⟩,hm,λx=>?_,λj t d=>?_,λj z D y m=>?_,λj d=>?_,⟨.inl g.1,.inl g.2.1,.inl g.2.2.1,g.2.2.2⟩,λw H=>?_,by simpa using h.n1,by simpa using h.n2,LH h.sY O,h.pk⟩
 ·rw[UW];by_cases hx:x=(k:Int)
  ·rw[zC hx];subst hx;simp only[Option.isSome_some,true_iff];exact⟨k,rfl,(u k).2 (.inl rfl)⟩
  ·rw[zB hx,h.keys];constructor
   ·rintro⟨j,rfl,d⟩;exact⟨j,rfl,(u j).2 (.inr d)⟩
   ·rintro⟨j,rfl,d⟩;exact⟨j,rfl,((u j).1 d).resolve_left O⟩
 ·rw[UW]at d;by_cases hx:(j:Int)=(k:Int)
  ·have:j=k:=by omega
   subst this;rw[zC rfl]at d;cases d;rw[zC rfl];refine⟨ha,hl,O,_,hw,by simp,λi hi=>?_⟩;rw[mP,zC hi];simp only;rw[h.zero _ (by rw[show(32*j+i)/32=j by omega];exact hn)]
  ·rw[zB hx]at d;obtain⟨K,N,Q,cs,G,P,M⟩:=h.wd j t d;have J:=h.out j (h.l4 d);rw[zB O];exact⟨K,N,Q,cs,cZ G J.2.2.1 J.2.2.2,P,M⟩
 ·by_cases e1:j=k
  ·by_cases e2:z=k
   ·omega
   ·rw[zC e1,zB e2]at m;have:=A (((u z).1 y).resolve_left e2);omega
  ·rw[zB e1]at m;by_cases e2:z=k
   ·rw[zC e2]at m;have:=A (((u j).1 D).resolve_left e1);omega
   ·rw[zB e2]at m;exact h.inj j z (((u j).1 D).resolve_left e1) (((u z).1 y).resolve_left e2) m
 ·by_cases e1:j=k
  ·rw[zC e1];exact⟨.inr hz,O,O,O⟩
  ·rw[zB e1];have:=h.out j (((u j).1 d).resolve_left e1);exact⟨.inl this.1,this.2⟩
 ·refine h.zero w λy=>H ((u _).2 (.inr y))
theorem fI.Bc (h:fI U F p q r l B sp){σ':Hp}{n c:Nat}(hn:n<=1024)(ho:Kb U σ' p)(hc:sp.st.length<=c)(hb:bY σ' p [.slice (some ⟨q,0,none⟩) sp.st.length c,.map (some r),.int .i64 (n:Int)]):fI σ' F p q r l B {sp with pk:=n}:=by
 have d:=h.fs;obtain⟨b,a⟩:=h.row;refine⟨⟨c,hc,hb⟩,⟨b,WF ho a O⟩,HU ho h.map O,h.keys,λj t g=>?_,h.inj,h.out,d,h.zero,h.n1,h.n2,h.sY,hn⟩;obtain⟨i,s,y,x,m,u,w⟩:=h.wd j t g;exact⟨i,s,y,x,WF ho m (h.out j (h.l4 g)).2.1,u,w⟩
theorem fI.word (h:fI U F p q r l B sp){w:Nat}{v:Int}(hk:sp.st[w/32]?=some 2){σ':Hp}{cs:List Value}(h32:32<=cs.length)(ho:Kb U σ' (B (w/32)))(hcs:∀j,j<32->cs[j]?=some (.int .i64 (sp.wd (32*(w/32)+j))))
 (hb:bY σ' (B (w/32)) (cs.set (w%32) (.int .i64 v))):fI σ' F p q r l B {sp with wd:=λu=>if u=w then v else sp.wd u}:=by
 have m:=h.out _ hk;obtain⟨c,E,hd⟩:=h.hd;obtain⟨b,a⟩:=h.row;refine⟨⟨c,E,WF ho hd O⟩,⟨b,WF ho a O⟩,HU ho h.map O,h.keys,λj t x=>?_,h.inj,h.out,h.fs,λu y=>?_,h.n1,h.n2,h.sY,h.pk⟩
 ·obtain⟨s,z,A,g,C,G,D⟩:=h.wd j t x;by_cases hjk:j=w/32
  ·subst hjk;refine⟨s,z,A,_,hb,by simpa using h32,λi hi=>?_⟩;rw[nI];by_cases hiw:w%32=i
   ·rw[zC hiw,zC O];simp only;rw[zC O]
   ·rw[zB hiw];simp only;rw[zB O];exact hcs i hi
  ·have d:B j≠B (w/32):=λe=>hjk (h.inj _ _ (h.l4 x) hk e);refine⟨s,z,A,g,WF ho C d,G,λi hi=>?_⟩;rw[D i hi];simp only;rw[zB O]
 ·have:u≠w:=λe=>by subst e;exact y hk
  simp only;rw[zB this];exact h.zero u y
theorem WmR (h:dQ U F p sp)(g:Gc U){w:Nat}(hw:w/32<sp.st.length)(v:Int){R:aP}(hR:∀σ',Ext F U σ'->dQ σ' (Grow F U) p (nA sp w v)->R σ') :
 Zs.c (aW p) (w:Int) v U R:=by
 refine Zs.o ?_;unfold Zs.v;obtain⟨q,r,l,B,h⟩:=h;have X:=h.n2;have x:sp.st[w/32]?=some sp.st[w/32]:=cW hw;have tm:((w:Int).tmod 32)=((w%32:Nat):Int):=by rw[Kh O];simp
 have word:∀(u:Hp) (s':Sp) (l':List (Int×Sl)) (B':Nat->Nat),Ext F U u->fI u (Grow F U) p q r l' B' s'->s'.st[w/32]?=some 2->({s' with wd:=λz=>if z=w then v else s'.wd z}:Sp)=nA sp w v →
  bW (some ⟨p,0,none⟩) λY=>lL (Y.add 1) u λZ=>Lk .i64 .s Z ((w/32:Nat):Int) u λC=>Nz 32<|Ix (C.getD ⟨none,0,0⟩).a (C.getD ⟨none,0,0⟩).len ((w:Int).tmod 32) 1 λaa=>dF aa (.int .i64 v) u λv1=>R v1:=by
  intro u s' l' B' eu hu A he;refine bL (hu.rM ⟨l',hu.map,nz aB ?_⟩);obtain⟨s,hs,w1,w2,w3,cs,w4,w5,w6⟩:=hu.entry A;rw[hs,tm];simp only[qz];rw[w1];refine ix O O ?_;rw[add_lit,show 0+((w%32:Nat):Int).toNat*1=w%32 by omega];refine w4.s0 O λu2 o2 L=>?_;have h2:=hu.word (v:=v) A w5 o2 w6 L;rw[he]at h2;exact hR u2 (eu.dW o2.ext λb d=>by subst d;exact(hu.out _ A).1) ⟨_,_,_,_,h2⟩
 refine nz aB (cT (m:=w/32) (by rw[Yj O];simp) O (Jn.intro (bL (h.rS λcap D=>ix O aC ?_))));rw[add_lit,show 0+((w/32:Nat):Int).toNat*2=2*(w/32) by omega];refine h.yv x (nN (n:=true) g.d0 (nN (n:=true) g.d1 ?_));have e0:(((gE sp.st[w/32]).1==true)&&(((gE sp.st[w/32]).2==true)&&true))=(sp.st[w/32]==2):=Bi (h.sY _ (kz hw)) (y:=2) O;rw[e0];refine cR (λhd=>?_) λhd=>?_
 ·have G:sp.st[w/32]≠2:=by simpa using hd
  refine bL (h.rS λcap D=>nN (n:=true) g.d0 (nN (n:=true) g.d1 (ix O aC ?_)));rw[add_lit,show 0+((w/32:Nat):Int).toNat*2=2*(w/32) by omega];obtain⟨J,K⟩:=h.row;refine K.s1 (by rw[zK,Ua];omega) λu1 o1 b1=>b1.s1 (by rw[oS,zK,Ua];omega) λu2 o2 L=>?_;rw[kA]at L;have ab:bY u2 q (gT (sp.st.set (w/32) 2)++J):=by rw[←EA hw];exact L
  have e2:Ext (· = q) U u2:=o1.ext.trans o2.ext;obtain⟨c,hc,H⟩:=h.hd;have E:=e2.bV H h.fs.2.2.2.1;refine⟨λm=>bY m p [.slice (some ⟨q,0,none⟩) sp.st.length c,.map (some r),.int .i64 (sp.pk:Int)],E,bL ⟨some r,λm hm=>by rw[add_lit,hm.cell];rfl,?_⟩⟩;refine mk (n:=32) O O λu3 hz3 N b3=>⟨Ext.bV N E id,?_⟩;have Q:bY u3 u2.size (List.replicate 32 (.int .i64 0)):=b3;have q3:=Ext.bV N ab id;have V:=e2.fV h.map (λe=>h.fs.2.2.2.2.2 e.symm);refine⟨r,l,rfl,Ext.fV N V id,λu4 o4 P=>?_⟩;have sz2:u2.size=U.size:=by rw[o2.1,o1.1]
  have hrlt:=h.map.lt;have hplt:=H.lt;have e4:Ext (λb=>b=q\/b=r) U u4:=((e2.sub λb d=>.inl d).trans (aF.to N)).trans (o4.ext.sub λb d=>.inr d);have M:=h.Cw hw (by rw[x];simpa using G) (s:=⟨some ⟨u2.size,0,none⟩,32,32⟩) (b:=u2.size) e4 (λi _ hi=>hi) O (WF o4 q3 h.fs.2.2.2.2.2) P rfl rfl rfl (WF o4 Q O);obtain⟨c4,ac,j⟩:=M.hd;refine bL (j.rI rfl (bL (j.rM rfl ⟨_,M.map,bL ?_⟩)));rw[M.xo];have hcl:(sp.st.set (w/32) 2).count 2<=1024:=ku List.count_le_length (by simpa using X);have hpk:=h.pk;have hv:(if((List.count 2 (sp.st.set (w/32) 2):Nat):Int)>(sp.pk:Int)then((List.count 2 (sp.st.set (w/32) 2):Nat):Int)else(sp.pk:Int))=((max sp.pk ((sp.st.set (w/32) 2).count 2):Nat):Int):=by
   by_cases hgt:((List.count 2 (sp.st.set (w/32) 2):Nat):Int)>(sp.pk:Int)
   ·rw[zC hgt];omega
   ·rw[zB hgt];omega
  simp only;rw[hv];refine j.s1 aA λu5 o5 b5=>?_;have h5:=M.Bc O o5 ac b5;have e5:Ext F U u5:=(e4.sub λb d=>by
   rcases d with rfl|rfl
   ·exact h.fs.2.1
   ·exact h.fs.2.2.1).trans (o5.ext.sub λb d=>by subst d;exact h.fs.1)
  refine word u5 _ _ _ e5 h5 (by simp only;rw[nI,zC rfl,zC hw]) ?_;unfold nA;rw[zB (by rw[zQ,x];exact G)]
 ·have S:sp.st[w/32]=2:=by simpa using hd
  rw[S]at x;have W:fI U (Grow F U) p q r l B sp:={h with out:=λk A=>⟨.inl (h.out k A).1,(h.out k A).2⟩,fs:=⟨.inl h.fs.1,.inl h.fs.2.1,.inl h.fs.2.2.1,h.fs.2.2.2⟩};refine word U sp l B (Ext.refl _ _) W x ?_;unfold nA;rw[zC (by rw[zQ,x];rfl)];have:sp.st.set (w/32) 2=sp.st:=by
   apply zt;intro i;rw[nI];by_cases hi:w/32=i
   ·subst hi;rw[zC rfl,zC hw,x]
   ·rw[zB hi]
  rw[this]
theorem SS (h:dQ U F p sp)(g:Gl U)(gd:Gc U)(x:Int)(hx:x<=9223372036854775807)(v:Int){R:aN}(hR:∀σ',Ext F U σ'->dQ σ' (Grow F U) p (ZL sp x v)->R (eO sp x) σ') :
 YI.c (aW p) x v U R:=by
 refine YI.o ?_;unfold YI.v;have j:dQ U (Cut F U) p sp:=dO.cut dQ.loc h;refine FL h g x hx λz e=>?_;have w:=j.bP e;have C:=g.bP e;refine cR (λr=>?_) λr=>?_
 ·have u:¬eO sp x=0:=by simpa using r
  refine hR z (aF.to e) ?_;unfold ZL;rw[zB u];exact dO.mono dQ.loc w λb _ a=>.inl a.1
 ·have d:eO sp x=0:=by simpa using r
  have i:0<=x/\sp.st.getD (x.toNat/256) 0≠0:=by
   unfold eO at d;by_cases a:x<0\/x%8≠0
   ·rw[zC a]at d;cases d
   ·rw[zB a]at d;by_cases hz:sp.st.getD (x.toNat/256) 0=0
    ·rw[zC hz]at d;cases d
    ·exact⟨O,hz⟩
  obtain⟨y,rfl⟩:=zc i.1;have s:y/8/32<sp.st.length:=by
   rcases ko (y/256) sp.st.length with h|h
   ·omega
   ·exact absurd (by rw[zQ,zX (by simpa using h)];rfl) i.2
  refine nz aB (cT (m:=y/8) (by rw[Yj O];simp) O (WmR w (gd.bP e) s v λB e2 A=>?_));have:=hR B (Ext.cut ((aF.to e).trans e2)) ?_
  ·rw[d]at this;exact this
  ·unfold ZL;rw[zC d];exact dO.mono dQ.loc A λb _ a=>by
    rcases a with a|a
    ·exact .inl a.1
    ·exact .inr (ku e.1 a)
def V4 (n:Nat):Sp:=⟨List.replicate n 0,λ_=>0,0⟩
theorem Ps {U:Hp}{F:Rg}{p q r n c:Nat}(h1:1<=n)(h2:n<=1024)(hc:n<=c)(hd:bY U p [.slice (some ⟨q,0,none⟩) n c,.map (some r),.int .i64 0])(hq:bY U q (gT (List.replicate n 0)))(hr:dM U r .i64 .s [])
 (hF:F p/\F q/\F r) (hne:p≠q/\p≠r/\q≠r):fI U F p q r [] (λ_=>0) (V4 n):=by
 have b:∀k:Nat,(List.replicate n 0)[k]?≠some 2:=λk a=>by
  rw[mP]at a;split at a<;>cases a
 refine⟨⟨c,by simpa[V4]using hc,by simpa[V4]using hd⟩,⟨[],by simpa[V4]using hq⟩,hr,λx=>?_,λk s d=>(by cases d),λk i h1=>absurd h1 (b k),λk a=>absurd a (b k),⟨hF.1,hF.2.1,hF.2.2,hne⟩,λw _=>rfl,by simpa[V4]using h1,by simpa[V4]using h2,λx g=>?_,by simp[V4]⟩
 ·constructor
  ·intro h;cases h
  ·rintro⟨k,_,a⟩;exact absurd a (b k)
 ·have:=Ds g;omega
theorem Md {n:Nat}(h1:1<=n)(h2:n<=1024){R:Option Addr->Int->Hp->Prop}(hR:∀σ' p',aF U σ'->U.size<=p'->dQ σ' (λb=>U.size<=b) p' (V4 n)->R (some ⟨p',0,none⟩) 0 σ'):Kz.c (n:Int) U R:=by
 refine Kz.o ?_;unfold Kz.v;refine bX.intro (gg O ?_);rw[zL O];refine cD rfl (mk O O λd u e1 r=>tG λx w e2 m=>nw (cs:=[.slice (some ⟨U.size,0,none⟩) n n,.map (some d.size),.int .i64 0]) λj y a g=>?_);have p:=Ext.bV a (Ext.bV e2 r id) id;have i:=Ext.fV a (m .i64 .s) id;refine hR j _ (Ext.trans (Ext.trans e1 e2) a) O ⟨U.size,d.size,[],_,Ps h1 h2 (zD _) g ?_ i ⟨O,O,O⟩ O⟩;rw[LO];exact p
end Go.Ar