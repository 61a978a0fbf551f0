/- Texts joined. -/
import Derived.Lib.Overlaps
import Derived.Laws.Externs
import Derived.Test.YtoeidadjhkkioaaGreatDoorL2
set_option linter.unusedVariables false
set_option linter.unusedSimpArgs false
namespace Go.Proofs
open Go.Vc
set_option maxRecDepth 100000
def ZZ.h:Hn:=.q .o1 (.q (.q (.cU (.seq [.op,.op,.op,.op,.cX false 3 (RI.ops 3)])) .aK) (.q (.q .o3 (.k (.loop [(15,.I)] (.q .o1 (.q (.c .l .l) (.q (.k (.q .o6 (.q (.cU (.gP true [1] [(37,.one .b)] (.take 0 (.all [(1,.take 2 (.take 3 (.split 23 (.take 4 (.take 5 (.take 6 (.take 7 (.take 8 (.take 9 (.take 10 (.take 11 (.take 12 (.take 13 (.take 14 (.take 15 (.take 16 (.take 17 (.done))))))))))))))) (.take 4 (.take 5 (.take 6 (.split 26 (.take 7 (.take 9 (.take 10 (.take 11 (.take 12 (.take 13 (.all [(8,.all [(14,.take 15 (.take 16 (.take 17 (.done))))]),(14,.all [(8,.take 15 (.take 16 (.take 17 (.done))))])]))))))) (.take 7 (.take 8 (.take 9 (.take 10 (.take 11 (.take 12 (.take 13 (.take 14 (.take 15 (.take 16 (.take 17 (.done)))))))))))))))))))])))) .aK))) .o2)))))) .aM))
def ZZ.v (a:Sl)(b:Hp)(c:aO):Prop:=bX (λd e=>If d (c false e) (X8 [bO] (λf=>f 0 e) λg (h:Int) i=>If (h<((a.len:Nat):Int)) (Ix a.a a.len h 3 λj=>aQ j 0 i λk=>aQ j 1 i λl=>aQ j 2 i λm=>aV #[.I 0,.I 0,.I 0] 149 i λn o=>aR n 0 (.I k) o λp=>aR n 1 (.I l) p λq=>aR n 2 (.I m) q λr=>Jn [.b] (λ(s:Bool) t=>If s (c false t) (bM (h+1) λu=>g u t)) λv=>dW r λw=>aS w n 0 λx=>aS w n 1 λy=>aS w n 2 λz=>Kf.c x y z r λaa ab=>If (!aa) (v true ab) (If (h>0) (bM (h-1) λac=>Ix a.a a.len ac 3 λad=>(aQ n 0 ab λae=>aQ ad 0 ab λaf=>v (decide (ae<=af)) ab) ∧ (aQ ad 0 ab λag=>aQ n 0 ab λah=>v (decide (ah<=ag)) ab)) (v false ab))) (c true i))) λai=>If (((a.len:Nat):Int)<1) (ai true b) (ai (decide (((a.len:Nat):Int)>40)) b)
theorem ZZ.o {a b c}(d:ZZ.v a b c):ZZ.c a b c:=Wa Tryz.func151 (x:=ZZ.h) (R0 d)
def QN.h:Hn:=.q .o4 (.q (.k (.q .o4 (.c .aL (.q (.cU (.gP true [] [(13,.one .b)] (.tk [0,1,2] (.split 16 (.tk [3,4,5,6,7,8,9,10,11,12,13,14,15,16] (.done)) (.tk [3,4,5,6] (.split 20 (.tk [7,8,9,10,11,12,13,14,15,16] (.done)) (.tk [7,8,9,10] (.split 24 (.tk [11,12,13,14,15,16] (.done)) (.take 11 (.take 13 (.all [(12,.take 14 (.take 15 (.take 16 (.done))))]))))))))))) .aJ)))) (.q .o4 (.q (.q .o2 .aJ) (.q .o3 .l))))
def QN.v (a:Sl)(b c:Int)(d:Hp)(e:Int->Int->Hp->Prop):Prop:=aV #[.I b] 3 d λf g=>aV #[.I c] 3 g λh i=>ZZ.c a i λj k=>If (!j) (e 0 2 k) (Jn [.b] (λ(l:Bool) m=>If l (e 0 1 m) (Ws.c a ⟨228,#[],#[.pointer (some f),.pointer (some h)]⟩ m λn o=>If (n<0) (e 0 4 o) (e n 0 o))) λp=>dW k λq=>gN q bO f λ(r:Int)=>If (r<1) (p true k) (gN q bO h λ(s:Int)=>If (s<1) (p true k) (gN q bO h λ(t:Int)=>If (t>256) (p true k) (gN q bO h λ(u:Int)=>gN q bO h λ(v:Int)=>QM.c u k λw x=>And (q x) <| p (w != v) x))))
theorem QN.o {a b c d e}(f:QN.v a b c d e):QN.c a b c d e:=Wa Tryz.func164 (x:=QN.h) (R0 f)
def Kf.h:Hn:=.q .o2 (.q (.cU (.seq [.op,.op,.op,.op,.cX true 3 (RI.ops 3),.op,.cX true 4 (RI.ops 4),.op,.cX true 3 (RI.ops 3),.op,.cX true 3 (RI.ops 3),.op,.cX true 6 (RI.ops 6),.op,.cX true 3 (RI.ops 3),.op,.cX true 3 (RI.ops 3),.op])) .l)
def Kf.v (a b c:Int)(d:Hp)(e:aO):Prop:=aV #[.I a,.I b,.I c] 149 d λf g=>aQ f 0 g λh=>bX (λi j=>bX (λk l=>bX (λm n=>bX (λo p=>bX (λq r=>bX (λs t=>bX (λu v=>e u v) λw=>If s (aQ f 2 t λx=>w (decide (x<=32)) t) (w false t)) λy=>If q (aQ f 2 r λz=>y (decide (z≥1)) r) (y false r)) λaa=>If o (aQ f 1 p λab=>bM (ab*256) λac=>aQ f 0 p λad=>aa (decide (ac≥ad)) p) (aa false p)) λae=>If m (aQ f 1 n λaf=>ae (decide (af<=4)) n) (ae false n)) λag=>If k (aQ f 1 l λah=>ag (decide (ah≥1)) l) (ag false l)) λai=>If i (aQ f 0 j λaj=>Nz 8 <| ai ((aj.tmod 8)==0) j) (ai false j)) λak=>If (h≥8) (aQ f 0 g λal=>ak (decide (al<=512)) g) (ak false g)
theorem Kf.o {a b c d e}(f:Kf.v a b c d e):Kf.c a b c d e:=Wa Tryz.func195 (x:=Kf.h) (R0 f)
def Z2.h:Hn:=.q .o2 (.q .o7 .l)
def Z2.v (a b c:Int)(d:Hp)(e:aN):Prop:=aV #[.I a,.I b,.I c] 149 d λf g=>aQ f 1 g λh=>bM (h*256) λi=>aQ f 0 g λj=>Nz j<|bM (i.tdiv j) λk=>e k g
theorem Z2.o {a b c d e}(f:Z2.v a b c d e):Z2.c a b c d e:=Wa Tryz.func196 (x:=Z2.h) (R0 f)
def QM.h:Hn:=.q .o1 (.q .o1 (.q (.q .o1 (.k (.loop [(3,.I),(4,.I)] (.q (.q .o3 (.c .l .l)) (.q (.k .o2) .o3))))) .aL))
def QM.v (a:Int)(b:Hp)(c:aN):Prop:=X8 [bO,bO] (λd=>d 0 1 b) λe (f:Int) (g:Int) h=>If (g<=a) (bM (g*2) λi=>e g i h) (c f h)
theorem QM.o {a b c}(d:QM.v a b c):QM.c a b c:=Wa Tryz.func226 (x:=QM.h) (R0 d)
def Qk.h:Hn:=.q .o2 (.q (.cU (.seq [.op,.op,.op,.op,.op,.cX true 5 (RI.ops 5),.op])) .l)
def Qk.v (a b c:Int)(d e:Addr)(f:Hp)(g:aO):Prop:=aV #[.I a,.I b,.I c] 149 f λh i=>aQ h 0 i λj=>bN d i λk=>bX (λl m=>g l m) λn=>If (j≥k) (aQ h 0 i λo=>bN e i λp=>Nz p <| n ((o.tmod p)==0) i) (n false i)
theorem Qk.o {a b c d e f g}(h:Qk.v a b c d e f g):Qk.c a b c d e f g:=Wa Tryz.func228 (x:=Qk.h) (R0 h)
def ZU.h:Hn:=.q .o3 (.q (.q .o3 .aJ) (.q .o4 .l))
def ZU.v (a b c:Int)(d:Hp)(e:Int->Int->Hp->Prop):Prop:=aV #[.I a,.I b,.I c] 149 d λf g=>aQ f 0 g λh=>aQ f 1 g λi=>aQ f 2 g λj=>Kf.c h i j g λk l=>If (!k) (e 0 1 l) (aQ f 0 l λm=>aQ f 1 l λn=>aQ f 2 l λo=>Z2.c m n o l λp q=>e p 0 q)
theorem ZU.o {a b c d e}(f:ZU.v a b c d e):ZU.c a b c d e:=Wa Tryz.func274 (x:=ZU.h) (R0 f)
end Go.Proofs
namespace Go.Ar
open Go Go.Vc Go.Proofs
variable {U:Hp}
theorem Ic (x y z:Int){R:aO}(hR:∀σ',aF U σ'->R (U0 x y z) σ'):Kf.c x y z U R:=by
 refine Kf.o ?_;unfold Kf.v;refine nw (cs:=[.int .i64 x,.int .i64 y,.int .i64 z]) λh A e b=>?_;have r:U0 x y z=false->R false h:=λg=>g▸hR h e;have a:¬(8<=x/\x<=512/\x%8=0/\1<=y/\y<=4/\x<=y*256/\1<=z/\z<=32)->R false h:=λg=>r (by rw[←rZ,HF];exact g);refine b.rI rfl (bX.intro ?_);refine cP (λm=>b.rI rfl (bX.intro ?_)) λm=>?_
 case refine_2=>
  iterate 6 refine bX.intro (cD rfl ?_)
  exact a O
 refine cP (λw=>b.rI rfl (nz aB (bX.intro ?_))) λw=>?_
 case refine_2=>
  iterate 5 refine bX.intro (cD rfl ?_)
  exact a O
 rw[Kh O];refine cN (λd=>b.rI rfl (bX.intro ?_)) λd=>?_
 case refine_2=>
  have:¬x%8=0:=by simpa using d
  iterate 4 refine bX.intro (cD rfl ?_)
  exact a O
 have u:x%8=0:=by simpa using d
 refine cP (λs=>b.rI rfl (bX.intro ?_)) λs=>?_
 case refine_2=>
  iterate 3 refine bX.intro (cD rfl ?_)
  exact a O
 refine cP (λp=>b.rI rfl (ar O O (b.rI rfl (bX.intro ?_)))) λp=>?_
 case refine_2=>
  iterate 2 refine bX.intro (cD rfl ?_)
  exact a O
 refine cP (λj=>b.rI rfl (bX.intro ?_)) λj=>?_
 case refine_2=>exact bX.intro (cD rfl (a O))
 refine cP (λi=>b.rI rfl ?_) λi=>a O;have:decide (z<=32)=U0 x y z:=by
  rw[j0,HF];simp;omega
 rw[this];exact hR h e
theorem OP {c:cA}(hc:c.ok){R:aN}(hR:∀σ',aF U σ'->R (c.n:Int) σ'):Z2.c c.size c.aG c.batch U R:=by
 refine Z2.o ?_;unfold Z2.v;have h:=hc;unfold cA.ok at h;refine nw (cs:=[.int .i64 c.size,.int .i64 c.aG,.int .i64 c.batch]) λh b e a=>?_;refine a.rI rfl (cT (m:=c.aG*256) aA O (a.rI rfl (nz O ?_)));refine cT (m:=c.n) ?_ (by have:=hc.kM;omega) (hR _ e);rw[YS O];simp[cA.n]
theorem EE (x y z:Int){R:Int->Int->Hp->Prop}(h1:∀c:cA,c.ok->x=c.size->y=c.aG->z=c.batch->∀σ',aF U σ'->R (c.n:Int) 0 σ')(h0:U0 x y z=false->∀σ',aF U σ'->R 0 1 σ'):ZU.c x y z U R:=by
 refine ZU.o ?_;unfold ZU.v;refine nw (cs:=[.int .i64 x,.int .i64 y,.int .i64 z]) λh m e b=>?_;refine b.rI rfl (b.rI rfl (b.rI rfl (Ic _ _ _ λj e2=>?_)));have a:=e2.bV b id;cases hk:U0 x y z
 ·exact cF rfl (h0 hk _ (e.trans e2))
 ·obtain⟨c,d,_,rfl,rfl,rfl⟩:=yG hk;exact cD rfl (a.rI rfl (a.rI rfl (a.rI rfl (OP d λi g=>h1 c d rfl rfl rfl _ ((e.trans e2).trans g)))))
end Go.Ar
namespace Go.Proofs
open Go.Vc
set_option maxRecDepth 100000
def Vi.h:Hn:=.q .o2 (.q (.q (.cU (.seq [.op,.op,.op,.cX false 2 [.op,.op],.op,.cX false 3 (RI.ops 3)])) .aJ) (.q .o6 .l))
def Vi.v (a:Int)(b:Hp)(c:Option Addr->Int->Hp->Prop):Prop:=bX (λd e=>bX (λf g=>If f (c none 1 g) (Mk a a 8 3 [.I 0] g λh i=>aV #[.slice h.a h.len h.cap] 342 i λj k=>c (some j) 0 k)) λl=>If d (l true e) (Nz 16 <| l ((a.tmod 16) != 0) e)) λm=>If (a<16) (m true b) (m (decide (a>1024)) b)
theorem Vi.o {a b c}(d:Vi.v a b c):Vi.c a b c:=Wa Tryz.func211 (x:=Vi.h) (R0 d)
def XI.h:Hn:=.q .o1 (.q .o6 .l)
def XI.v (a:R2)(b c:Int)(d:Hp)(e:aN):Prop:=aV #[.I 1] 3 d λf g=>X0.c a b c 2 ⟨some f,1,1⟩ g λh i=>e h i
theorem XI.o {a b c d e}(f:XI.v a b c d e):XI.c a b c d e:=Wa Tryz.func245 (x:=XI.h) (R0 f)
def XH.h:Hn:=.q .o1 (.q (.cU (.seq [.op,.op,.op,.cX true 6 (RI.ops 6),.op])) .l)
def XH.v (a:R2)(b:Hp)(c:aO):Prop:=bX (λd e=>c d e) λf=>If (!a.isNone) (bF a 0 b λh=>f (decide (((h.len:Nat):Int)>0)) b) (f false b)
theorem XH.o {a b c}(d:XH.v a b c):XH.c a b c:=Wa Tryz.func249 (x:=XH.h) (R0 d)
def Zh.h:Hn:=.q .o1 (.q .o7 .l)
def Zh.v (a:R2)(b:Hp)(c:aN):Prop:=bF a 0 b λe=>Nz 16<|bM (((e.len:Nat):Int).tdiv 16) λf=>c f b
theorem Zh.o {a b c}(d:Zh.v a b c):Zh.c a b c:=Wa Tryz.func250 (x:=Zh.h) (R0 d)
def Zv.h:Hn:=.q .o1 (.q (.o 11) .l)
def Zv.v (a:R2)(b:Int)(c:Hp)(d:Sl->Hp->Prop):Prop:=bF a 0 c λf=>bM (b*16) λg=>bM (b+1) λh=>bM (h*16) λi=>fI f 1 g i (f.cap:Nat) λj=>d j c
theorem Zv.o {a b c d}(e:Zv.v a b c d):Zv.c a b c d:=Wa Tryz.func252 (x:=Zv.h) (R0 e)
def X0.h:Hn:=.q .o2 (.q (.k (.q .o4 (.c .aM (.q (.cU (.seq [.op,.op,.op,.cX false 2 [.op,.op],.op,.cX false 7 (RI.ops 7),.op,.cX false 9 (RI.ops 9),.op])) .aK)))) (.q .gD (.q (.q .o3 .aK) (.q .o3 .aM))))
def X0.v (a:R2)(b c d:Int)(e:Sl)(f:Hp)(g:aN):Prop:=aV #[.slice e.a e.len e.cap] 31 f λh i=>XH.c a i λj k=>If (!j) (g 5 k) (bX (λl m=>bX (λn o=>bX (λp q=>If p (g 1 q) (bF a 0 q λs=>bM (b+c) λt=>fI s 1 b t (s.cap:Nat) λu=>WQ.c u ⟨305,#[],#[.pointer (some h)]⟩ q λv w=>If v (g 5 w) (Q2.c u d w λx=>g 0 x))) λy=>If n (y true o) (bF a 0 o λaa=>bM (((aa.len:Nat):Int)-b) λab=>y (decide (c>ab)) o)) λac=>If l (ac true m) (bF a 0 m λae=>ac (decide (b>((ae.len:Nat):Int))) m)) λaf=>If (b<0) (af true k) (af (decide (c<1)) k))
theorem X0.o {a b c d e f g}(h:X0.v a b c d e f g):X0.c a b c d e f g:=Wa Tryz.func256 (x:=X0.h) (R0 h)
def YJ.h:Hn:=.q .o2 (.q (.k (.q .o4 (.c .aL (.q (.cU (.seq [.op,.op,.op,.cX false 4 (RI.ops 4),.op])) .aJ)))) (.q .o5 .l))
def YJ.v (a:R2)(b:Int)(c:Hp)(d:Sl->Int->Hp->Prop):Prop:=XH.c a c λe f=>If (!e) (d ⟨none,0,0⟩ 5 f) (bX (λg h=>If g (d ⟨none,0,0⟩ 1 h) (Zv.c a b h λi j=>d i 0 j)) λk=>If (b<0) (k true f) (Zh.c a f λl m=>k (decide (b≥l)) m))
theorem YJ.o {a b c d}(e:YJ.v a b c d):YJ.c a b c d:=Wa Tryz.func259 (x:=YJ.h) (R0 e)
def Q2.h:Hn:=.q .o3 (.k (.loop [(7,.I)] (.q .o1 (.q (.c .l .l) (.q (.k (.q .o2 .o5)) .o2)))))
def Q2.v (a:Sl)(b:Int)(c:Hp)(d:aP):Prop:=X8 [bO] (λe=>e 0 c) λf (g:Int) h=>If (g<((a.len:Nat):Int)) (Ix a.a a.len g 1 λi=>dQ i (.I b) h λj=>bM (g+1) λk=>f k j) (d h)
theorem Q2.o {a b c d}(e:Q2.v a b c d):Q2.c a b c d:=Wa Tryz.func261 (x:=Q2.h) (R0 e)
def XT.h:Hn:=.q .o1 (.q .o6 .l)
def XT.v (a:R2)(b c:Int)(d:Hp)(e:aN):Prop:=aV #[.I 2,.I 3] 3 d λf g=>X0.c a b c 1 ⟨some f,2,2⟩ g λh i=>e h i
theorem XT.o {a b c d e}(f:XT.v a b c d e):XT.c a b c d e:=Wa Tryz.func288 (x:=XT.h) (R0 f)
def YP.h:Hn:=.q .o1 (.q .o5 .l)
def YP.v (a:Int)(b:Addr)(c:Hp)(d:aO):Prop:=jD b c λe=>Ww.c e a c λf g=>d (!f) g
theorem YP.o {a b c d}(e:YP.v a b c d):YP.c a b c d:=Wa Tryz.func305 (x:=YP.h) (R0 e)
def Ye.h:Hn:=.q .o1 (.q (.q (.cU (.seq [.op,.op,.op,.op,.cX false 2 [.op,.op],.op,.cX false 7 (RI.ops 7)])) .aK) (.q .o8 .l))
def Ye.v (a:R2)(b:Int)(c:Hp)(d:aN):Prop:=XH.c a c λe f=>bX (λg h=>bX (λi j=>If i (d (-1) j) (bF a 0 j λl=>Ix l.a l.len b 1 λm=>bN m j λn=>d n j)) λo=>If g (o true h) (bF a 0 h λq=>o (decide (b≥((q.len:Nat):Int))) h)) λr=>If (!e) (r true f) (r (decide (b<0)) f)
theorem Ye.o {a b c d}(e:Ye.v a b c d):Ye.c a b c d:=Wa Tryz.func314 (x:=Ye.h) (R0 e)
def Yu.h:Hn:=.q .o1 (.q .o8 (.q (.k (.q .o3 (.c .aL (.q .o5 .aK)))) (.q .o2 .aM)))
def Yu.v (a:R2)(b:Int)(c:Hp)(d:aN):Prop:=YJ.c a b c λe f g=>If (f != 0) (d f g) (Ix e.a e.len 0 1 λh=>bN h g λi=>If (i != 0) (d 5 g) (Q2.c e 3 g λj=>d 0 j))
theorem Yu.o {a b c d}(e:Yu.v a b c d):Yu.c a b c d:=Wa Tryz.func319 (x:=Yu.h) (R0 e)
end Go.Proofs
namespace Go.Ar
open Go Go.Vc Go.Proofs
open Go.Bu (ZE)
variable {U:Hp}{F:Rg}{p q:Nat}{st:List Nat}
structure im (U:Hp) (p q:Nat) (st:List Nat):Prop where
 hd:∃cap,st.length<=cap/\bY U p [.slice (some ⟨q,0,none⟩) st.length cap]
 row:∃rest,bY U q (ints st++rest)
 ne:p≠q
 n1:16<=st.length
 n2:st.length<=1024
 n3:st.length%16=0
theorem im.bS {σ':Hp}(h:im U p q st)(e:Ext F U σ')(hp:¬F p)(hq:¬F q):im σ' p q st:=
 ⟨by obtain⟨c,a,b⟩:=h.hd;exact⟨c,a,e.bV b hp⟩,by obtain⟨r,a⟩:=h.row;exact⟨r,e.bV a hq⟩,h.ne,h.n1,h.n2,h.n3⟩
theorem im.bP {σ':Hp}(h:im U p q st)(e:aF U σ'):im σ' p q st:=h.bS e id id
theorem im.lt (h:im U p q st):p<U.size/\q<U.size:=by
 obtain⟨_,_,b⟩:=h.hd;obtain⟨_,a⟩:=h.row;exact⟨b.lt,a.lt⟩
theorem im.rS (h:im U p q st){K:Sl->Prop}(hK:∀cap,st.length<=cap->K ⟨some ⟨q,0,none⟩,st.length,cap⟩):jD (Addr.add ⟨p,0,none⟩ 0) U K:=by
 obtain⟨c,a,b⟩:=h.hd;exact b.rS rfl (hK c a)
theorem im.part (h:im U p q st){s:Sl}{a n:Nat}(ha:s.a=some ⟨q,a,none⟩)(hn:s.len=n)(hl:a+n<=st.length):cV s 1 (ints ((st.drop a).take n)) U (· = q):=by
 obtain⟨r,g⟩:=h.row;have b:((st.drop a).take n).length=n:=by simp;omega
 refine g.fX ha (by rw[Kt,b,hn];simp) λj d=>?_;rw[Kt,b]at d;rw[zd (by rw[Kt];omega)];simp[ints,zl,d,lj]
theorem jT {b o n c:Nat}{cs:List Value}(hb:bY U b cs)(hl:o+n<=cs.length)(hn:n<=1000000)(v:Nat){R:aP}
 (hR:∀σ',Ka U σ' b->bY σ' b (cs.take o++List.replicate n (.int .i64 (v:Int))++cs.drop (o+n))->R σ'):Q2.c ⟨some ⟨b,o,none⟩,n,c⟩ v U R:=by
 refine Q2.o ?_;unfold Q2.v;refine Qz (a:=bO) (λ(t:Int) p=>∃i:Nat,t=(i:Int)/\i<=n/\Ka U p b/\bY p b (cs.take o++List.replicate i (.int .i64 (v:Int))++cs.drop (o+i))) (λt _=>n-t.toNat) ⟨0,rfl,O,⟨rfl,λ_ _=>rfl⟩,by simpa using hb⟩ ?_;rintro t p ⟨i,rfl,hi,s,j⟩;refine cP (λu=>?_) λr=>?_
 ·simp only at u;refine ix O aC ?_;rw[add_lit];refine j.s0 aE λx g d=>?_;refine cT (m:=i+1) O O ⟨⟨i+1,rfl,O,⟨g.1.trans s.1,λk w=>(g.2 k w).trans (s.2 k w)⟩,?_⟩,O⟩;have:(cs.take o++List.replicate i (Value.int .i64 (v:Int))++cs.drop (o+i)).set (o+(i:Int).toNat*1) (Value.int .i64 (v:Int))=cs.take o++List.replicate (i+1) (Value.int .i64 (v:Int))++cs.drop (o+(i+1)):=by
   rw[D6 _ _ aE];have e:o+(i:Int).toNat*1-(cs.take o++List.replicate i (Value.int .i64 (v:Int))).length=0:=by simp;omega
   rw[e,xz O,List.set_cons_zero,Cj];simp[zk,yx]
  rw[this]at d;exact d
 ·simp only at r;have:i=n:=by omega
  subst this;exact hR p s j
theorem im.fill (h:im U p q st){a n:Nat}{r:List Value}{σ':Hp}{v:Nat}(hrow:bY U q (ints st++r))(hl:a+n<=st.length)(ho:Ka U σ' q)
 (hb:bY σ' q ((ints st++r).take a++List.replicate n (.int .i64 (v:Int))++(ints st++r).drop (a+n))):im σ' p q (gF st a (a+n) v):=by
 obtain⟨c,d,i⟩:=h.hd;have b:=Vs st a (a+n) v;refine⟨⟨c,by rw[b];exact d,?_⟩,⟨r,?_⟩,h.ne,by rw[b];exact h.n1,by rw[b];exact h.n2,by rw[b];exact h.n3⟩
 ·rw[b];exact WE ho i h.ne
 ·rw[Oc O hl,Hx,Hx];have e1:(ints st++r).take a=ints (st.take a):=by
   rw[pc (by rw[Kt];omega)];simp[ints]
  have e2:(ints st++r).drop (a+n)=ints (st.drop (a+n))++r:=by
   rw[List.drop_append_of_le_length (by rw[Kt];omega)];simp[ints]
  have g:ints (List.replicate (a+n-a) v)=List.replicate n (.int .i64 (v:Int)):=by
   rw[BU];simp[ints]
  rw[e1,e2]at hb;rw[g];simpa[zk]using hb
theorem im.jT (h:im U p q st){a n c:Nat}(hl:a+n<=st.length)(v:Nat){R:aP}(hR:∀σ',Ext (· = q) U σ'->im σ' p q (gF st a (a+n) v)->R σ') :
 Q2.c ⟨some ⟨q,a,none⟩,n,c⟩ v U R:=by
 obtain⟨r,b⟩:=h.row;have:=h.n2;exact Ar.jT b (by simp[Kt];omega) O v λσ' d g=>hR σ' d.ext (h.fill b hl d g)
theorem D7 (h:im U p q st){R:aO}(hR:R true U):XH.c (aW p) U R:=by
 refine XH.o ?_;unfold XH.v;refine bX.intro (cF rfl (bL (h.rS λcap _=>?_)));have:=h.n1;rw[zI aC];exact hR
theorem NA (h:im U p q st){R:aN}(hR:R ((st.length/16:Nat):Int) U):Zh.c (aW p) U R:=by
 refine Zh.o ?_;unfold Zh.v;have:=h.n2;refine bL (h.rS λcap _=>nz aB ?_);refine cT (m:=st.length/16) ?_ O hR;rw[YS O];simp
theorem MY (h:im U p q st){k:Nat}(hk:16*k+16<=st.length){R:Sl->Hp->Prop}(hR:∀c,R ⟨some ⟨q,16*k,none⟩,16,c⟩ U):Zv.c (aW p) (k:Int) U R:=by
 refine Zv.o ?_;unfold Zv.v;have:=h.n2;refine bL (h.rS λcap a=>?_);refine cT (m:=16*k) O O (cT (m:=k+1) O O (cT (m:=16*k+16) O O ?_));refine jt O aC aC ?_;have e:16*k+16-16*k=16:=by omega
 rw[zB aC,e];simp only[ze,add_lit,nK,zH];exact hR _
theorem R8 (h:im U p q st)(k:Int){R:Sl->Int->Hp->Prop}(h1:∀(x:Nat) c,k=(x:Int)->16*x+16<=st.length->R ⟨some ⟨q,16*x,none⟩,16,c⟩ 0 U)(h0:vj st.length k=false->R ⟨none,0,0⟩ 1 U) :
 YJ.c (aW p) k U R:=by
 refine YJ.o ?_;unfold YJ.v;have n3:=h.n3;refine D7 h (cD rfl (bX.intro (cP (λa=>cF rfl (h0 ?_)) λa=>NA h ?_)))
 ·simp[vj];omega
 ·refine cP (λb=>h0 ?_) λd=>?_
  ·simp[vj];omega
  ·obtain⟨x,rfl⟩:=zc (show 0<=k by omega);exact MY h O λc=>h1 x c rfl O
theorem FM {n x:Nat}(h:16*x+16<=n):vj n (x:Int)=true:=by simp[vj];omega
theorem im.first (h:im U p q st){x c:Nat}(hx:16*x+16<=st.length){K:Int->Prop}(hK:K ((st.getD (16*x) 0:Nat):Int)) :
 Ix (some ⟨q,16*x,none⟩) 16 0 1 λa=>gJ .i64 a U K:=by
 have b:=h.part (s:=⟨some ⟨q,16*x,none⟩,16,c⟩) (n:=16) rfl rfl hx;refine b.tx (i:=0) (x:=st.getD (16*x) 0) ?_ hK;simp[zl,lj,zQ];rw[cW O];simp
theorem O9 (h:im U p q st)(k:Int){R:aN}(hR:∀σ',Ext (· = q) U σ'->im σ' p q (je st k)->R (kG st k) σ'):Yu.c (aW p) k U R:=by
 refine Yu.o ?_;unfold Yu.v;refine R8 h k (λx c d g=>?_) λd=>?_
 ·subst d;have b:=FM g;refine cD rfl (h.first (c:=c) g (cN (λi=>?_) λi=>?_))
  ·have e1:¬st.getD (16*x) 0=0:=by simpa using i
   have:kG st (x:Int)=5:=by simp only[kG,b,dF,zT,zB e1]
   have e2:je st (x:Int)=st:=by simp[je,this]
   have:=hR U (Ext.refl _ _);rw[e2]at this;simpa[*]using this h
  ·have e1:st.getD (16*x) 0=0:=by simpa using i
   have a:kG st (x:Int)=0:=by simp only[kG,b,dF,zT,e1]
   have e2:je st (x:Int)=gF st (16*x) (16*x+16) 3:=by simp[je,a]
   refine h.jT g 3 λσ' e j=>?_;have:=hR σ' e;rw[a,e2]at this;exact this j
 ·have a:kG st k=1:=by simp[kG,d]
  have e2:je st k=st:=by simp[je,a]
  refine cF rfl ?_;have:=hR U (Ext.refl _ _);rw[a,e2]at this;exact this h
theorem IA {s:Sl}{xs:List Nat}(h:cV s 1 (ints xs) U F)(hl:xs.length<=1000000)(v:Nat){R:aN}(h1:∀i:Nat,xs[i]?=some v->(∀j:Nat,j<i->xs[j]?≠some v)->R (i:Int) U)(h0:v∉xs->R (-1) U) :
 WZ.c s (v:Int) U R:=by
 refine WZ.o ?_;unfold WZ.v;have x:=h.qd;refine Qz (a:=bO) (λ(t:Int) w=>∃i:Nat,t=(i:Int)/\i<=xs.length/\w=U/\∀j,j<i->xs[j]?≠some v) (λt _=>xs.length-t.toNat) ⟨0,rfl,O,rfl,λj d=>O⟩ ?_;rintro t w ⟨i,rfl,hi,rfl,b⟩;refine cP (λA=>?_) λz=>?_
 ·have r:i<xs.length:=by omega
  have g:xs[i]?=some xs[i]:=cW r;refine h.tx g ?_;rw[l7];refine cN (λu=>?_) λu=>?_
  ·have:v=xs[i]:=by simpa using u
   exact h1 i (by rw[g,this]) b
  ·have p:¬v=xs[i]:=by simpa using u
   refine cT (m:=i+1) O O ⟨⟨i+1,rfl,O,rfl,λj d=>?_⟩,O⟩;by_cases e:j=i
   ·subst e;rw[g];intro e2;cases e2;exact p rfl
   ·exact b j O
 ·refine h0 λy=>?_;obtain⟨j,d⟩:=zP y;have:=(cY.1 d).1;exact b j O d
theorem Nf {s:Sl}{xs:List Nat}(h:cV s 1 (ints xs) U F)(hl:xs.length<=1000000)(v:Nat){R:aO}(hR:R (xs.contains v) U):Ww.c s (v:Int) U R:=by
 refine Ww.o ?_;unfold Ww.v;refine IA h hl v (λi hi _=>?_) λa=>?_
 ·have:xs.contains v=true:=by simpa using zG hi
  rw[this]at hR;rw[zI O];exact hR
 ·have:xs.contains v=false:=by simpa using a
  rw[this]at hR;exact hR
theorem G6 {s:Sl}{xs:List Int}(h:cV s 1 (xs.map (Value.int .i64)) U F)(hl:xs.length<=1000000000)(v:Int){R:aO}(hR:R (xs.contains v) U):Ww.c s v U R:=by
 refine Ww.o ?_;unfold Ww.v;refine WZ.o ?_;unfold WZ.v;have x:s.len=xs.length:=by have:=h.1;simp at this;omega
 refine Qz (a:=bO) (λ(t:Int) u=>∃i:Nat,t=(i:Int)/\i<=xs.length/\u=U/\∀j,j<i->xs[j]?≠some v) (λt _=>xs.length-t.toNat) ⟨0,rfl,O,rfl,λj d=>O⟩ ?_;rintro t u ⟨i,rfl,hi,rfl,b⟩;refine cP (λz=>?_) λy=>?_
 ·have p:i<xs.length:=by omega
  have w:xs[i]?=some xs[i]:=cW p;refine h.lL w (cN (λr=>?_) λr=>?_)
  ·have e:v=xs[i]:=by simpa using r
   have:xs.contains v=true:=by rw[e];simp
   rw[this]at hR;show R (decide ((i:Int)≥0)) _;rw[zI O];exact hR
  ·have g:¬v=xs[i]:=by simpa using r
   refine cT (m:=i+1) O O ⟨⟨i+1,rfl,O,rfl,λj d=>?_⟩,O⟩;by_cases e:j=i
   ·subst e;rw[w];intro e2;cases e2;exact g rfl
   ·exact b j O
 ·have:xs.contains v=false:=by
   simp only[s8,decide_eq_false_iff_not];intro hm;obtain⟨j,d⟩:=zP hm;have:=(cY.1 d).1;exact b j O d
  rw[this]at hR;exact hR
def Jh (f:Fv)(p:Nat->Bool)(U:Hp):Prop:=∀(x:Nat) (σ':Hp) (R:aO),aF U σ'->(∀σ'',aF σ' σ''->R (p x) σ'')->VO Tryz.prog f [.int .i64 (x:Int)] [.one .b] σ' R
theorem R4 {s:Sl}{xs:List Nat}(h:cV s 1 (ints xs) U F)(hl:xs.length<=1000000){f:Fv}{pr:Nat->Bool}(hf:Jh f pr U){R:aO}(hR:∀σ',aF U σ'->R (xs.any pr) σ') :
 WQ.c s f U R:=by
 refine WQ.o ?_;unfold WQ.v;refine Xg.o ?_;unfold Xg.v;have w:=h.qd;refine Qz (a:=bO) (λ(t:Int) u=>∃i:Nat,t=(i:Int)/\i<=xs.length/\aF U u/\∀j x,j<i->xs[j]?=some x->pr x=false) (λt _=>xs.length-t.toNat) ⟨0,rfl,O,Ext.refl _ _,λj x r=>O⟩ ?_;rintro t u ⟨i,rfl,hi,e,d⟩;refine cP (λz=>?_) λy=>?_
 ·have g:i<xs.length:=by omega
  have p:xs[i]?=some xs[i]:=cW g;refine(aH.bP h e).tx p (hf _ _ _ e λA e2=>?_);cases hp:pr xs[i]
  ·refine cD rfl (cT (m:=i+1) O O ⟨⟨i+1,rfl,O,e.trans e2,λj x r b=>?_⟩,O⟩);by_cases e3:j=i
   ·subst e3;rw[p]at b;cases b;exact hp
   ·exact d j x O b
  ·refine cF rfl ?_;have:xs.any pr=true:=zy.2 ⟨_,kv g,hp⟩;show R (decide ((i:Int)≥0)) _;rw[zI O,←this];exact hR _ (e.trans e2)
 ·have:xs.any pr=false:=by
   rw[mB];intro x p;obtain⟨j,r⟩:=zP p;have:=(cY.1 r).1;simp[d j x O r]
  show R (decide ((-1:Int)≥0)) _;rw[show decide ((-1:Int)≥0)=false from rfl,←this];exact hR _ e
theorem O5 {c:Nat}{s:Sl}{fr:List Nat}{σ0:Hp}(hb:bY σ0 c [.slice s.a s.len s.cap])(hs:cV s 1 (ints fr) σ0 F)(hl:fr.length<=1000):Jh ⟨305,#[],#[.pointer (some ⟨c,0,none⟩)]⟩ (λx=>!fr.contains x) σ0:=by
 intro x σ' R e hR;refine GH (all := #[.int .i64 (x:Int),.pointer (some ⟨c,0,none⟩)]) (by kernel_rfl) aA ?_;refine YP.o ?_;unfold YP.v;refine(e.bV hb id).vE rfl ?_;exact Nf (aH.bP hs e) O x (hR _ (Ext.refl _ _))
theorem LK (h:im U p q st)(a m:Int)(v:Nat){s:Sl}{fr:List Nat}(hs:cV s 1 (ints fr) U F)(hl:fr.length<=1000){R:aN}(hR:∀σ',Ext (· = q) U σ'->im σ' p q (U4 st a m v fr)->R (oS st a m fr) σ') :
 X0.c (aW p) a m v s U R:=by
 refine X0.o ?_;unfold X0.v;have n2:=h.n2;have Q:=h.lt.2;refine nw (cs:=[.slice s.a s.len s.cap]) λv1 P j G=>?_;have g:=h.bP j;have d:¬(0<=a/\1<=m/\m<=st.length-a)->R 1 v1:=λJ=>by
  have b:ZE st.length a m=false:=by simp only[ZE,←vF];exact zJ J
  have e1:oS st a m fr=1:=by simp[oS,b]
  have e2:U4 st a m v fr=st:=by simp[U4,e1]
  have:=hR v1 j.to;rw[e1,e2]at this;exact this g
 refine D7 g (cD rfl (bX.intro ?_));refine cP (λK=>bX.intro (cF rfl (bX.intro (cF rfl (cF rfl (d O)))))) λK=>?_;refine bX.intro (cP (λD=>bX.intro (cF rfl (cF rfl (d O)))) λD=>?_);refine bL (g.rS λcap A=>bX.intro (cP (λw=>cF rfl (d (by simp only at *;omega))) λw=>?_));simp only at w;refine bL (g.rS λcap A=>ar aC aC (cP (λC=>d (by simp only at *;omega)) λC=>?_));simp only at C;obtain⟨x,rfl⟩:=zc (show 0<=a by omega);obtain⟨y,rfl⟩:=zc (show 0<=m by omega);have i:x+y<=st.length:=by omega
 have b:ZE st.length (x:Int) (y:Int)=true:=by simp only[ZE,zF,zV];omega
 refine bL (g.rS λcap A=>cT (m:=x+y) O O (jt O aC aC ?_));rw[zB aC];simp only[ze,add_lit,nK,zH];have M:x+y-x=y:=by omega
 rw[M];have N:=g.part (s:=⟨some ⟨q,x,none⟩,y,cap-x⟩) (n:=y) rfl rfl i;refine R4 N aE (O5 (s:=s) G (aH.bP hs j) hl) λE e2=>?_;have B:=g.bP e2;have r:((st.drop x).take y).any (λz=>!fr.contains z) = !vY st x y fr:=by
  rw[vY,List.all_eq_not_any_not,Bool.not_not]
 rw[r];cases hA:vY st x y fr
 ·have e1:oS st (x:Int) (y:Int) fr=5:=by simp[oS,b,hA]
  have u:U4 st (x:Int) (y:Int) v fr=st:=by simp[U4,e1]
  have:=hR E (j.to.trans e2.to);rw[e1,u]at this;exact cF rfl (this B)
 ·have e1:oS st (x:Int) (y:Int) fr=0:=by simp[oS,b,hA]
  have u:U4 st (x:Int) (y:Int) v fr=gF st x (x+y) v:=by simp[U4,e1]
  refine cD rfl (B.jT i v λv3 L H=>?_);have:=hR v3 (j.to.trans (e2.to.trans L));rw[e1,u]at this;exact this H
theorem yW {h:Hp}{b:Nat}{xs:List Nat}{n c:Nat}(hb:bY h b (ints xs))(hn:n=xs.length):cV ⟨some ⟨b,0,none⟩,n,c⟩ 1 (ints xs) h (· = b):=
 hb.fX (o:=0) rfl (by rw[Kt];simp[hn]) λj _=>by rw[zH]
theorem Pq (h:im U p q st)(a m:Int){R:aN}(hR:∀σ',Ext (· = q) U σ'->im σ' p q (U4 st a m 1 [2,3])->R (oS st a m [2,3]) σ'):XT.c (aW p) a m U R:=by
 refine XT.o ?_;unfold XT.v;refine nw (cs:=ints [2,3]) λv i e d=>?_;exact LK (h.bP e) a m 1 (yW d rfl) aA λσ' g b=>hR σ' (e.to.trans g) b
theorem Ol (h:im U p q st)(a m:Int){R:aN}(hR:∀σ',Ext (· = q) U σ'->im σ' p q (U4 st a m 2 [1])->R (oS st a m [1]) σ'):XI.c (aW p) a m U R:=by
 refine XI.o ?_;unfold XI.v;refine nw (cs:=ints [1]) λv i e d=>?_;exact LK (h.bP e) a m 2 (yW d rfl) aA λσ' g b=>hR σ' (e.to.trans g) b
def Bc (st:List Nat)(x:Int):Int:=if 0<=x/\x<st.length then((st.getD x.toNat 0:Nat):Int)else -1
theorem Tz (h:im U p q st)(x:Int){R:aN}(hR:R (Bc st x) U):Ye.c (aW p) x U R:=by
 refine Ye.o ?_;unfold Ye.v;have n2:=h.n2;unfold Bc at hR;refine D7 h (bX.intro (cD rfl (bX.intro (cP (λi=>cF rfl ?_) λi=>bL (h.rS λcap j=>cP (λb=>?_) λb=>?_)))))
 ·rw[zB O]at hR;exact hR
 ·simp only at b;rw[zB O]at hR;exact hR
 ·simp only at b;rw[zC O]at hR;obtain⟨y,rfl⟩:=zc (show 0<=x by omega);refine bL (h.rS λcap j=>?_);have d:=h.part (s:=⟨some ⟨q,0,none⟩,st.length,cap⟩) (a:=0) (n:=st.length) rfl rfl O;rw[yN,lN]at d;have g:y<st.length:=by omega
  refine d.tx (cW g) ?_;simpa[zQ,cW g]using hR
theorem Ga {s:Sl}{vs:List Value}(h:cV s 1 vs U F)(h1:∀v∈vs,dY v=true)(hl:s.len<=1000000){R:Sl->Hp->Prop}
 (hR:∀s' σ',s'.len=s.len->aF U σ'->bT s' 1 vs σ' (λb=>U.size<=b)->R s' σ'):W3.c s U R:=by
 refine W3.o ?_;unfold W3.v;exact BP h aB rfl h1 aB hl hR
theorem MQ {n:Nat}(h1:16<=n)(h2:n<=1024)(h3:n%16=0){R:Option Addr->Int->Hp->Prop}(hR:∀σ' p q,aF U σ'->U.size<=p->U.size<=q->im σ' p q (List.replicate n 0)->R (some ⟨p,0,none⟩) 0 σ'):Vi.c (n:Int) U R:=by
 refine Vi.o ?_;unfold Vi.v;refine bX.intro (fZ O (bX.intro (fZ O (nz aB ?_))));rw[Kh O];have:(((n:Int)%16) != 0)=false:=by
  have:((n:Int)%16)=0:=by omega
  rw[this];rfl
 rw[this];refine cD rfl (mk O O λv i e b=>nw (cs:=[.slice (some ⟨U.size,0,none⟩) n n]) λj d e2 a=>?_);have g:(List.replicate n [Value.int .i64 0]).flatten=ints (List.replicate n 0):=by
  have:[Value.int .i64 0]=ints [0]:=rfl;rw[this];clear b hR
  induction n with
  | zero=>rfl
  | succ n ih=>simp[sk,ints]
 rw[g]at b;refine hR _ _ _ (e.trans e2) O (zD _) ⟨⟨n,by simp,by simpa using a⟩,⟨[],by simpa using e2.bV b id⟩,O,by simpa using h1,by simpa using h2,by simpa using h3⟩
end Go.Ar
namespace Go.Proofs
open Go.Vc
set_option maxRecDepth 100000
def Z3.h:Hn:=.q .o1 (.q (.q .o3 .aJ) (.q (.cU (.tail 10 (RI.ops 10) [.op])) .l))
def Z3.v (a:R2)(b:Hp)(c:Int->Int->Hp->Prop):Prop:=aV #[.I 0,.I 0] 268 b λd e=>YB.c a e λf g=>If (!f) (aR d 0 (.I 0) g λh=>aR d 1 (.I 0) h λi=>aQ d 0 i λj=>aQ d 1 i λk=>c j k i) (bE a 0 g λm=>bW a λn=>bN ((n.add 1).add 1) g λo=>aR d 0 (.I m) g λp=>aR d 1 (.I o) p λq=>aQ d 0 q λr=>aQ d 1 q λs=>c r s q)
theorem Z3.o {a b c}(d:Z3.v a b c):Z3.c a b c:=Wa Tryz.func198 (x:=Z3.h) (R0 d)
def YH.h:Hn:=.q .o1 (.q (.q .o3 .aK) (.q .o6 .l))
def YH.v (a:R2)(b:Hp)(c:aN):Prop:=YB.c a b λd e=>If (!d) (c 0 e) (bF a 4 e λg=>c ((g.len:Nat):Int) e)
theorem YH.o {a b c}(d:YH.v a b c):YH.c a b c:=Wa Tryz.func201 (x:=YH.h) (R0 d)
def YB.h:Hn:=.q .o1 (.q (.cU (.seq [.op,.op,.op,.cX true 6 (RI.ops 6),.op])) .l)
def YB.v (a:R2)(b:Hp)(c:aO):Prop:=bX (λd e=>c d e) λf=>If (!a.isNone) (bF a 4 b λh=>f (decide (((h.len:Nat):Int)>0)) b) (f false b)
theorem YB.o {a b c}(d:YB.v a b c):YB.c a b c:=Wa Tryz.func268 (x:=YB.h) (R0 d)
def Vj.h:Hn:=.q .o3 (.q .o7 (.q (.q (.cU (.seq [.op,.op,.op,.cX false 2 [.op,.op],.op,.cX false 5 (RI.ops 5)])) .aJ) (.q (.cU (.held true [] (.tk [0,1,2] (.all [(3,.take 4 (.all [(5,.take 6 (.take 7 (.done)))]))])))) .l)))
def Vj.v (a b c d:Int)(e:Hp)(f:Option Addr->Int->Hp->Prop):Prop:=aV #[.I b,.I c,.I d] 149 e λg h=>aQ g 0 h λi=>aQ g 1 h λj=>aQ g 2 h λk=>ZU.c i j k h λl m n=>bX (λo p=>bX (λq r=>If q (f none 1 r) (dW r λs=>aS s g 0 λt=>aS s g 1 λu=>aS s g 2 λv=>Mk l l 8 3 [.I 0] r λw x=>And (s x) <| aV #[.I a,.I t,.I u,.I v,.slice w.a w.len w.cap,.I 0] 339 x λy z=>And (s z) <| f (some y) 0 z)) λaa=>If o (aa true p) (aQ g 1 p λab=>bM (1024-ab) λac=>aa (decide (a>ac)) p)) λad=>If (m != 0) (ad true n) (ad (decide (a<0)) n)
theorem Vj.o {a b c d e f}(g:Vj.v a b c d e f):Vj.c a b c d e f:=Wa Tryz.func290 (x:=Vj.h) (R0 g)
def ZT.h:Hn:=.q .o1 (.q .o8 (.q (.k (.q .o3 (.c .aL (.q .o9 .aK)))) (.q .o4 .aM)))
def ZT.v (a:R2)(b:Int)(c:Hp)(d:aN):Prop:=Yv.c a b c λe f g=>If (f != 0) (d f g) (bF a 4 g λi=>Ix i.a i.len e 1 λj=>bN j g λk=>If (k==0) (d 9 g) (aV #[.I e] 3 g λl m=>Zw.c a 0 ⟨some l,1,1⟩ m λn=>d 0 n))
theorem ZT.o {a b c d}(e:ZT.v a b c d):ZT.c a b c d:=Wa Tryz.func311 (x:=ZT.h) (R0 e)
def ZN.h:Hn:=.q .o2 (.q (.q .o3 .aJ) (.q .o6 (.q (.q .o2 .aJ) (.q .o4 (.q .o5 .l)))))
def ZN.v (a:R2)(b:Hp)(c:Int->Int->Hp->Prop):Prop:=YB.c a b λd e=>If (!d) (c 0 5 e) (bF a 4 e λg=>WZ.c g 0 e λh i=>If (h<0) (c 0 6 i) (aV #[.I h] 3 i λj k=>Zw.c a 1 ⟨some j,1,1⟩ k λl=>YM.c a h l λm n=>c m 0 n))
theorem ZN.o {a b c}(d:ZN.v a b c):ZN.c a b c:=Wa Tryz.func316 (x:=ZN.h) (R0 d)
def Yn.h:Hn:=.q .o2 (.q (.q .o3 .aJ) (.q .o5 (.q (.q (.cU (.gP false [] [(32,.one .b)] (.take 0 (.take 1 (.all [(2,.take 3 (.take 4 (.split 18 (.take 5 (.take 6 (.take 7 (.take 8 (.take 9 (.take 10 (.take 11 (.take 12 (.take 13 (.take 14 (.take 15 (.take 16 (.take 17 (.take 18 (.done))))))))))))))) (.take 5 (.take 6 (.take 7 (.take 8 (.take 11 (.take 12 (.take 13 (.take 14 (.all [(9,.take 10 (.all [(15,.take 16 (.take 17 (.take 18 (.done))))])),(15,.all [(9,.take 10 (.take 16 (.take 17 (.take 18 (.done)))))])]))))))))))))]))))) .aJ) (.q .o9 .l))))
def Yn.v (a:R2)(b:Int)(c:Hp)(d:Int->Int->Hp->Prop):Prop:=YB.c a c λe f=>If (!e) (d 0 5 f) (YM.c a 0 f λg h=>bM (b-g) λi=>Jn [.b] (λ(j:Bool) k=>If j (d 0 8 k) (bW a λl=>bN ((l.add 1).add 0) k λm=>Nz m<|bM (i.tdiv m) λn=>d n 0 k)) λo=>YM.c a 0 h λp q=>If (b<p) (o true q) (bW a λr=>bW a λs=>(aX r 4 q λt=>bN ((s.add 1).add 0) q λu=>bM (((t.len:Nat):Int)*u) λv=>o (decide (i≥v)) q) ∧ (bN ((s.add 1).add 0) q λw=>aX r 4 q λx=>bM (((x.len:Nat):Int)*w) λy=>o (decide (i≥y)) q)))
theorem Yn.o {a b c d}(e:Yn.v a b c d):Yn.c a b c d:=Wa Tryz.func322 (x:=Yn.h) (R0 e)
def YL.h:Hn:=.q .o2 (.q .o8 (.q (.q .o2 (.c (.q .o3 .l) .l)) (.q .gD .l)))
def YL.v (a:R2)(b:Int)(c:Hp)(d:Bool->Int->Hp->Prop):Prop:=Yv.c a b c λe f g=>If (f != 0) (d false f g) (bF a 4 g λi=>Ix i.a i.len e 1 λj=>bN j g λk=>d (k==1) 0 g)
theorem YL.o {a b c d}(e:YL.v a b c d):YL.c a b c d:=Wa Tryz.func324 (x:=YL.h) (R0 e)
def Yv.h:Hn:=.q .o2 (.q .o8 (.q (.q (.cU (.seq [.op,.op,.op,.cX true 5 (RI.ops 5)])) .aJ) (.q .o4 .l)))
def Yv.v (a:R2)(b:Int)(c:Hp)(d:Int->Int->Hp->Prop):Prop:=Yn.c a b c λe f g=>bX (λh i=>If h (d 0 8 i) (d e f i)) λj=>If (f==0) (YM.c a e g λk l=>j (k != b) l) (j false g)
theorem Yv.o {a b c d}(e:Yv.v a b c d):Yv.c a b c d:=Wa Tryz.func335 (x:=Yv.h) (R0 e)
def Zw.h:Hn:=.q .o3 (.k (.loop [(10,.I)] (.q .o1 (.q (.c .l .l) (.q (.k (.q .o3 (.q (.cU (.tail 16 (RI.ops 16) [.op])) .o8))) .o2)))))
def Zw.v (a:R2)(b:Int)(c:Sl)(d:Hp)(e:aP):Prop:=X8 [bO] (λf=>f 0 d) λg (h:Int) i=>If (h<((c.len:Nat):Int)) (Ix c.a c.len h 1 λj=>bN j i λk=>bE a 5 i λm=>bF a 4 i λo=>Ix o.a o.len k 1 λp=>bN p i λq=>bM (b-q) λr=>bM (m+r) λs=>bW a λt=>aR t 5 (.I s) i λu=>bF a 4 u λw=>Ix w.a w.len k 1 λx=>dQ x (.I b) u λy=>bM (h+1) λz=>g z y) (e i)
theorem Zw.o {a b c d e}(f:Zw.v a b c d e):Zw.c a b c d e:=Wa Tryz.func336 (x:=Zw.h) (R0 f)
def YM.h:Hn:=.q .o1 (.q (.oq 14) .l)
def YM.v (a:R2)(b:Int)(c:Hp)(d:aN):Prop:=bE a 0 c λf=>bM (f*256) λg=>bW a λh=>bN ((h.add 1).add 0) c λi=>bM (b*i) λj=>bM (g+j) λk=>d k c
theorem YM.o {a b c d}(e:YM.v a b c d):YM.c a b c d:=Wa Tryz.func339 (x:=YM.h) (R0 e)
end Go.Proofs
namespace Go.Ar
open Go Go.Vc Go.Proofs
variable {U:Hp}{F:Rg}{p q:Nat}{c:cA}{s:cH}
def n4 (tk:List Bool):List Nat:=tk.map λb=>if b then 1 else 0
theorem wA (tk:List Bool):(n4 tk).length=tk.length:=by simp[n4]
theorem Gm {tk:List Bool}{i:Nat}{b:Bool}(h:tk[i]?=some b):(n4 tk)[i]?=some (if b then 1 else 0):=by simp[n4,h]
theorem Sg (tk:List Bool)(i:Nat)(b:Bool):n4 (tk.set i b)=(n4 tk).set i (if b then 1 else 0):=by simp[n4,wc]
structure ig (U:Hp) (p q:Nat) (c:cA) (s:cH):Prop where
 hd:∃cap,c.n<=cap/\bY U p [.int .i64 (s.st:Int),.int .i64 (c.size:Int),.int .i64 (c.aG:Int),.int .i64 (c.batch:Int),.slice (some ⟨q,0,none⟩) c.n cap,.int .i64 (s.many:Int)]
 row:∃rest,bY U q (ints (n4 s.tk)++rest)
 ne:p≠q
 len:s.tk.length=c.n
 ok:c.ok
 fit:s.st+c.aG<=1024
theorem ig.bS {σ':Hp}(h:ig U p q c s)(e:Ext F U σ')(hp:¬F p)(hq:¬F q):ig σ' p q c s:=
 ⟨by obtain⟨c,a,b⟩:=h.hd;exact⟨c,a,e.bV b hp⟩,by obtain⟨r,a⟩:=h.row;exact⟨r,e.bV a hq⟩,h.ne,h.len,h.ok,h.fit⟩
theorem ig.bP {σ':Hp}(h:ig U p q c s)(e:aF U σ'):ig σ' p q c s:=h.bS e id id
theorem ig.lt (h:ig U p q c s):p<U.size/\q<U.size:=by
 obtain⟨_,_,b⟩:=h.hd;obtain⟨_,a⟩:=h.row;exact⟨b.lt,a.lt⟩
theorem ig.rS (h:ig U p q c s){K:Sl->Prop}(hK:∀cap,c.n<=cap->K ⟨some ⟨q,0,none⟩,c.n,cap⟩):jD (Addr.add ⟨p,0,none⟩ 4) U K:=by
 obtain⟨b,a,d⟩:=h.hd;exact d.rS rfl (hK b a)
theorem ig.rI (h:ig U p q c s){i:Nat}{x:Int}(hx:∀a b:Value,([.int .i64 (s.st:Int),.int .i64 (c.size:Int),.int .i64 (c.aG:Int),.int .i64 (c.batch:Int),a,.int .i64 (s.many:Int)]:List Value)[0+i]?=some (.int .i64 x)){K:Int->Prop}(hK:K x):gJ .i64 (Addr.add ⟨p,0,none⟩ i) U K:=by
 obtain⟨j,g,d⟩:=h.hd;exact d.rI (hx _ .nilFunc) hK
theorem ig.fE (h:ig U p q c s){i j:Nat}{x:Int}(hx:∀a b:Value,([.int .i64 (s.st:Int),.int .i64 (c.size:Int),.int .i64 (c.aG:Int),.int .i64 (c.batch:Int),a,.int .i64 (s.many:Int)]:List Value)[0+i+j]?=some (.int .i64 x)){K:Int->Prop}(hK:K x):gJ .i64 (Addr.add (Addr.add ⟨p,0,none⟩ i) j) U K:=by
 obtain⟨m,g,d⟩:=h.hd;exact d.fE (hx _ .nilFunc) hK
theorem ig.lD (h:ig U p q c s)(cap:Nat):cV ⟨some ⟨q,0,none⟩,c.n,cap⟩ 1 (ints (n4 s.tk)) U (· = q):=by
 obtain⟨r,a⟩:=h.row;refine a.fX (o:=0) rfl (by rw[Kt,wA,h.len];simp) λj b=>?_;rw[zH,zd b]
theorem Aa (h:ig U p q c s){R:aO}(hR:R true U):YB.c (aW p) U R:=by
 refine YB.o ?_;unfold YB.v;refine bX.intro (cF rfl (bL (h.rS λcap _=>?_)));have:=h.ok.sA;rw[zI aC];exact hR
theorem WeV (h:ig U p q c s){R:aN}(hR:R (c.n:Int) U):YH.c (aW p) U R:=by
 refine YH.o ?_;unfold YH.v;exact Aa h (cD rfl (bL (h.rS λcap _=>hR)))
theorem yB (h:ig U p q c s)(i:Nat)(hi:i<=1000){R:aN}(hR:R ((at_ c s i:Nat):Int) U):YM.c (aW p) (i:Int) U R:=by
 refine YM.o ?_;unfold YM.v;have a:=h.ok;unfold cA.ok at a;have:=h.fit;have b:i*c.size<=1000*512:=mr hi O;refine bL (h.rI (λ_ _=>rfl) (cT (m:=s.st*256) aA O (bL (h.fE (λ_ _=>rfl) ?_))));exact cT (m:=i*c.size) aA O (cT (m:=at_ c s i) (by simp[at_]) (by unfold at_;omega) hR)
theorem DC (h:ig U p q c s)(x:Int)(hx2:x<=9223372036854775807){R:Int->Int->Hp->Prop}(h1:∀i,idx c s x=some i->R (i:Int) 0 U)(h0:idx c s x=none->R 0 8 U):Yn.c (aW p) x U R:=by
 refine Yn.o ?_;unfold Yn.v;have B:=h.ok;unfold cA.ok at B;have A:=h.ok.kM;have r:=h.fit;have a:=h.len;have E:c.n*c.size<=128*512:=mr A O;refine Aa h (cD rfl (yB h 0 O ?_));have w:at_ c s 0=s.st*256:=by simp[at_]
 rw[w];refine vH ?_;refine Jn.intro (yB h 0 O ?_);rw[w];refine cP (λD=>cF rfl (h0 ?_)) λC=>?_
 ·unfold idx;rw[zC O]
 ·rw[Up O O];obtain⟨y,F⟩:=zc (show 0<=x by omega);have key:If (decide (x-((s.st*256:Nat):Int)≥((c.n*c.size:Nat):Int))) (R 0 8 U)
   (bW (some ⟨p,0,none⟩) λg=>gJ .i64 ((g.add 1).add 0) U λb=>Nz b<|Ar .i64 ((x-((s.st*256:Nat):Int)).tdiv b) λj=>R j 0 U):=by
   refine cP (λz=>h0 ?_) λu=>bL (h.fE (λ_ _=>rfl) (nz O ?_))
   ·unfold idx;rw[a,zC O]
   ·have:idx c s x=some ((x-((s.st*256:Nat):Int)).toNat/c.size):=by unfold idx;rw[a,zB O]
    refine cT (m:=(x-((s.st*256:Nat):Int)).toNat/c.size) ?_ ?_ (h1 _ this)
    ·rw[YS O];have:x-((s.st*256:Nat):Int)=(((x-((s.st*256:Nat):Int)).toNat:Nat):Int):=by omega
     rw[this];simp
    ·have:=Nat.div_le_self (x-((s.st*256:Nat):Int)).toNat c.size;omega
  refine bL (bL ⟨h.rS λcap d=>h.fE (λ_ _=>rfl) (cT (m:=c.n*c.size) aA O key),h.fE (λ_ _=>rfl) (h.rS λcap d=>cT (m:=c.n*c.size) aA O key)⟩)
theorem Ly (h:ig U p q c s)(x:Int)(hx2:x<=9223372036854775807){R:Int->Int->Hp->Prop}(h1:∀i,obj c s x=some i->i<c.n->R (i:Int) 0 U)(h0:obj c s x=none->R 0 8 U):Yv.c (aW p) x U R:=by
 refine Yv.o ?_;unfold Yv.v;have d:=h.ok;unfold cA.ok at d;have g:=h.ok.kM;refine DC h x hx2 (λi hi=>bX.intro (cF rfl ?_)) λhi=>bX.intro (cD rfl (cD rfl (h0 (by unfold obj;rw[hi]))));have a:=((Ut O).1 hi).2.2;rw[h.len]at a;refine yB h i O (cN (λb=>h0 ?_) λb=>h1 i ?_ a)
 ·have:¬x=((at_ c s i:Nat):Int):=λe=>by rw[e]at b;simp at b
  unfold obj;rw[hi];simp[this]
 ·have:x=((at_ c s i:Nat):Int):=by
   have:((at_ c s i:Nat):Int)=x:=by simpa using b
   exact this.symm
  unfold obj;rw[hi];simp[this]
def cH.is (s:cH)(i:Nat):Bool:=s.tk.getD i false
theorem cH.lr {s:cH}{i:Nat}(hi:i<s.tk.length):s.tk[i]?=some (s.is i):=by
 simp[cH.is,zQ,cW hi]
theorem Og (h:ig U p q c s)(x:Int)(hx2:x<=9223372036854775807){R:Bool->Int->Hp->Prop}(h1:∀i,obj c s x=some i->R (s.is i) 0 U)(h0:obj c s x=none->R false 8 U):YL.c (aW p) x U R:=by
 refine YL.o ?_;unfold YL.v;refine Ly h x hx2 (λi hi a=>cD rfl (bL (h.rS λcap b=>?_))) λhi=>cF rfl (h0 hi);rw[←h.len]at a;refine(h.lD cap).tx (Gm (cH.lr a)) ?_;have:=h1 i hi;cases hb:s.is i<;>rw[hb]at this<;>simpa using this
theorem yD {s:cH}{i:Nat}(hi:i<s.tk.length)(v:Bool):((s.put i v).many:Int)=s.many+((if v then 1 else 0)-(if s.is i then 1 else 0)):=by
 have key:∀(l:List Bool) (i:Nat) (b:Bool),l[i]?=some b->(((l.set i v).count true:Nat):Int)=(l.count true:Nat)+((if v then 1 else 0)-(if b then 1 else 0)):=by
  intro l
  induction l with
  | nil=>intro i b h;simp at h
  | cons x l ih=>
   intro i b h;cases i with
   | zero=>
    simp at h;subst h;cases v<;>cases x<;>simp[List.count_cons]<;>omega
   | succ i=>
    have:=ih i b (by simpa using h);simp only[tC,List.count_cons]
    push_cast
    omega
 exact key s.tk i _ (cH.lr hi)
theorem B8 (s:cH):s.many<=s.tk.length:=List.count_le_length
theorem Es (h:ig U p q c s){i:Nat}(hi:i<c.n)(v:Bool){sl:Sl}{G:Rg}(hs:cV sl 1 (ints [i]) U G){R:aP}(hR:∀σ',Ext (λb=>b=p\/b=q) U σ'->ig σ' p q c (s.put i v)->R σ') :
 Zw.c (aW p) (if v then 1 else 0) sl U R:=by
 refine Zw.o ?_;unfold Zw.v;have J:sl.len=1:=hs.qd;have V:=h.ok.kM;have E:=h.len;have P:=B8 s;have y:i<s.tk.length:=by omega
 have j:=yD y v;refine Qz (a:=bO) (λ(t:Int) C=>t=0/\C=U\/t=1/\Ext (λb=>b=p\/b=q) U C/\ig C p q c (s.put i v)) (λt _=>1-t.toNat) (.inl ⟨rfl,rfl⟩) ?_;rintro t C (⟨rfl,rfl⟩|⟨rfl,e,N⟩)
 ·refine l0 O ?_;refine hs.tx (i:=0) (x:=i) rfl (bL (h.rI (λ_ _=>rfl) (bL (h.rS λcap H=>?_))));refine(h.lD cap).tx (Gm (cH.lr y)) ?_;have K:(0:Int)<=(if v then 1 else 0)/\(if v then(1:Int)else 0)<=1:=by cases v<;>simp
  have L:(0:Int)<=((if s.is i then 1 else 0:Nat):Int)/\((if s.is i then 1 else 0:Nat):Int)<=1:=by cases s.is i<;>simp
  have g:((if s.is i then 1 else 0:Nat):Int)=(if s.is i then 1 else 0):=by cases s.is i<;>rfl
  refine ar O O (ar O O (bL ?_));obtain⟨M,D,hd⟩:=h.hd;obtain⟨r,B⟩:=h.row;refine hd.s1 aA λQ u w=>?_;have d:=WE u B (Ne.symm h.ne);refine bL (w.rS rfl (ix O aC ?_));rw[add_lit];refine d.s0 (by simp[Kt,wA];omega) λS A z=>?_;refine cT (m:=1) O O ⟨.inr ⟨rfl,?_,?_⟩,by decide⟩
  ·exact(Ext.eV (F:=λb=>b=p\/b=q) u (.inl rfl)).trans (Ext.eV A (.inr rfl))
  ·refine⟨⟨M,D,?_⟩,⟨r,?_⟩,h.ne,by simp[cH.put,h.len],h.ok,h.fit⟩
   ·have:=WE A w h.ne;rw[j,←g];exact this
   ·have e:(ints (n4 s.tk)++r).set (0+(i:Int).toNat*1) (.int .i64 (if v then 1 else 0))=ints (n4 (s.put i v).tk)++r:=by
     rw[List.set_append_left _ _ (by simp[Kt,wA];omega)]
     congr 1
     simp only[cH.put,Sg,ints,wc];have:(0+(i:Int).toNat*1)=i:=by omega
     rw[this]
     congr 1
     cases v<;>rfl
    rw[e]at z;exact z
 ·exact fZ O (hR _ e N)
theorem MV (h:ig U p q c s){x:Int}{i:Nat}(hx2:x<=9223372036854775807)(ho:obj c s x=some i)(ht:s.is i=true){R:aN}(hR:∀σ',Ext (λb=>b=p\/b=q) U σ'->ig σ' p q c (s.put i false)->R 0 σ') :
 ZT.c (aW p) x U R:=by
 refine ZT.o ?_;unfold ZT.v;refine Ly h x hx2 (λj g d=>cD rfl (bL (h.rS λcap r=>?_))) λm=>by rw[ho]at m;cases m
 rw[ho]at g;cases g;have a:i<s.tk.length:=by rw[h.len];exact d
 refine(h.lD cap).tx (Gm (cH.lr a)) ?_;rw[ht];refine cD rfl (nw (cs:=ints [i]) λv A e y=>?_);have z:=h.lt;exact Es (h.bP e) d false (yW y rfl) λσ' u w=>hR σ' (e.to.trans u) w
theorem ο (h:ig U p q c s){i:Nat}(hlow:low s=some i){R:Int->Int->Hp->Prop}(hR:∀σ',Ext (λb=>b=p\/b=q) U σ'->ig σ' p q c (s.put i true)->R ((at_ c s i:Nat):Int) 0 σ') :
 ZN.c (aW p) U R:=by
 refine ZN.o ?_;unfold ZN.v;have C:=h.ok.kM;have a:=nI.1 hlow;obtain⟨hi,z,B⟩:=a;have g:s.tk[i]=false:=by simpa using z
 refine Aa h (cD rfl (bL (h.rS λcap y=>?_)));refine IA (h.lD cap) (by simp[wA,h.len];omega) 0 (λj u d=>?_) λd=>?_
 ·have m:j<s.tk.length:=by
   have:=(cY.1 u).1
   rwa [wA]at this
  have r:j=i:=by
   rcases qE j i with h1|h1|h1
   ·have:=B j h1;rw[Gm (cW m)]at u;have:s.tk[j]=true:=by simpa using this
    simp[this]at u
   ·exact h1
   ·exact absurd (by rw[Gm (cW hi),g];rfl) (d i h1)
  subst r;rw[h.len]at hi;refine fZ O (nw (cs:=ints [j]) λv D e w=>?_);refine Es (h.bP e) hi true (yW w rfl) λσ' A x=>yB x j O (hR σ' (e.to.trans A) x)
 ·exfalso;apply d;exact zG (i:=i) (by rw[Gm (cW hi),g];rfl)
theorem MJ (h:ig U p q c s){R:Int->Int->Hp->Prop}(hR:∀σ',aF U σ'->R (s.st:Int) (c.aG:Int) σ'):Z3.c (aW p) U R:=by
 refine Z3.o ?_;unfold Z3.v;refine nw (cs:=[.int .i64 0,.int .i64 0]) λv r e m=>?_;have d:=h.bP e;refine Aa d (cD rfl (bL (d.rI (λ_ _=>rfl) (bL (d.fE (λ_ _=>rfl) ?_)))));refine m.s1 aA λu j b=>b.s1 aA λv3 g a=>?_;refine a.rI rfl (a.rI rfl (hR _ ?_));exact Ext.fresh (Ext.fresh e (Ext.eV (F:=(· = U.size)) j rfl) λi hi=>O) (Ext.eV (F:=(· = U.size)) g rfl) λi hi=>by omega
theorem TV (n:Nat):(List.replicate n [Value.int .i64 0]).flatten=ints (List.replicate n 0):=by
 induction n with
 | zero=>rfl
 | succ n ih=>simp only[sk,vD,ih];rfl
theorem R7 (hc:c.ok){st:Nat}(hf:st+c.aG<=1024){R:Option Addr->Int->Hp->Prop}(hR:∀σ' p q,aF U σ'->U.size<=p->U.size<=q->ig σ' p q c ⟨st,List.replicate c.n false⟩->R (some ⟨p,0,none⟩) 0 σ') :
 Vj.c (st:Int) c.size c.aG c.batch U R:=by
 refine Vj.o ?_;unfold Vj.v;have E:=hc;unfold cA.ok at E;have L:=hc.kM;refine nw (cs:=[.int .i64 c.size,.int .i64 c.aG,.int .i64 c.batch]) λv M e y=>?_;refine y.rI rfl (y.rI rfl (y.rI rfl (EE _ _ _ (λg F e1 e2 G B z=>?_) λs=>?_)))
 case refine_2=>rw[(El c).2 hc]at s;cases s
 have:g=c:=by
  obtain⟨a,b,d⟩:=c;obtain⟨P,J,K⟩:=g;simp only at e1 e2 G
  congr 1<;>omega
 subst this;have i:=z.bV y id;refine bX.intro (cD rfl (bX.intro (fZ O (i.rI rfl (cT (m:=1024-g.aG) O O (fZ O ?_))))));refine⟨λx=>bY x U.size [.int .i64 g.size,.int .i64 g.aG,.int .i64 g.batch],i,⟨_,λx u=>by rw[add_lit,u.cell];rfl,⟨_,λx u=>by rw[add_lit,u.cell];rfl,⟨_,λx u=>by rw[add_lit,u.cell];rfl,?_⟩⟩⟩⟩;refine mk O O λN H r w=>⟨r.bV i id,nw (cs:=[.int .i64 (st:Int),.int .i64 g.size,.int .i64 g.aG,.int .i64 g.batch,.slice (some ⟨B.size,0,none⟩) g.n g.n,.int .i64 0]) λv3 C j A=>⟨(r.trans j).bV i id,?_⟩⟩;rw[TV]at w;have D:=z.1;refine hR _ _ _ (((e.trans z).trans r).trans j) O (show U.size<=B.size by omega) ⟨⟨g.n,zD _,?_⟩,⟨[],?_⟩,O,by simp,hc,hf⟩
 ·have:cH.many ⟨st,List.replicate g.n false⟩=0:=by simp[cH.many,yC]
  rw[this];exact A
 ·have:n4 (List.replicate g.n false)=List.replicate g.n 0:=by simp[n4]
  rw[this,kR];exact j.bV w id
end Go.Ar
namespace Go.Proofs
open Go.Vc
set_option maxRecDepth 100000
def Yb.h:Hn:=.q .o1 (.q (.q .o3 .aK) (.q .o1 (.q .gD .aL)))
def Yb.v (a:R2)(b:Hp)(c:Sl->Hp->Prop):Prop:=W8.c a b λd e=>If (!d) (c ⟨none,0,0⟩ e) (aV #[.slice none 0 0] 201 e λf g=>bF a 3 g λi=>Wi.c i ⟨248,#[],#[.pointer (some f)]⟩ g λj k=>bW a λl=>aR l 3 (.slice j.a j.len j.cap) k λm=>jD f m λn=>c n m)
theorem Yb.o {a b c}(d:Yb.v a b c):Yb.c a b c:=Wa Tryz.func185 (x:=Yb.h) (R0 d)
def W8.h:Hn:=.q .o1 (.q (.cU (.seq [.op,.op,.op,.cX true 6 (RI.ops 6),.op])) .l)
def W8.v (a:R2)(b:Hp)(c:aO):Prop:=bX (λd e=>c d e) λf=>If (!a.isNone) (bW a λg=>bN ((g.add 0).add 0) b λh=>f (decide (h>0)) b) (f false b)
theorem W8.o {a b c}(d:W8.v a b c):W8.c a b c:=Wa Tryz.func197 (x:=W8.h) (R0 d)
def QK.h:Hn:=.q .o3 (.q (.q .o7 (.q .o2 .aJ)) (.q .o5 .l))
def QK.v (a b c:Int)(d:Hp)(e:Option Addr->Int->Hp->Prop):Prop:=aV #[.I a,.I b,.I c] 149 d λf g=>aQ f 0 g λh=>aQ f 1 g λi=>aQ f 2 g λj=>ZU.c h i j g λk l m=>If (l != 0) (e none 1 m) (aQ f 0 m λn=>aQ f 1 m λo=>aQ f 2 m λp=>aV #[.I n,.I o,.I p,.slice none 0 0] 274 m λq r=>e (some q) 0 r)
theorem QK.o {a b c d e}(f:QK.v a b c d e):QK.c a b c d e:=Wa Tryz.func212 (x:=QK.h) (R0 f)
def Xr.h:Hn:=.q .o2 (.q (.k (.q .o4 (.c .aL (.q .o3 .aJ)))) (.q .o1 (.q (.k (.loop [(6,.one .s)] (.q (.q .o4 (.c .l .l)) (.k (.q .o7 (.q (.q .o2 (.c .l .l)) .o5)))))) (.q .o3 .l))))
def Xr.v (a:R2)(b:Int)(c:Hp)(d:Sl->Int->Hp->Prop):Prop:=W8.c a c λe f=>If (!e) (d ⟨none,0,0⟩ 5 f) (If (b<0) (d ⟨none,0,0⟩ 1 f) (X8 [.s] (λg=>g ⟨none,0,0⟩ f) λh (i:Sl) j=>If (((i.len:Nat):Int)<b) (Y7.c a j λk l m=>If (!l) (d i 0 m) (aV #[.I k] 3 m λn o=>App i 1 8 3 [.I 0] ⟨some n,1,1⟩ o λp q=>h p q)) (d i 0 j)))
theorem Xr.o {a b c d}(e:Xr.v a b c d):Xr.c a b c d:=Wa Tryz.func233 (x:=Xr.h) (R0 e)
def Y6.h:Hn:=.q .o1 (.q (.q .o3 .aK) (.q (.o 11) (.q (.q .o2 .aJ) (.q (.q .o6 (.k (.loop [(31,.I)] (.q .o1 (.q (.c .l .l) (.q (.k (.q .o4 (.q (.oq 17) .aK))) .o2)))))) (.q (.o 11) (.q (.o 15) .aM))))))
def Y6.v (a:R2)(b:Int)(c:Hp)(d:aN):Prop:=W8.c a c λe f=>If (!e) (d 5 f) (bW a λg=>bN ((g.add 0).add 0) f λh=>bN ((g.add 0).add 1) f λi=>bN ((g.add 0).add 2) f λj=>Vj.c b h i j f λk l m=>If (l != 0) (d l m) (bF a 3 m λo=>X8 [bO] (λp=>p 0 m) λq (r:Int) s=>If (r<((o.len:Nat):Int)) (Ix o.a o.len r 3 λt=>aQ t 0 s λu=>aQ t 1 s λv=>aY t 2 s λw=>aV #[.I 0,.I 0,.pointer none] 279 s λx y=>aR x 0 (.I u) y λz=>aR x 1 (.I v) z λaa=>aR x 2 (.pointer w) aa λab=>bN ((x.add 0).add 1) ab λac=>bN ((x.add 0).add 1) ab λad=>bM ((if b>ac then b else ac)-(if b<ad then b else ad)) λae=>bW a λaf=>bN ((af.add 0).add 1) ab λag=>If (ae<ag) (d 9 ab) (bM (r+1) λah=>q ah ab)) (bF a 3 s λaj=>Wc.c aj b ⟨292,#[],#[]⟩ s λak al am=>bF a 3 am λao=>aV #[.I 0,.I b,.pointer k] 279 am λap aq=>Wk.c ao ak ⟨some ap,1,1⟩ aq λar au=>bW a λav=>aR av 3 (.slice ar.a ar.len ar.cap) au λaw=>d 0 aw)))
theorem Y6.o {a b c d}(e:Y6.v a b c d):Y6.c a b c d:=Wa Tryz.func235 (x:=Y6.h) (R0 e)
def Yf.h:Hn:=.q .o2 (.kN [] (.q .o4 (.c (.cU (.held true [6] (.tk [0,1,2] (.all [(3,.all [(4,.all [(5,.all [(6,.done)])])])])))) .l)) (.q .o5 .l))
def Yf.v (a b:Int)(c:R2)(d:Addr)(e:Hp)(f:aO):Prop:=aV #[.I a,.I b,.pointer c] 279 e λg h=>Jn [] (λi=>bN ((g.add 0).add 0) i λj=>f (j==0) i) λk=>bN ((g.add 0).add 0) h λl=>If (l==0) (dW h λm=>gN m .s d λ(n:Sl)=>aU m g 2 λo=>Z3.c o h λp q r=>And (m r) <| aV #[.I p,.I q] 268 r λs t=>And (m t) <| App n 2 16 268 [.I 0,.I 0] ⟨some s,1,1⟩ t λu v=>And (m v) <| dQ d (.slice u.a u.len u.cap) v λw=>k w) (k h)
theorem Yf.o {a b c d e f}(g:Yf.v a b c d e f):Yf.c a b c d e f:=Wa Tryz.func248 (x:=Yf.h) (R0 g)
def Y9.h:Hn:=.q .o2 (.q (.q .o3 .aJ) (.q .o1 (.q (.q .o3 (.k (.loop [(6,.one .b),(19,.I)] (.q .o1 (.q (.c .l .l) (.q (.k (.q .o5 (.q .o8 (.q (.q .o2 (.c (.q .o3 .l) .l)) (.cU (.seq [.op,.op,.cX false 2 [.op,.op],.op,.cX false 5 (RI.ops 5),.op])))))) .o2)))))) (.q (.q .o1 .aJ) (.q (.q .o3 (.k (.loop [(49,.I)] (.q .o1 (.q (.c .l .l) (.q (.k (.q .o3 (.q .o4 (.q .o6 .gD)))) .o2)))))) (.q .o4 .l))))))
def Y9.v (a:R2)(b:Sl)(c:Hp)(d:Sl->Int->Hp->Prop):Prop:=W8.c a c λe f=>If (!e) (d ⟨none,0,0⟩ 5 f) (X8 [.b,bO] (λg=>g false 0 f) λh (i:Bool) (j:Int) k=>If (j<((b.len:Nat):Int)) (Ix b.a b.len j 1 λl=>bN l k λm=>Xp.c a m k λn o p=>If (o != 0) (d ⟨none,0,0⟩ o p) (bX (λq r=>bX (λs t=>bM (j+1) λu=>h s u t) λv=>If q (v true r) (fI b 1 0 j (b.cap:Nat) λw=>Ww.c w m r λx y=>v x y)) λz=>If i (z true p) (z (!n) p))) (If i (d ⟨none,0,0⟩ 9 k) (X8 [bO] (λaa=>aa 0 k) λab (ac:Int) ad=>If (ac<((b.len:Nat):Int)) (Ix b.a b.len ac 1 λae=>bN ae ad λaf=>X3.c a af ad λag ah=>bG ag 2 ah λaj=>ZT.c aj af ah λak al=>bW ag λam=>bN ((am.add 0).add 0) al λan=>bM (an-1) λao=>bW ag λap=>dQ ((ap.add 0).add 0) (.I ao) al λaq=>bM (ac+1) λar=>ab ar aq) (Yb.c a ad λau av=>d au 0 av))))
theorem Y9.o {a b c d}(e:Y9.v a b c d):Y9.c a b c d:=Wa Tryz.func267 (x:=Y9.h) (R0 e)
def Y7.h:Hn:=.q .o2 (.q .o1 (.q (.q .o6 (.k (.loop [(4,.one .p),(14,.I)] (.q .o1 (.q (.c .l .l) (.q (.k (.q .o2 (.q .o7 (.q (.cU (.gP true [] [(48,.one .b)] (.tk [0,1,2,3,4,5,6,7,8] (.all [(9,.take 10 (.take 11 (.split 34 (.take 12 (.take 13 (.take 14 (.split 37 (.take 15 (.take 16 (.take 17 (.take 18 (.take 19 (.take 20 (.take 21 (.take 22 (.take 23 (.take 24 (.take 25 (.done)))))))))))) (.take 15 (.take 16 (.take 17 (.take 19 (.take 20 (.take 21 (.all [(18,.all [(22,.all [(23,.take 24 (.take 25 (.done)))])]),(22,.all [(18,.all [(23,.take 24 (.take 25 (.done)))])])]))))))))))) (.take 12 (.take 13 (.take 14 (.take 15 (.take 16 (.take 17 (.take 18 (.take 19 (.take 20 (.take 21 (.take 22 (.take 23 (.take 24 (.take 25 (.done))))))))))))))))))])))) (.c .o2 .l))))) .o2)))))) (.q (.q .o2 .aJ) (.q .gD (.q .gD (.q .o3 .l))))))
def Y7.v (a:R2)(b:Hp)(c:Int->Bool->Hp->Prop):Prop:=bF a 3 b λe=>X8 [.p,bO] (λf=>f none 0 b) λg (h:R2) (i:Int) j=>If (i<((e.len:Nat):Int)) (bF a 3 j λl=>Ix l.a l.len i 3 λm=>Jn [.b] (λ(n:Bool) o=>If n (bM (i+1) λp=>g (some m) p o) (bM (i+1) λq=>g h q o)) λr=>dW j λs=>bW (some m) λt=>gN s bO ((t.add 0).add 0) λ(u:Int)=>bW (some m) λv=>aU s v 2 λw=>YH.c w j λx y=>And (s y) <| If (u<x) (If h.isNone (r true y) (bW (some m) λz=>bW h λaa=>(bN ((z.add 0).add 0) y λab=>bN ((z.add 0).add 1) y λac=>And (s y) <| bN ((aa.add 0).add 0) y λad=>bN ((aa.add 0).add 1) y λae=>And (s y) <| Xm.c ab ac ad ae y λaf ag=>And (s ag) <| r af ag) ∧ (bN ((aa.add 0).add 0) y λah=>bN ((aa.add 0).add 1) y λai=>And (s y) <| bN ((z.add 0).add 0) y λaj=>bN ((z.add 0).add 1) y λak=>And (s y) <| Xm.c aj ak ah ai y λal am=>And (s am) <| r al am))) (r false y)) (If h.isNone (c 0 false j) (bG h 2 j λao=>ZN.c ao j λap aq ar=>bW h λau=>bN ((au.add 0).add 0) ar λav=>bM (av+1) λaw=>bW h λax=>dQ ((ax.add 0).add 0) (.I aw) ar λay=>c ap true ay))
theorem Y7.o {a b c}(d:Y7.v a b c):Y7.c a b c:=Wa Tryz.func285 (x:=Y7.h) (R0 d)
def YZ.h:Hn:=.q .o2 (.q .o6 .l)
def YZ.v (a b:Int)(c:R2)(d:Int)(e:Hp)(f:aN):Prop:=aV #[.I a,.I b,.pointer c] 279 e λg h=>bN ((g.add 0).add 1) h λi=>bM (i-d) λj=>f j h
theorem YZ.o {a b c d e f}(g:YZ.v a b c d e f):YZ.c a b c d e f:=Wa Tryz.func292 (x:=YZ.h) (R0 g)
def YF.h:Hn:=.q .o2 (.q (.q .o3 .aJ) (.q .o4 (.q (.q .o2 .aJ) (.q (.o 11) (.q (.oq 16) .l)))))
def YF.v (a:R2)(b:Int)(c:Hp)(d:Int->Int->Hp->Prop):Prop:=W8.c a c λe f=>If (!e) (d 0 5 f) (X3.c a b f λg h=>If g.isNone (d 0 8 h) (bG g 2 h λj=>Yn.c j b h λk l m=>bW g λn=>bN ((n.add 0).add 1) m λo=>bM (o*256) λp=>bW a λq=>bN ((q.add 0).add 0) m λr=>bM (k*r) λs=>bM (p+s) λt=>d t 0 m))
theorem YF.o {a b c d}(e:YF.v a b c d):YF.c a b c d:=Wa Tryz.func296 (x:=YF.h) (R0 e)
def Xp.h:Hn:=.q .o2 (.q (.q .o3 .aJ) (.q .o4 (.q (.q .o2 .aJ) (.q .gD .l))))
def Xp.v (a:R2)(b:Int)(c:Hp)(d:Bool->Int->Hp->Prop):Prop:=W8.c a c λe f=>If (!e) (d false 5 f) (X3.c a b f λg h=>If g.isNone (d false 8 h) (bG g 2 h λj=>YL.c j b h λk l m=>d k l m))
theorem Xp.o {a b c d}(e:Xp.v a b c d):Xp.c a b c d:=Wa Tryz.func299 (x:=Xp.h) (R0 e)
def X3.h:Hn:=.q .o1 (.q (.q .o6 (.k (.loop [(13,.I)] (.q .o1 (.q (.c .l .l) (.q (.k (.q .o2 (.q (.o 15) (.q .o2 (.c (.q .o7 .l) .l))))) .o2)))))) .aM)
def X3.v (a:R2)(b:Int)(c:Hp)(d:Option Addr->Hp->Prop):Prop:=bF a 3 c λf=>X8 [bO] (λg=>g 0 c) λh (i:Int) j=>If (i<((f.len:Nat):Int)) (bF a 3 j λl=>Ix l.a l.len i 3 λm=>aY m 2 j λn=>Yn.c n b j λo p q=>If (p==0) (bF a 3 q λs=>Ix s.a s.len i 3 λt=>d (some t) q) (bM (i+1) λu=>h u q)) (d none j)
theorem X3.o {a b c d}(e:X3.v a b c d):X3.c a b c d:=Wa Tryz.func310 (x:=X3.h) (R0 e)
def Xm.h:Hn:=.q .o3 (.q (.cU (.seq [.op,.op,.op,.op,.op,.op,.cX false 12 [.op,.op,.op,.op,.op,.op,.cX true 5 (RI.ops 5)],.op])) .l)
def Xm.v (a b c d:Int)(e:Hp)(f:aO):Prop:=aV #[.I a,.I b] 276 e λg h=>aV #[.I c,.I d] 276 h λi j=>aQ g 0 j λk=>aQ i 0 j λl=>bX (λm n=>f m n) λo=>If (k>l) (o true j) (aQ g 0 j λp=>aQ i 0 j λq=>bX (λr s=>o r s) λt=>If (p==q) (aQ g 1 j λu=>aQ i 1 j λv=>t (decide (u<v)) j) (t false j))
theorem Xm.o {a b c d e f}(g:Xm.v a b c d e f):Xm.c a b c d e f:=Wa Tryz.func315 (x:=Xm.h) (R0 g)
end Go.Proofs
namespace Go.Ar
open Go Go.Vc Go.Proofs
variable {U:Hp}{F:Rg}{p:Nat}{c:cA}{ps:List (Nat×Nat)}{ss:List cH}
def eH (ps:List (Nat×Nat)):List Nat:=ps.flatMap λx=>[x.1,x.2]
theorem Gh {ps:List (Nat×Nat)}{b:Nat}:b∈eH ps↔∃x∈ps,b=x.1\/b=x.2:=by simp[eH]
def dV:List (Nat×Nat)->List cH->List Value
 | x::ps,s::ss=>.int .i64 (s.many:Int) :: .int .i64 (s.st:Int) :: .pointer (some ⟨x.1,0,none⟩)::dV ps ss
 | _,_=>[]
theorem KE:∀{ps:List (Nat×Nat)} {ss:List cH},ps.length=ss.length->(dV ps ss).length=3*ss.length
 | [],[],_=>rfl
 | x::ps,s::ss,h=>by simp only[dV,zS]at *;rw[KE O];omega
theorem Kq:∀{ps:List (Nat×Nat)} {ss:List cH} {i:Nat} {x:Nat×Nat} {s:cH},ps[i]?=some x->ss[i]?=some s →
 (dV ps ss)[3*i]?=some (.int .i64 (s.many:Int))/\(dV ps ss)[3*i+1]?=some (.int .i64 (s.st:Int))/\(dV ps ss)[3*i+2]?=some (.pointer (some ⟨x.1,0,none⟩))
 | [],_,_,_,_,h,_=>by simp at h
 | _::_,[],_,_,_,_,h=>by simp at h
 | y::ps,t::ss,0,x,s,h1,h2=>by simp at h1 h2;subst h1;subst h2;simp[dV]
 | y::ps,t::ss,i+1,x,s,h1,h2=>by
  have:=Kq (ps:=ps) (ss:=ss) (i:=i) (by simpa using h1) (by simpa using h2);simp only[dV];rw[show 3*(i+1)=3*i+3 by omega];simpa using this
theorem VQ:∀{ps ps':List (Nat×Nat)} {ss ss':List cH},ps.length=ss.length->dV (ps++ps') (ss++ss')=dV ps ss++dV ps' ss'
 | [],_,[],_,_=>rfl
 | x::ps,_,s::ss,_,h=>by simp only[lJ,dV,VQ (ps:=ps) (ss:=ss) (by simpa using h)]
theorem Ld:∀{ps:List (Nat×Nat)} {ss:List cH},∀v∈dV ps ss,dY v=true
 | [],_,v,h=>by simp[dV]at h
 | _::_,[],v,h=>by simp[dV]at h
 | x::ps,s::ss,v,h=>by
  simp only[dV,zW]at h;rcases h with rfl|rfl|rfl|h
  ·rfl
  ·rfl
  ·rfl
  ·exact Ld v h
structure fJ (U:Hp) (F:Rg) (p:Nat) (c:cA) (ps:List (Nat×Nat)) (ss:List cH):Prop where
 hd:∃sl:Sl,bY U p [.int .i64 (c.size:Int),.int .i64 (c.aG:Int),.int .i64 (c.batch:Int),.slice sl.a sl.len sl.cap]/\bT sl 3 (dV ps ss) U (λb=>F b/\b≠p/\b∉eH ps)
 sp:∀(i:Nat) (x:Nat×Nat) s,ps[i]?=some x->ss[i]?=some s->ig U x.1 x.2 c s
 fp:F p
 fb:∀b∈eH ps,F b
 nd:(p::eH ps).Nodup
 len:ps.length=ss.length
 ok:c.ok
 ru:ss.Pairwise (λa b=>a.st<b.st)
theorem fJ.loc:dN λU F=>fJ U F p c ps ss:=λU C F G h H m=>by
 obtain⟨sl,a,w⟩:=h.hd;have bS:∀b,b<U.size->F b->C[b]?=U[b]? := λb a d=>(m b a d).2;have A:∀{b:Nat} {cs:List Value},bY U b cs->F b->bY C b cs:=by
  rintro b cs ⟨e,B⟩ d;exact⟨e,(bS b (bY.lt ⟨e,B⟩) d).trans B⟩
 have lt:∀b∈eH ps,b<U.size:=by
  intro b a;obtain⟨x,j,u⟩:=Gh.1 a;obtain⟨i,hi⟩:=zP j;have y:=(cY.1 hi).1;have:=(h.sp i x _ hi (cW (by rw[←h.len];exact y))).lt;rcases u with rfl|rfl
  ·exact this.1
  ·exact this.2
 refine⟨⟨sl,A a h.fp,bT.loc _ _ _ _ _ _ _ w H λb a d=>⟨⟨(m b a d.1).1,d.2⟩,(m b a d.1).2⟩⟩,λi x s j z=>?_,(m p a.lt h.fp).1,λb a=>(m b (lt b a) (h.fb b a)).1,h.nd,h.len,h.ok,h.ru⟩;have g:=h.sp i x s j z;have D:x.1∈eH ps:=Gh.2 ⟨x,zG j,.inl rfl⟩;have J:x.2∈eH ps:=Gh.2 ⟨x,zG j,.inr rfl⟩;obtain⟨K,E,hd⟩:=g.hd;obtain⟨r,w⟩:=g.row;exact⟨⟨K,E,A hd (h.fb _ D)⟩,⟨r,A w (h.fb _ J)⟩,g.ne,g.len,g.ok,g.fit⟩
theorem fJ.bP {σ':Hp}(h:fJ U F p c ps ss)(e:aF U σ'):fJ σ' F p c ps ss:=dN.bP fJ.loc h e
theorem fJ.qF (h:fJ U F p c ps ss):ss.length<=1024:=by
 have key:∀i (hi:i<ss.length),i<=ss[i].st:=by
  intro i
  induction i with
  | zero=>intro _;omega
  | succ i ih=>
   intro hi;have b:=ih O;have g:=mw.1 h.ru i (i+1) O hi O;omega
 rcases DP ss.length with h0|h0
 ·omega
 ·have a:ss.length-1<ss.length:=by omega
  have b:=key _ a;have d:ss.length-1<ps.length:=by rw[h.len];exact a
  have g:=(h.sp _ _ _ (cW d) (cW a)).fit;have:=h.ok.2.2.2.1;omega
structure sO (U:Hp) (F:Rg) (p:Nat) (ps:List (Nat×Nat)) (ss:List cH) (sl:Sl) (rb:Nat) (cs:List Value):Prop where
 a:sl.a=some ⟨rb,0,none⟩
 bV:bY U rb cs
 fr:F rb/\rb≠p/\rb∉eH ps
 get:∀{j:Nat} {v:Value},(dV ps ss)[j]?=some v->cs[j]?=some v
 B3:3*ss.length<=cs.length
theorem fJ.sl (h:fJ U F p c ps ss):∃sl:Sl,bY U p [.int .i64 (c.size:Int),.int .i64 (c.aG:Int),.int .i64 (c.batch:Int),.slice sl.a sl.len sl.cap]/\sl.len=ss.length/\(ss≠[]->∃rb cs,sO U F p ps ss sl rb cs):=by
 obtain⟨sl,r,m⟩:=h.hd;have s:=m.1;rw[KE h.len]at s;refine⟨sl,r,O,λg=>?_⟩;have i:0<ss.length:=pT.2 g;rcases m.2 with⟨h0,_⟩|⟨b,cs,hq,ha,hbb,hle,hcl,ht⟩
 ·omega
 ·refine⟨b,cs,ha,hbb,hq,λ{j v} d=>?_,?_⟩
  ·rw[←ht,zl]at d;split at d
   ·exact d
   ·cases d
  ·have:=congrArg List.length ht;rw[zY,KE h.len]at this;omega
theorem fJ.jN (h:fJ U F p c ps ss){i:Nat}(hi:i<ss.length):∃x s,ps[i]?=some x/\ss[i]?=some s/\ig U x.1 x.2 c s:=by
 have a:i<ps.length:=by rw[h.len];exact hi
 have b:ps[i]?=some ps[i]:=cW a;exact⟨_,_,b,cW hi,h.sp i _ _ b (cW hi)⟩
theorem UB (h:fJ U F p c ps ss){R:aO}(hR:R true U):W8.c (aW p) U R:=by
 refine W8.o ?_;unfold W8.v;obtain⟨sl,a,g,d⟩:=h.sl;have b:=h.ok;unfold cA.ok at b;refine bX.intro (cF rfl (bL (a.fE rfl ?_)));rw[zI O];exact hR
def iN (x:Int):Prop:=x<=9223372036854775807
theorem DY (h:fJ U F p c ps ss)(x:Int)(hx:iN x){R:Option Addr->Hp->Prop}(h0:kY c ss x=none->R none U)
 (h1:∀(i:Nat) sl rb cs,kY c ss x=some i->i<ss.length->bY U p [.int .i64 (c.size:Int),.int .i64 (c.aG:Int),.int .i64 (c.batch:Int),.slice sl.a sl.len sl.cap]->sO U F p ps ss sl rb cs->R (some ⟨rb,3*i,none⟩) U):X3.c (aW p) x U R:=by
 refine X3.o ?_;unfold X3.v;obtain⟨sl,A,Q,P⟩:=h.sl;have G:=h.qF;refine bL (A.rS rfl ?_);refine Qz (a:=bO) (λ(t:Int) D=>∃i:Nat,t=(i:Int)/\i<=ss.length/\D=U/\∀(j:Nat) s,j<i->ss[j]?=some s->idx c s x=none) (λt _=>ss.length-t.toNat) ⟨0,rfl,O,rfl,λj s z=>O⟩ ?_;rintro t D ⟨i,rfl,hi,rfl,u⟩;refine cP (λC=>?_) λB=>?_
 ·simp only at C;have b:i<ss.length:=by omega
  obtain⟨J,s,N,y,K⟩:=h.jN b;obtain⟨rb,cs,E⟩:=P (by rintro rfl;simp at b);have L:=Kq N y;refine bL (A.rS rfl ?_);rw[E.a];refine ix O O ?_;rw[add_lit];refine E.bV.rP (x:=some ⟨J.1,0,none⟩) ?_ ?_
  ·have:=E.get L.2.2;rw[show 0+(i:Int).toNat*3+2=3*i+2 by omega];exact this
  have w:∀r,idx c s x=some r->kY c ss x=some i:=by
   intro r g;refine nI.2 ⟨b,?_,λj z=>?_⟩
   ·have:ss[i]=s:=by rw[cW b]at y;simpa using y
    rw[this,g];rfl
   ·rw[u j _ z (cW O)];simp
  refine DC K x hx (λr g=>cF rfl (bL (A.rS rfl ?_))) λH=>cD rfl ?_
  ·rw[E.a];refine ix O O ?_;rw[add_lit,show 0+(i:Int).toNat*3=3*i by omega];exact h1 i sl rb cs (w r g) b A E
  ·refine cT (m:=i+1) O O ⟨⟨i+1,rfl,O,rfl,λj M z d=>?_⟩,O⟩;by_cases e:j=i
   ·subst e;rw[y]at d;cases d;exact H
   ·exact u j M O d
 ·refine h0 ?_;refine vR.2 λs y=>?_;obtain⟨j,z⟩:=zP y;have:=(cY.1 z).1;rw[u j s (by simp only at B;omega) z];rfl
theorem Uh {x:Int}{k:Nat}{s:cH}(hk:kY c ss x=some k)(hs:ss[k]?=some s):eI c ss x=(obj c s x).map s.is:=by
 unfold eI;rw[hk];simp only[hs];rfl
theorem C1 {x:Int}(hk:kY c ss x=none):eI c ss x=none:=by unfold eI;rw[hk]
theorem Lt (h:fJ U F p c ps ss)(x:Int)(hx:iN x){R:Bool->Int->Hp->Prop}(h1:∀b,eI c ss x=some b->R b 0 U)(h0:eI c ss x=none->R false 8 U):Xp.c (aW p) x U R:=by
 refine Xp.o ?_;unfold Xp.v;refine UB h (cD rfl (DY h x hx (λd=>cF rfl (h0 (C1 d))) λi sl C A a hi B E=>cD rfl (bL ?_)));obtain⟨y,s,w,m,z⟩:=h.jN hi;have u:=Kq w m;refine E.bV.rP (x:=some ⟨y.1,0,none⟩) (E.get u.2.2) ?_;have g:=Uh a m;exact Og z x hx (λj r=>h1 _ (by rw[g,r];rfl)) λd=>h0 (by rw[g,d];rfl)
theorem Gr {x:Int}{k:Nat}{s:cH}(hk:kY c ss x=some k)(hs:ss[k]?=some s):rQ c ss x=(idx c s x).map (at_ c s):=by
 unfold rQ;rw[hk];simp only[hs]
theorem Jr {x:Int}(hk:kY c ss x=none):rQ c ss x=none:=by unfold rQ;rw[hk]
theorem Nd {x:Int}{k:Nat}{s:cH}(hk:kY c ss x=some k)(hs:ss[k]?=some s):∃i,idx c s x=some i:=by
 obtain⟨hi,a,_⟩:=nI.1 hk;have:ss[k]=s:=by rw[cW hi]at hs;simpa using hs
 rw[this]at a;exact pF.1 a
theorem SC (h:fJ U F p c ps ss)(x:Int)(hx:iN x){R:Int->Int->Hp->Prop}(h1:∀a,rQ c ss x=some a->R (a:Int) 0 U)(h0:rQ c ss x=none->R 0 8 U):YF.c (aW p) x U R:=by
 refine YF.o ?_;unfold YF.v;refine UB h (cD rfl (DY h x hx (λg=>cF rfl (h0 (Jr g))) λi sl L M d hi H E=>cD rfl (bL ?_)));obtain⟨C,s,G,u,w⟩:=h.jN hi;have A:=Kq G u;obtain⟨r,j⟩:=Nd d u;have B:=Gr d u;have D:=h.ok;unfold cA.ok at D;have y:=((Ut O).1 j).2.2;rw[w.len]at y;have g:=h.ok.kM;have z:=w.fit;have K:r*c.size<=128*512:=mr O O;refine E.bV.rP (x:=some ⟨C.1,0,none⟩) (E.get A.2.2) ?_;refine DC w x hx (λJ b=>?_) λg=>by rw[j]at g;cases g
 rw[j]at b;cases b;refine bL (E.bV.fE (x:=s.st) (E.get A.2.1) (cT (m:=s.st*256) aA O (bL (H.fE rfl ?_))));refine cT (m:=r*c.size) aA O (cT (m:=at_ c s r) (by simp[at_]) (by unfold at_;omega) (h1 _ (by rw[B,j];rfl)))
theorem xq {h:Hp}{rb i:Nat}{cs:List Value}{x y:Int}{z:Option Addr}{e:Nat}(hb:bY h rb cs)(h0:cs[3*i]?=some (.int .i64 x))(h1:cs[3*i+1]?=some (.int .i64 y))(h2:cs[3*i+2]?=some (.pointer z))
 {K:Int->Int->Option Addr->Prop} (hK:K x y z):gJ .i64 (Addr.add ⟨rb,3*i,none⟩ 0) h λu=>gJ .i64 (Addr.add ⟨rb,3*i,none⟩ 1) h λv=>fY (Addr.add ⟨rb,3*i,none⟩ 2) h λw=>K u v w:=
 hb.rI h0 (hb.rI h1 (hb.rP h2 hK))
theorem FB {h:Hp}{x y:Int}{z:Option Addr}{e:Nat}{K:Addr->Hp->Prop}(hK:∀h',aF h h'->bY h' h.size [.int .i64 x,.int .i64 y,.pointer z]->K ⟨h.size,0,none⟩ h') :
 Nw (.cells #[.int .i64 0,.int .i64 0,.pointer none] e (0,0)) h λn v=>dQ (n.add 0) (.int .i64 x) v λv1=>dQ (n.add 1) (.int .i64 y) v1 λv2=>dQ (n.add 2) (.pointer z) v2 λv3=>K n v3:=by
 refine nw (cs:=[.int .i64 0,.int .i64 0,.pointer none]) λv j e d=>d.s1 aA λv1 o1 g=>g.s1 aA λv2 o2 b=>b.s1 aA λv3 o3 a=>?_;refine hK v3 ?_ a;exact Ext.fresh (Ext.fresh (Ext.fresh e o1.ext λi hi=>O) o2.ext λi hi=>O) o3.ext λi hi=>by omega
def iP (c:cA)(l:List Nat):List Value:=l.flatMap λ(s:Nat)=>[.int .i64 (s:Int),.int .i64 (c.aG:Int)]
theorem N2 (c:cA)(l:List Nat):(iP c l).length=2*l.length:=by
 induction l with
 | nil=>rfl
 | cons x l ih=>simp only[iP,pA,zK,zS,lA]at *;omega
theorem R5 (hc:c.ok){R:Option Addr->Int->Hp->Prop}(hR:∀σ' p,aF U σ'->U.size<=p->p<σ'.size->fJ σ' (· = p) p c [] []->R (some ⟨p,0,none⟩) 0 σ'):QK.c c.size c.aG c.batch U R:=by
 refine QK.o ?_;unfold QK.v;refine nw (cs:=[.int .i64 c.size,.int .i64 c.aG,.int .i64 c.batch]) λv u e d=>?_;refine d.rI rfl (d.rI rfl (d.rI rfl (EE _ _ _ (λx m e1 e2 y s j=>?_) λb=>?_)))
 case refine_2=>rw[(El c).2 hc]at b;cases b
 have a:=j.bV d id;refine cD rfl (a.rI rfl (a.rI rfl (a.rI rfl (nw (cs:=[.int .i64 c.size,.int .i64 c.aG,.int .i64 c.batch,.slice none 0 0]) λw r g i=>?_))));exact hR _ _ ((e.trans j).trans g) (by have:=j.1;omega) O ⟨⟨⟨none,0,0⟩,i,bT.nil _ _ _ _⟩,by simp,rfl,by simp[eH],by simp[eH],rfl,hc,by simp⟩
theorem SG (a b a' b':Nat){R:aO}(hR:∀σ',aF U σ'->R (decide (a>a')||(a==a'&&decide (b<b'))) σ'):Xm.c (a:Int) (b:Int) (a':Int) (b':Int) U R:=by
 refine Xm.o ?_;unfold Xm.v;refine nw (cs:=[.int .i64 a,.int .i64 b]) λv s e m=>nw (cs:=[.int .i64 a',.int .i64 b']) λr p e1 g=>?_;have i:=e1.bV m id;have d:=hR _ (e.trans e1);refine i.rI rfl (g.rI rfl (bX.intro (cP (λh=>?_) λh=>?_)))
 ·have:decide (a>a')=true:=by simpa using h
  rw[this,Bool.true_or]at d;exact d
 ·have:decide (a>a')=false:=by simpa using h
  rw[this,xO]at d;refine i.rI rfl (g.rI rfl (bX.intro ?_));rw[l7];refine cN (λj=>?_) λj=>?_
  ·rw[j,se]at d;refine i.rI rfl (g.rI rfl ?_);have:decide ((b:Int)<(b':Int))=decide (b<b'):=by rw[decide_eq_decide];omega
   rw[this];exact d
  ·rw[j,vt]at d;exact d
theorem Ko:∀{i k:Nat},ZC ss i=some k->k<i/\∃s,ss[k]?=some s/\s.many<s.tk.length
 | 0,_,h=>by simp[ZC]at h
 | i+1,k,h=>by
  have up:ZC ss i=some k->k<i+1/\∃s,ss[k]?=some s/\s.many<s.tk.length:=λh=>by
   have:=Ko h;exact⟨O,this.2⟩
  simp only[ZC]at h;split at h
  ·rename_i x hx;split at h
   ·rename_i hlt;have a:i<i+1/\∃s,ss[i]?=some s/\s.many<s.tk.length:=⟨O,x,hx,hlt⟩;split at h
    ·rename_i j hj;split at h
     ·split at h
      ·cases h;exact a
      ·cases h;exact up hj
     ·cases h;exact a
    ·cases h;exact a
   ·exact up h
  ·exact up h
theorem AW {s:cH}(h:s.many<s.tk.length):∃i,low s=some i/\i<s.tk.length/\s.is i=false:=by
 unfold low;cases hf:s.tk.findIdx? (· == false)with
 | some i=>
  obtain⟨hi,b,_⟩:=nI.1 hf;refine⟨i,rfl,hi,?_⟩;have:s.tk[i]=false:=by simpa using b
  simp[cH.is,zQ,cW hi,this]
 | none=>
  exfalso;have a:=vR.1 hf;have:s.many=s.tk.length:=by
   unfold cH.many;rw[List.count_eq_length];intro x hx;have:=a x hx;cases x
   ·simp at this
   ·rfl
  omega
theorem FV:∀{ps:List (Nat×Nat)} {ss:List cH} {k:Nat} {s s':cH},ps.length=ss.length->ss[k]?=some s->s'.st=s.st->dV ps (ss.set k s')=(dV ps ss).set (3*k) (.int .i64 (s'.many:Int))
 | [],[],_,_,_,_,h,_=>by simp at h
 | [],_::_,_,_,_,h,_,_=>by simp at h
 | _::_,[],_,_,_,_,h,_=>by simp at h
 | x::ps,t::ss,0,s,s',_,h,e=>by simp at h;subst h;simp[dV,e]
 | x::ps,t::ss,k+1,s,s',hl,h,e=>by
  simp only[tC,dV];rw[FV (ps:=ps) (ss:=ss) (s:=s) (by simpa using hl) (by simpa using h) e];rw[show 3*(k+1)=3*k+1+1+1 by omega];simp
theorem Oa {h:Hp}{b:Nat}{cs cs':List Value}(h1:bY h b cs)(h2:bY h b cs'):cs=cs':=by
 obtain⟨e,d⟩:=h1;obtain⟨g,a⟩:=h2;rw[d]at a;simp only[Option.some.injEq,Obj.cells.injEq]at a;simpa using congrArg Array.toList a.1
theorem QZ {x:Nat×Nat}{i:Nat}(hx:ps[i]?=some x):x.1∈eH ps/\x.2∈eH ps:=
 ⟨Gh.2 ⟨x,zG hx,.inl rfl⟩,Gh.2 ⟨x,zG hx,.inr rfl⟩⟩
theorem JQ:∀{ps:List (Nat×Nat)},(eH ps).Nodup->∀{i j:Nat} {x y:Nat×Nat},ps[i]?=some x->ps[j]?=some y->i≠j->∀b,(b=x.1\/b=x.2)->¬(b=y.1\/b=y.2)
 | [],_,_,_,_,_,h,_,_=>by simp at h
 | z::ps,hn,i,j,x,y,h1,h2,hij=>by
  have hn':z.1∉eH ps/\z.2∉eH ps/\z.1≠z.2/\(eH ps).Nodup:=by
   simp only[eH,pA,lJ,tz,zr,zW,not_or]at hn;exact⟨hn.1.2,hn.2.1,hn.1.1,hn.2.2⟩
  intro b hb hb'
  match i,j,hij with
  | 0,0,h=>exact h rfl
  | 0,j+1,_=>
   simp at h1;subst h1;have:=QZ (ps:=ps) (i:=j) (by simpa using h2);rcases hb with rfl|rfl<;>rcases hb' with e|e<;>rw[e]at hn'<;>simp[this]at hn'
  | i+1,0,_=>
   simp at h2;subst h2;have:=QZ (ps:=ps) (i:=i) (by simpa using h1);rcases hb with rfl|rfl<;>rcases hb' with e|e<;>rw[←e]at hn'<;>simp[this]at hn'
  | i+1,j+1,h=>exact JQ hn'.2.2.2 (by simpa using h1) (by simpa using h2) O b hb hb'
theorem fJ.pZ (h:fJ U F p c ps ss){k:Nat}{x:Nat×Nat}{s s':cH}(hx:ps[k]?=some x)(hs:ss[k]?=some s)(hst:s'.st=s.st){σ1:Hp}(e1:Ext (λb=>b=x.1\/b=x.2) U σ1)(hS:ig σ1 x.1 x.2 c s')
 {sl:Sl} {rb:Nat} {cs:List Value} (hb:bY U p [.int .i64 (c.size:Int),.int .i64 (c.aG:Int),.int .i64 (c.batch:Int),.slice sl.a sl.len sl.cap]) (E:sO U F p ps ss sl rb cs)
 {K:aP} (hK:∀σ2,Ext F U σ2->fJ σ2 F p c ps (ss.set k s')->K σ2):dQ ⟨rb,3*k,none⟩ (.int .i64 (s'.many:Int)) σ1 K:=by
 obtain⟨nj,H,P⟩:=h.hd;have G:nj=sl:=by
  have:=Oa H hb;simp at this;obtain⟨a,n,c⟩:=sl;obtain⟨V,Q,S⟩:=nj;simp at this ⊢;exact this
 subst G;have m:=QZ hx;have g:=h.nd;simp only[zr]at g;have u:=(cY.1 hs).1;have B:=(bT.loc nj 3 (dV ps ss)).bS P e1 λb hb N=>λd=>N.2.2 (by rcases d with rfl|rfl;exact m.1;exact m.2);have C:=e1.bV hb λd=>g.1 (by rcases d with h|h<;>rw[h];exact m.1;exact m.2)
 refine B.st (j:=3*k) (by rw[KE h.len];omega) (λb w=>by rw[E.a]at w;cases w;rfl) λσ2 e2 D=>?_;have J:Ext F U σ2:=(e1.sub λi hi=>h.fb i (by rcases hi with rfl|rfl;exact m.1;exact m.2)).trans (e2.sub λi hi=>hi.1);refine hK σ2 J ⟨⟨nj,e2.bV C λd=>d.2.1 rfl,?_⟩,λi y t z A=>?_,h.fp,h.fb,h.nd,by simpa using h.len,h.ok,?_⟩
 ·rw[FV h.len hs hst];exact D
 ·have r:=QZ z;have k2:ig σ1 y.1 y.2 c t:=by
   by_cases hik:i=k
   ·subst hik;rw[hx]at z;cases z;rw[zO u]at A;cases A;exact hS
   ·rw[zh (Ne.symm hik)]at A;have M:=JQ g.2 z hx hik;exact(h.sp i y t z A).bS e1 (M _ (.inl rfl)) (M _ (.inr rfl))
  exact k2.bS e2 (λd=>d.2.2 r.1) (λd=>d.2.2 r.2)
 ·have:(ss.set k s').map (·.st)=ss.map (·.st):=by
   apply zt;intro i;simp only[zZ];by_cases hik:i=k
   ·subst hik;rw[zO u,hs];simp[hst]
   ·rw[zh (Ne.symm hik)]
  have L:=h.ru;rw[←sR (f:=cH.st) (R:=(· < ·))]at L ⊢;rw[this];exact L
theorem NG (h:fJ U F p c ps ss){R:Int->Bool->Hp->Prop}(h1:∀x ss',jg c ss=some (x,ss')->∀σ',Ext F U σ'->fJ σ' F p c ps ss'->R (x:Int) true σ')(h0:jg c ss=none->∀σ',aF U σ'->R 0 false σ') :
 Y7.c (aW p) U R:=by
 refine Y7.o ?_;unfold Y7.v;obtain⟨sl,W,hl,hr⟩:=h.sl;have hfew:=h.qF;have hn:=h.ok.kM;obtain⟨d,cs,E⟩:∃d cs,ss≠[]->sO U F p ps ss sl d cs:=by
  by_cases hne:ss=[]
  ·exact⟨0,[],λh=>absurd hne h⟩
  ·obtain⟨d,cs,E⟩:=hr hne;exact⟨d,cs,λ_=>E⟩
 refine bL (W.rS rfl ?_);refine Ux (a:=.p) (bb:=bO) (λ(iS:Option Addr) (t:Int) D=>∃i:Nat,t=(i:Int)/\i<=ss.length/\aF U D/\iS=(ZC ss i).map λk=>⟨d,3*k,none⟩) (λ_ t _=>ss.length-t.toNat) ⟨0,rfl,O,Ext.refl _ _,rfl⟩ ?_;rintro iS t D ⟨i,rfl,hi,e,rfl⟩;refine cP (λX=>?_) λhge=>?_
 ·simp only at X;have L:i<ss.length:=by omega
  have E:=E (by rintro rfl;simp at L);obtain⟨P,s,M,H,z⟩:=h.jN L;have u:=Kq M H;have hsl:=z.len;refine bL ((e.bV W id).rS rfl ?_);rw[E.a];refine ix O O ?_;rw[add_lit,show 0+(i:Int).toNat*3=3*i by omega];have Eb:=e.bV E.bV id;have C:ZC ss (i+1)=if s.many<s.tk.length then(match ZC ss i with
   | some j=>match ss[j]? with
    | some y=>if H9 s y then some i else some j
    | none=>some i
   | none=>some i)else ZC ss i:=by
   simp only[ZC,H];rfl
  have J:∀(r:Bool) (v:Hp),aF U v->(if r then some i else ZC ss i)=ZC ss (i+1) →
   If r (Ar .i64 ((i:Int)+1) λb=>(∃j:Nat,b=(j:Int)/\j<=ss.length/\aF U v/\some (⟨d,3*i,none⟩:Addr)=(ZC ss j).map λk=>⟨d,3*k,none⟩)/\ss.length-b.toNat<ss.length-(i:Int).toNat)
    (Ar .i64 ((i:Int)+1) λb=>(∃j:Nat,b=(j:Int)/\j<=ss.length/\aF U v/\((ZC ss i).map λk=>(⟨d,3*k,none⟩:Addr))=(ZC ss j).map λk=>⟨d,3*k,none⟩)/\ss.length-b.toNat<ss.length-(i:Int).toNat):=by
   intro r v ev hr';cases r
   ·refine cD rfl (cT (m:=i+1) O O ⟨⟨i+1,rfl,O,ev,?_⟩,O⟩);rw[←hr'];rfl
   ·refine cF rfl (cT (m:=i+1) O O ⟨⟨i+1,rfl,O,ev,?_⟩,O⟩);rw[←hr'];rfl
  refine Jn.intro ⟨λG=>bY G d cs,Eb,bL ⟨_,λG z=>by rw[add_lit,add_lit,z.cell];exact E.get u.1,bL ⟨_,λG z=>by rw[add_lit,z.cell];exact E.get u.2.2,?_⟩⟩⟩;refine WeV (z.bP e) ⟨Eb,?_⟩;refine cP (λhlt2=>?_) λhge2=>?_
  ·have hm:s.many<s.tk.length:=by omega
   rw[zC hm]at C;cases hbf:ZC ss i with
   | none=>
    rw[hbf]at C J;exact cF rfl (J true D e C.symm)
   | some j=>
    rw[hbf]at C J;obtain⟨hji,y,hy,hym⟩:=Ko hbf;simp only[hy]at C;have Q:j<ps.length:=by rw[h.len];omega
    have w:=Kq (cW Q) hy;have fin:Xm.c (s.many:Int) (s.st:Int) (y.many:Int) (y.st:Int) D λt46 v3=>bY v3 d cs ∧
     If t46 (Ar .i64 ((i:Int)+1) λb=>(∃j:Nat,b=(j:Int)/\j<=ss.length/\aF U v3/\some (⟨d,3*i,none⟩:Addr)=(ZC ss j).map λk=>⟨d,3*k,none⟩)/\ss.length-b.toNat<ss.length-(i:Int).toNat)
      (Ar .i64 ((i:Int)+1) λb=>(∃j':Nat,b=(j':Int)/\j'<=ss.length/\aF U v3/\((some j).map λk=>(⟨d,3*k,none⟩:Addr))=(ZC ss j').map λk=>⟨d,3*k,none⟩)/\ss.length-b.toNat<ss.length-(i:Int).toNat):=by
     refine SG _ _ _ _ λv3 e3=>⟨e3.bV Eb id,J _ v3 (e.trans e3) ?_⟩;rw[C];rfl
    refine cD rfl (bL (bL ⟨?_,?_⟩))
    ·exact Eb.fE (E.get u.1) (Eb.fE (E.get u.2.1) ⟨Eb,Eb.fE (E.get w.1) (Eb.fE (E.get w.2.1) ⟨Eb,fin⟩)⟩)
    ·exact Eb.fE (E.get w.1) (Eb.fE (E.get w.2.1) ⟨Eb,Eb.fE (E.get u.1) (Eb.fE (E.get u.2.1) ⟨Eb,fin⟩)⟩)
  ·have hm:¬s.many<s.tk.length:=by omega
   rw[zB hm]at C;exact J false D e C.symm
 ·have Z:i=ss.length:=by simp only at hge;omega
  subst Z;cases hbf:ZC ss ss.length with
  | none=>
   refine cF rfl (h0 ?_ _ e);simp[jg,iS,hbf]
  | some k=>
   obtain⟨hk,s,H,V⟩:=Ko hbf;have E:=E (by rintro rfl;simp at hk);obtain⟨P,s',M,K,z⟩:=h.jN hk;rw[H]at K;cases K;have u:=Kq M H;obtain⟨r,B,S,hr2⟩:=AW V;have D:=h.bP e;have one:jg c ss=some (at_ c s r,ss.set k (s.put r true)):=by simp[jg,iS,hbf,H,B]
   have E':sO _ F p ps ss sl d cs:=⟨E.a,e.bV E.bV id,E.fr,E.get,E.B3⟩;refine cD rfl (bL (E'.bV.rP (x:=some ⟨P.1,0,none⟩) (E.get u.2.2) ?_));refine ο (z.bP e) B λv5 e5 hS5=>bL ?_;have N:=QZ M;have Y:¬(d=P.1\/d=P.2):=λhh=>E.fr.2.2 (by rcases hh with h|h<;>rw[h];exact N.1;exact N.2)
   have hml:=B8 s;have g:=yD S true;rw[hr2]at g;have A:(s.put r true).many=s.many+1:=by simp at g;omega
   have hsl:=z.len;refine(e5.bV E'.bV Y).fE (E.get u.1) (cT (m:=s.many+1) O O (bL ?_));rw[add_lit,add_lit,ko,ko,←A];exact D.pZ (s':=s.put r true) M H rfl e5 hS5 (e.bV W id) E' λv6 e6 h6=>h1 _ _ one v6 (e.to.trans e6) h6
theorem Α {k:Nat}{s s':cH}(hs:ss[k]?=some s):qg (ss.set k s')+(s.tk.length-s.many)=qg ss+(s'.tk.length-s'.many):=by
 unfold qg
 induction ss generalizing k with
 | nil=>simp at hs
 | cons x ss ih=>
  cases k with
  | zero=>simp at hs;subst hs;simp;omega
  | succ k=>
   have:=ih (by simpa using hs);simp only[tC,zR,oB];omega
theorem Θ {x:Nat}{ss':List cH}(h:jg c ss=some (x,ss')):qg ss'+1=qg ss:=by
 unfold jg at h;split at h
 ·rename_i k hk;obtain⟨_,s,j,a⟩:=Ko hk;rw[j]at h;simp only at h;split at h
  ·rename_i i hi;cases h;obtain⟨r,g,b,d⟩:=AW a;rw[hi]at g;cases g;have u:=Α (s':=s.put i true) j;have m:=yD b true;rw[d]at m;have p:(s.put i true).tk.length=s.tk.length:=by simp[cH.put]
   simp at m;omega
  ·cases h
 ·cases h
theorem fJ.room (h:fJ U F p c ps ss):qg ss<=131072:=by
 have key:∀l:List cH,(∀s∈l,s.tk.length<=128)->qg l<=128*l.length:=by
  intro l
  induction l with
  | nil=>intro _;simp[qg]
  | cons x l ih=>
   intro hl;have j:=hl x aA;have r:=ih λs d=>hl s (by simp[d]);simp only[qg,zR,oB,zS]at *;omega
 have:=key ss λs d=>by
  obtain⟨i,hi⟩:=zP d;have b:=(cY.1 hi).1;obtain⟨x,m,_,a,g⟩:=h.jN b;rw[hi]at a;cases a;rw[g.len];exact h.ok.kM
 have:=h.qF;omega
theorem GW {m:Nat}{x:Nat}{ss':List cH}(h:jg c ss=some (x,ss')):KF c (m+1) ss=(x::(KF c m ss').1,(KF c m ss').2):=by
 simp[KF,h]
theorem SI (h:fJ U F p c ps ss)(m:Int)(hm:0<=m){R:Sl->Int->Hp->Prop}
 (hR:∀s σ',Ext F U σ'->bT s 1 (ints (KF c m.toNat ss).1) σ' (λb=>U.size<=b)->fJ σ' (Cut F U) p c ps (KF c m.toNat ss).2->R s 0 σ'):Xr.c (aW p) m U R:=by
 refine Xr.o ?_;unfold Xr.v;have h:=fJ.loc.cut h;have H:=fJ.room h;refine UB h (cD rfl (fZ O ?_));refine Qz (a:=.s) (λ(out:Sl) B=>∃j d,Ext F U B/\bT out 1 (ints j) B (λb=>U.size<=b)/\fJ B (Cut F U) p c ps d/\j.length<=m.toNat/\j.length+qg d=qg ss/\KF c m.toNat ss=(j++(KF c (m.toNat-j.length) d).1,(KF c (m.toNat-j.length) d).2))
  (λout _=>m.toNat-out.len) ⟨[],ss,Ext.refl _ _,bT.nil _ _ _ _,h,by simp,by simp,by simp⟩ ?_
 rintro out B ⟨j,d,e,g,G,Y,S,r⟩;have M:=g.qd;refine cP (λW=>?_) λX=>?_
 ·have u:m.toNat-j.length=(m.toNat-(j.length+1))+1:=by omega
  refine NG G (λx K w v2 e2 E=>cD rfl ?_) λz v2 e2=>cF rfl ?_
  ·have C:Ext F U v2:=e.trans (e2.sub λi hi=>hi.1);have y:=aI.bS g e2 λb _ D L=>by have:=L.2;omega
   refine y.push (vs:=[.int .i64 (x:Int)]) (λb D=>kx C.1 D) rfl rfl (by simp[dY]) O O λs' Z P N J=>?_;have Q:=Θ w;refine⟨⟨j++[x],K,C.dX N λi hi=>.inr hi,by rw[Hx];exact J,fJ.loc.bS E N λb _ D L=>(by have:=D.2;omega),by simp;omega,by simp;omega,?_⟩,O⟩;rw[r,u,GW w];simp
  ·have:KF c (m.toNat-j.length) d=([],d):=by rw[u];simp[KF,z]
   rw[this]at r;have A:=hR out v2 (e.trans e2.to);rw[r,kR]at A;exact A (aI.bP g e2) (G.bP e2)
 ·have V:m.toNat-j.length=0:=by omega
  rw[V]at r;have A:=hR out B e;rw[r]at A;simp only[KF,kR]at A;exact A g G
theorem Mv (h:fJ U F p c ps ss)(m:Int)(hm:m<0){R:Sl->Int->Hp->Prop}(hR:R ⟨none,0,0⟩ 1 U):Xr.c (aW p) m U R:=by
 refine Xr.o ?_;unfold Xr.v;exact UB h (cD rfl (l0 O hR))
def ja:List (Nat×Nat)->List cH->List (Nat×Nat)
 | x::ps,s::ss=>if s.many != 0 then x::ja ps ss else ja ps ss
 | _,_=>[]
theorem GF:∀{ps:List (Nat×Nat)} {ss:List cH},ps.length=ss.length->(ja ps ss).length=(cK ss).length
 | [],[],_=>rfl
 | x::ps,s::ss,h=>by
  have ih:=GF (ps:=ps) (ss:=ss) (by simpa using h);simp only[ja,cK,tK]at *;split<;>simp[ih]
theorem DS:∀{ps:List (Nat×Nat)} {ss:List cH},(ja ps ss).Sublist ps
 | [],_=>by simp[ja]
 | _::_,[]=>by simp[ja]
 | x::ps,s::ss=>by
  simp only[ja];split
  ·exact DS.cons_cons x
  ·exact DS.cons x
theorem FF:∀{ps ps':List (Nat×Nat)} {ss ss':List cH},ps.length=ss.length->ja (ps++ps') (ss++ss')=ja ps ss++ja ps' ss'
 | [],_,[],_,_=>rfl
 | x::ps,_,s::ss,_,h=>by
  simp only[lJ,ja,FF (ps:=ps) (ss:=ss) (by simpa using h)];split<;>rfl
theorem Er:∀{ps:List (Nat×Nat)} {ss:List cH} {i:Nat} {x:Nat×Nat} {s:cH},ps.length=ss.length->(ja ps ss)[i]?=some x->(cK ss)[i]?=some s->∃j:Nat,ps[j]?=some x/\ss[j]?=some s
 | [],[],_,_,_,_,h,_=>by simp[ja]at h
 | y::ps,t::ss,i,x,s,hl,h1,h2=>by
  have ih:=λi=>Er (ps:=ps) (ss:=ss) (i:=i) (x:=x) (s:=s) (by simpa using hl);simp only[ja,cK,tK]at h1 h2;cases hm:(t.many != 0)
  ·rw[hm]at h1 h2;obtain⟨j,a,b⟩:=ih i h1 h2;exact⟨j+1,by simpa using a,by simpa using b⟩
  ·rw[hm]at h1 h2;cases i with
   | zero=>simp at h1 h2;exact⟨0,by simp[h1],by simp[h2]⟩
   | succ i=>
    obtain⟨j,a,b⟩:=ih i (by simpa using h1) (by simpa[cK]using h2);exact⟨j+1,by simpa using a,by simpa using b⟩
theorem Ou (a b:List cH):cK (a++b)=cK a++cK b:=by simp[cK]
theorem ML (a b:List cH):QX (a++b)=QX a++QX b:=by simp[QX]
theorem Δ (c:cA)(a b:List Nat):iP c (a++b)=iP c a++iP c b:=by simp[iP]
theorem MM {a b:List (Nat×Nat)}(h:a.Sublist b):(eH a).Sublist (eH b):=by
 induction h with
 | slnil=>exact List.Sublist.refl _
 | cons x _ ih=>exact(ih.cons _).cons _
 | cons_cons x _ ih=>exact(ih.cons_cons _).cons_cons _
theorem Iy {h:Hp}{Q:Rg}{n3:Nat}{o:Sl}{l:List Nat}{x1 x2:Nat}{s:cH}(hb:bY h n3 [.slice o.a o.len o.cap])(hrow:bT o 2 (iP c l) h Q)(hQ:∀b,Q b->n3<b)(hl:l.length<=2000)(hS:ig h x1 x2 c s){R:aO}
 (hR:∀h' o',Ext (λb=>b=n3\/Q b) h h'->bY h' n3 [.slice (Sl.a o') o'.len o'.cap]->bT o' 2 (iP c (l++if s.many=0 then[s.st]else[])) h' (Grow Q h)->R (s.many==0) h') :
 VO Tryz.prog ⟨248,#[],#[.pointer (some ⟨n3,0,none⟩)]⟩ [.agg #[.int .i64 (s.many:Int),.int .i64 (s.st:Int),.pointer (some ⟨x1,0,none⟩)]] [.one .b] h R:=by
 refine GH (all := #[.agg #[.int .i64 (s.many:Int),.int .i64 (s.st:Int),.pointer (some ⟨x1,0,none⟩)],.pointer (some ⟨n3,0,none⟩)]) (by kernel_rfl) aA ?_;refine Yf.o ?_;unfold Yf.v;refine nw (cs:=[.int .i64 (s.many:Int),.int .i64 (s.st:Int),.pointer (some ⟨x1,0,none⟩)]) λv X e d=>?_;have W:=hb.lt;have g:=e.bV hb id;have hrow:=(bT.loc o 2 (iP c l)).mono hrow (G:=λb=>Q b/\b<h.size) λb hb y=>⟨y,hb⟩;refine Jn.intro (d.fE rfl ?_);rw[xV];refine cN (λC=>?_) λC=>?_
 ·have p:s.many=0:=by simpa using C
  rw[zC p]at hR;refine⟨λh'=>bY h' h.size [.int .i64 (s.many:Int),.int .i64 (s.st:Int),.pointer (some ⟨x1,0,none⟩)]/\bY h' n3 [.slice o.a o.len o.cap],⟨d,g⟩,⟨o,λh' hS=>by rw[hS.2.cell];rfl,⟨some ⟨x1,0,none⟩,λh' hS=>by rw[add_lit,hS.1.cell];rfl,?_⟩⟩⟩;refine MJ (hS.bP e) λY e2=>⟨⟨e2.bV d id,e2.bV g id⟩,?_⟩;have x:=e.trans e2;have m:=aI.bP hrow x;have z:=m.1;rw[N2]at z;refine nw (cs:=[.int .i64 (s.st:Int),.int .i64 (c.aG:Int)]) λv3 L w A=>⟨⟨(e2.trans w).bV d id,(e2.trans w).bV g id⟩,?_⟩;have r:=aI.bP m w;have P:=x.1;refine r.app (ys:=[.int .i64 (s.st:Int),.int .i64 (c.aG:Int)]) rfl rfl ?_ (by simp[dY]) ?_ ?_ nh λN H V D F=>?_
  ·intro j u hu;rw[add_lit,zH,A.cell];exact hu
  ·simp only;have:(o.len+1)*16<=2001*16:=mr O O;omega
  ·simp only;omega
  ·have K:bY H h.size [.int .i64 (s.many:Int),.int .i64 (s.st:Int),.pointer (some ⟨x1,0,none⟩)]:=D.bV ((e2.trans w).bV d id) λE=>by have:=E.2;omega
   have J:bY H n3 [.slice o.a o.len o.cap]:=D.bV ((e2.trans w).bV g id) λE=>by have:=hQ _ E.1;omega
   refine⟨⟨K,J⟩,J.s0 aA λv5 o5 S=>(WE o5 K O).fE rfl ?_⟩;have B:Ext (λb=>b=n3\/Q b) h v5:=(aF.to ((e.trans e2).trans w)).trans (D.sub λi hi=>.inr hi.1)|>.trans (o5.ext.sub λi hi=>.inl hi);rw[xV];refine hR v5 N B S ?_;rw[Δ];have:iP c [s.st]=[.int .i64 (s.st:Int),.int .i64 (c.aG:Int)]:=rfl;rw[this];have U:=aI.mono F (G:=Grow Q h) λb _ M=>by
    rcases M with h|h
    ·exact .inl h.1
    ·exact .inr O
   exact aI.bS U o5.ext λb _ y Z=>by
    rcases y with h|h
    ·have:=hQ _ h;omega
    ·omega
 ·have p:¬s.many=0:=by simpa using C
  rw[zB p,kR]at hR;refine d.fE rfl ?_;rw[xV];exact hR v o e.to g (aI.bP (aI.mono hrow λb _ y=>.inl y.1) e)
def yL (n3:Nat)(c:cA)(l:List Nat)(h:Hp):Prop:=∃o:Sl,bY h n3 [.slice o.a o.len o.cap]/\bT o 2 (iP c l) h (λb=>n3<b)
theorem CO {A D:List Value}{x y z:Value}{k:Nat}(hk:k=A.length)(hD:3<=D.length):(((A++D).set k x).set (k+1) y).set (k+2) z=A++[x,y,z]++D.drop 3:=by
 subst hk
 match D,hD with
 | d0::d1::d2::D,_=>simp[List.set_append]
theorem Gw {i:Nat}{s:cH}(hs:ss[i]?=some s):QX (ss.take (i+1))=QX (ss.take i)++(if s.many=0 then[s.st]else[]):=by
 rw[ka,hs,ML]
 congr 1
 by_cases hm:s.many=0<;>simp[QX,hm]
theorem Gx {i:Nat}{s:cH}(hs:ss[i]?=some s):cK (ss.take (i+1))=cK (ss.take i)++(if s.many=0 then[]else[s]):=by
 rw[ka,hs,Ou]
 congr 1
 by_cases hm:s.many=0<;>simp[cK,hm]
theorem DL {i:Nat}{x:Nat×Nat}{s:cH}(hl:ps.length=ss.length)(hx:ps[i]?=some x)(hs:ss[i]?=some s):ja (ps.take (i+1)) (ss.take (i+1))=ja (ps.take i) (ss.take i)++(if s.many=0 then[]else[x]):=by
 rw[ka,ka,hs,hx,FF (by simp[hl])]
 congr 1
 by_cases hm:s.many=0<;>simp[ja,hm]
theorem NR (l:List cH):(QX l).length<=l.length:=by unfold QX;rw[zj];exact pB _ _
theorem Sh (l:List cH):(cK l).length<=l.length:=pB _ _
theorem Ms (h:fJ U F p c ps ss){sl:Sl}{rb n3:Nat}{cs:List Value}{σ1:Hp}(e1:aF U σ1)(hlen:sl.len=ss.length)(hn3:U.size<=n3)(hE:ss≠[]->sO U F p ps ss sl rb cs/\sl.len<=sl.cap/\cs.length=sl.cap*3)(h0:yL n3 c [] σ1){R:Sl->Hp->Prop}
 (hR:∀h' nj,Ext (λb=>F b/\b≠p/\b∉eH ps\/n3<=b) σ1 h'->yL n3 c (QX ss) h'->(nj=sl/\QX ss=[]/\cK ss=ss/\ja ps ss=ps/\Ext (λb=>n3<=b) σ1 h'\/(bT nj 3 (dV (ja ps ss) (cK ss)) h' (λb=>F b/\b≠p/\b∉eH ps)))->R nj h') :
 Wi.c sl ⟨248,#[],#[.pointer (some ⟨n3,0,none⟩)]⟩ σ1 R:=by
 refine Wi.o ?_;unfold Wi.v;refine Wn.o ?_;unfold Wn.v;have hfew:=h.qF;have r:=h.len;refine Qz (a:=bO) (λ(t:Int) h'=>∃i:Nat,t=(i:Int)/\i<=ss.length/\Ext (λb=>n3<=b) σ1 h'/\yL n3 c [] h'/\QX (ss.take i)=[]/\cK (ss.take i)=ss.take i/\ja (ps.take i) (ss.take i)=ps.take i) (λt _=>ss.length-t.toNat) ⟨0,rfl,O,Ext.refl _ _,h0,by simp[QX],by simp[cK],by simp[ja]⟩ ?_;rintro t h' ⟨i,rfl,hi,e,⟨o,P,Y⟩,q1,q2,q3⟩;have eo:∀{v:Hp},Ext (λb=>n3<=b) σ1 v->Ext (λb=>n3<=b) U v:=λe=>e1.to.trans e;refine cP (λhlt=>?_) λhge=>?_
 ·have aa:i<ss.length:=by omega
  obtain⟨E,hcap,hcl⟩:=hE (by rintro rfl;simp at aa);obtain⟨xx,s,hp,M,hS⟩:=h.jN aa;have eg:=Kq hp M;have hrl:=E.bV.lt;have hSl:=hS.lt;rw[E.a];refine ix O O ?_;rw[add_lit,show 0+(i:Int).toNat*3=3*i by omega];refine xq (e:=0) ((eo e).bV E.bV O) (E.get eg.1) (E.get eg.2.1) (E.get eg.2.2) ?_;have hn3h:n3<h'.size:=P.lt;refine Iy P Y (λb h=>h) aA (hS.bS (eo e) O O) λh2 o2 e2 ab A=>?_;have e2:Ext (λb=>n3<=b) h' h2:=e2.sub λb g=>by omega
  have A:=aI.mono A (G:=λb=>n3<b) λb _ g=>by
   rcases g with h|h
   ·exact h
   ·omega
  refine cN (λhm=>?_) λhm=>?_
  ·-- the first that goes
   have x:s.many=0:=by simpa using hm
   rw[zC x,tz]at A;have D:((i:Int)==(-1))=false:=by rw[mP];omega
   show If ((i:Int)==(-1)) _ _;refine cD D (cT (m:=i+1) O O ?_);have q1':QX (ss.take (i+1))=[s.st]:=by rw[Gw M,q1,zC x];rfl
   have N:cK (ss.take (i+1))=ss.take i:=by rw[Gx M,q2,zC x,kR]
   have q3':ja (ps.take (i+1)) (ss.take (i+1))=ps.take i:=by rw[DL r hp M,q3,zC x,kR]
   have hke:∀k,k<=ss.length->(dV (ja (ps.take k) (ss.take k)) (cK (ss.take k))).length=3*(cK (ss.take k)).length:=λk _=>KE (GF (by simp[r]));have Eb2:bY h2 rb cs:=(eo (e.trans e2)).bV E.bV O;refine Ux (a:=bO) (bb:=bO) (λ(i1 j1:Int) v=>∃j:Nat,j1=(j:Int)/\i<j/\j<=ss.length/\i1=((cK (ss.take j)).length:Int)/\(cK (ss.take j)).length<j/\Ext (λb=>b=rb\/n3<=b) σ1 v/\yL n3 c (QX (ss.take j)) v ∧
    bY v rb (dV (ja (ps.take j) (ss.take j)) (cK (ss.take j))++cs.drop (3*(cK (ss.take j)).length))) (λ_ j1 _=>ss.length-j1.toNat) ?_ ?_
   ·refine⟨i+1,rfl,O,O,?_,?_,(e.trans e2).sub λb g=>.inr g,?_,?_⟩
    ·rw[N,zY];omega
    ·rw[N,zY];omega
    ·rw[q1'];exact⟨o2,ab,A⟩
    ·rw[N,q3',zY,qB O];have:dV (ps.take i) (ss.take i)++cs.drop (3*i)=cs:=by
      have h1:(dV (ps.take i) (ss.take i)).length=3*i:=by rw[KE (by simp[r]),zY];omega
      apply zt;intro k;rcases kr k (3*i)with hk|hk
      ·rw[zd O];have h2:(dV ps ss)[k]?=(dV (ps.take i) (ss.take i))[k]? := by
        conv=>lhs;rw[←oD i ps,←oD i ss,VQ (by simp[r])]
        rw[zd O]
       rw[←h2];have h3:k<(dV ps ss).length:=by rw[KE r];omega
       rw[cW h3];exact(E.get (cW h3)).symm
      ·rw[zp O,lj,h1]
       congr 1;omega
     rw[this];exact Eb2
   ·rintro i1 j1 v ⟨j,rfl,hij,hj,rfl,hKj,ev,⟨o3,C,L⟩,z⟩;have y:=hke j hj;have evo:Ext (λb=>b=rb\/n3<=b) U v:=e1.to.trans ev;refine cP (λhlt2=>?_) λhge2=>?_
    ·have hj':j<ss.length:=by omega
     obtain⟨yy,u,S,H,ah⟩:=h.jN hj';have V:=Kq S H;have hSul:=ah.lt;have ag:=QZ S;refine ix O O ?_;rw[add_lit,show 0+(j:Int).toNat*3=3*j by omega];have get:∀d,d<3->∀w,(dV ps ss)[3*j+d]?=some w->(dV (ja (ps.take j) (ss.take j)) (cK (ss.take j))++cs.drop (3*(cK (ss.take j)).length))[3*j+d]?=some w:=by
      intro d hd w hw;rw[zp O,lj,y,show 3*(cK (ss.take j)).length+(3*j+d-3*(cK (ss.take j)).length)=3*j+d by omega];exact E.get hw
     refine xq (e:=0) z (get 0 O _ V.1) (get 1 O _ V.2.1) (get 2 O _ V.2.2) (FB λv5 X b5=>b5.rI rfl (b5.rI rfl (b5.rP rfl ?_)));have hn3v:n3<v.size:=C.lt;have af:=aI.mono L (G:=λb=>n3<b/\b<v.size) λb g hf=>⟨hf,g⟩;have J:=NR (ss.take j);rw[zY]at J;refine Iy (X.bV C id) (aI.bP af X) (λb g=>g.1) O ((ah.bS evo (λW=>by rcases W with h|h;exact E.fr.2.2 (h▸ag.1);omega) (λW=>by rcases W with h|h;exact E.fr.2.2 (h▸ag.2);omega)).bP X) λv6 o6 e6 ac B=>?_;have hsz5:=X.1;have B:=aI.mono B (G:=λb=>n3<b) λb _ g=>by
      rcases g with h|h
      ·exact h.1
      ·omega
     have b6:bY v6 v.size [.int .i64 (u.many:Int),.int .i64 (u.st:Int),.pointer (some ⟨yy.1,0,none⟩)]:=e6.bV b5 λW=>by rcases W with h|h;omega;have:=h.2;omega
     have hrb:rb<U.size:=E.bV.lt;have K:=e6.bV (X.bV z id) λW=>by rcases W with h|h;omega;have:=h.1;omega
     have Z:Ext (λb=>b=rb\/n3<=b) σ1 v6:=(ev.trans X.to).trans (e6.sub λb g=>by rcases g with h|h;omega;have:=h.1;omega);rw[←Gw H]at B;have st:=Gx H;have kt:=DL r S H;by_cases hum:u.many=0
     ·rw[zC hum,kR]at st kt;have:(u.many==0)=true:=by simp[hum]
      rw[this];refine cD rfl (cT (m:=j+1) O O ⟨⟨j+1,rfl,O,O,?_,?_,Z,⟨o6,ac,B⟩,?_⟩,O⟩)
      ·rw[st]
      ·rw[st];omega
      ·rw[st,kt];exact K
     ·rw[zB hum]at st kt;have:(u.many==0)=false:=by simp[hum]
      rw[this];refine cF rfl (b6.rI rfl (b6.rI rfl (b6.rP rfl (ix O O ?_))));rw[add_lit,show 0+((cK (ss.take j)).length:Int).toNat*3=3*(cK (ss.take j)).length by omega];have hlen6:(dV (ja (ps.take j) (ss.take j)) (cK (ss.take j))++cs.drop (3*(cK (ss.take j)).length)).length=cs.length:=by
       rw[zK,y,ky];omega
      refine K.s1 O λv7 o7 b7=>b7.s1 aE λv8 o8 b8=>b8.s1 aE λv9 o9 b9=>?_;rw[ko,CO y.symm (by rw[ky];omega),List.drop_drop]at b9;have ev9:Ext (λb=>b=rb\/n3<=b) σ1 v9:=((Z.trans (o7.ext.sub λb g=>.inl g)).trans (o8.ext.sub λb g=>.inl g)).trans (o9.ext.sub λb g=>.inl g);have ae:Ext (· = rb) v6 v9:=(o7.ext.trans o8.ext).trans o9.ext;refine cT (m:=(cK (ss.take j)).length+1) O O (cT (m:=j+1) O O ⟨⟨j+1,rfl,O,O,?_,?_,ev9,⟨o6,ae.bV ac O,aI.bS B ae λb _ g he=>O⟩,?_⟩,O⟩)
      ·rw[st];simp
      ·rw[st];simp;omega
      ·rw[st,kt,VQ (GF (by simp[r]))];simp only[zK,zS,lA,dV];rw[show 3*((cK (ss.take j)).length+(0+1))=3*(cK (ss.take j)).length+3 by omega];exact b9
    ·have hjj:j=ss.length:=by omega
     subst hjj;rw[lN]at *;have Q:ps.take ss.length=ps:=by rw[←r,lN]
     rw[Q]at z y;have J:=Sh ss;refine jt O O O ?_;have hK3:3*(cK ss).length<=cs.length:=by omega
     have hlt3:(cK ss).length<ss.length:=hKj;rw[zB O];simp only[E.a,ze,add_lit,zH];refine⟨by simp[dY],?_⟩;simp only;have hz:(List.replicate (sl.len-(cK ss).length) [Value.int .i64 0,.int .i64 0,.pointer none]).flatten.length=3*(sl.len-(cK ss).length):=by
      rw[wW,wy,wG];simp;omega
     refine V2 (o:=(cK ss).length*3) (i:=0) z (by rw[hz,zK,y,ky];omega) λv10 gD b10=>?_;refine jt (lo:=0) O O O ?_;have ad:Ext (λb=>b=rb\/n3<=b) σ1 v10:=ev.trans (gD.ext.sub λb g=>.inl g);refine hR v10 _ (ad.sub λb g=>?_) ⟨o3,WE gD C (by have:=E.bV.lt;omega),aI.bS L gD.ext λb _ g he=>by have:=E.bV.lt;omega⟩ (.inr ?_)
     ·rcases g with rfl|h
      ·exact .inl E.fr
      ·exact .inr h
     ·refine⟨by rw[KE (GF r)];simp;omega,.inr ⟨rb,_,E.fr,?_,b10,?_,?_,?_⟩⟩
      ·simp only[E.a];split<;>simp[add_lit]
      ·simp only;omega
      ·simp only[zK,zY,ky,hz,y];omega
      ·rw[KE (GF r),ko,show(cK ss).length*3=3*(cK ss).length by omega];rw[zk,pc (by rw[zY,zK,y];omega),Be,Nat.min_self];rw[pc O,lP O]
  ·have x:¬s.many=0:=by simpa using hm
   rw[zB x,kR]at A;refine cT (m:=i+1) O O ⟨⟨i+1,rfl,O,e.trans e2,⟨o2,ab,A⟩,?_,?_,?_⟩,O⟩
   ·rw[Gw M,q1,zB x];rfl
   ·rw[Gx M,q2,zB x,ka,M];rfl
   ·rw[DL r hp M,q3,zB x,ka,hp];rfl
 ·have hii:i=ss.length:=by omega
  subst hii;rw[lN]at *;have Q:ps.take ss.length=ps:=by rw[←r,lN]
  rw[Q]at q3;have D:((-1:Int)==(-1))=true:=rfl;refine cF D (hR h' sl (e.sub λb g=>.inr g) ?_ (.inl ⟨rfl,q1,q2,q3,e⟩));rw[q1];exact⟨o,P,Y⟩
theorem fJ.nj (h:fJ U F p c ps ss):∃sl:Sl,bY U p [.int .i64 (c.size:Int),.int .i64 (c.aG:Int),.int .i64 (c.batch:Int),.slice sl.a sl.len sl.cap]/\sl.len=ss.length/\bT sl 3 (dV ps ss) U (λb=>F b/\b≠p/\b∉eH ps) ∧
 ∃rb cs,(ss≠[]->sO U F p ps ss sl rb cs/\sl.len<=sl.cap/\cs.length=sl.cap*3):=by
 obtain⟨sl,m,g⟩:=h.hd;have r:=g.1;rw[KE h.len]at r;refine⟨sl,m,O,g,?_⟩;rcases g.2 with⟨h0,_⟩|⟨b,cs,hq,ha,hbb,hle,hcl,ht⟩
 ·exact⟨0,[],λi=>by have:=pT.2 i;omega⟩
 ·refine⟨b,cs,λ_=>⟨⟨ha,hbb,hq,λ{j v} d=>?_,?_⟩,hle,hcl⟩⟩
  ·rw[←ht,zl]at d;split at d
   ·exact d
   ·cases d
  ·have:=congrArg List.length ht;rw[zY,KE h.len]at this;omega
theorem SP (h:fJ U F p c ps ss){R:Sl->Hp->Prop}
 (hR:∀o σ',Ext F U σ'->bT o 2 (iP c (QX ss)) σ' (λb=>U.size<=b)->fJ σ' (Cut F U) p c (ja ps ss) (cK ss)->R o σ'):Yb.c (aW p) U R:=by
 refine Yb.o ?_;unfold Yb.v;have h:=fJ.loc.cut h;obtain⟨sl,a,C,B,W,cs,M⟩:=h.nj;refine UB h (cD rfl (nw (cs:=[.slice none 0 0]) λX Q e1 D=>bL ((e1.bV a id).rS rfl ?_)));refine Ms h e1 C (zD _) M ⟨⟨none,0,0⟩,D,bT.nil _ _ _ _⟩ λV nj e2 ⟨o,z,H⟩ u=>bL ?_;have K:=a.lt;have g:=h.nd;have d:=MM (DS (ps:=ps) (ss:=ss));simp only[zr]at g;refine(e2.bV (e1.bV a id) λJ=>by rcases J with h|h;exact h.2.1 rfl;omega).s1 aA λv3 o3 E=>?_;have A:=WE o3 z (by have:=z.lt;omega);refine A.vE rfl (hR o v3 ?_ (aI.bS (aI.mono H λb _ a=>O) o3.ext λb _ a m=>O) ?_)
 ·refine(e1.to.dX e2 λb a=>?_).dX o3.ext λb a=>?_
  ·rcases a with h|h
   ·exact .inl h.1.1
   ·exact .inr h
  ·subst a;exact .inl h.fp.1
 ·have y:∀b,b∈eH ps->b<U.size->¬(Cut F U b/\b≠p/\b∉eH ps\/U.size<=b):=λb a P J=>by
   rcases J with h|h
   ·exact h.2.2 a
   ·omega
  refine⟨⟨nj,E,?_⟩,λi x s N S=>?_,h.fp,λb a=>h.fb b (d.subset a),?_,GF h.len,h.ok,h.ru.sublist ux⟩
  ·rcases u with⟨rfl,_,q2,q3,ex⟩|hr
   ·rw[q2,q3];exact aI.bS (aI.bS (aI.bP B e1) ex λb _ a m=>by have:=a.1.2;omega) o3.ext λb _ a m=>a.2.1 m
   ·exact aI.bS (aI.mono hr λb _ a=>⟨a.1,a.2.1,λr=>a.2.2 (d.subset r)⟩) o3.ext λb _ a m=>a.2.1 m
  ·obtain⟨j,w,G⟩:=Er h.len N S;have L:=h.sp j x s w G;have r:=QZ w;have C:=L.lt;exact((L.bP e1).bS e2 (y _ r.1 C.1) (y _ r.2 C.2)).bS o3.ext (λm=>g.1 (m▸r.1)) (λm=>g.1 (m▸r.2))
  ·simp only[zr];exact⟨λr=>g.1 (d.subset r),g.2.sublist d⟩
theorem Ml {x:Int}{k i:Nat}{s:cH}(hc:0<c.size)(hk:kY c ss x=some k)(hs:ss[k]?=some s)(v:Bool)(y:Int):kY c (ss.set k (s.put i v)) y=kY c ss y:=by
 have a:∀t:cH,∀j w z,idx c (t.put j w) z=idx c t z:=λt j w z=>by unfold idx cH.put;simp only[oQ]
 unfold kY;have b:=(cY.1 hs).1;have:(ss.set k (s.put i v)).map (λs=>(idx c s y).isSome)=ss.map (λs=>(idx c s y).isSome):=by
  apply zt;intro j;simp only[zZ];by_cases hjk:j=k
  ·subst hjk;rw[zO b,hs];simp[a]
  ·rw[zh (Ne.symm hjk)]
 have d:∀l:List cH,l.findIdx? (λs=>(idx c s y).isSome)=(l.map λs=>(idx c s y).isSome).findIdx? id:=λl=>by rw[List.findIdx?_map];rfl
 rw[d,d,this]
def kC (c:cA)(ss:List cH)(xs:List Int):Prop:=(∀x∈xs,eI c ss x=some true)/\xs.Nodup
theorem y7 {x:Int}{b:Bool}(h:eI c ss x=some b):∃k s i,kY c ss x=some k/\ss[k]?=some s/\obj c s x=some i/\s.is i=b:=by
 unfold eI at h;split at h
 ·rename_i k hk;split at h
  ·rename_i s hs;cases ho:obj c s x with
   | none=>rw[ho]at h;cases h
   | some i=>rw[ho]at h;exact⟨k,s,i,hk,hs,ho,by simpa[cH.is]using h⟩
  ·cases h
 ·cases h
theorem Bf {x:Int}{k i:Nat}{s:cH}(hk:kY c ss x=some k)(hs:ss[k]?=some s)(ho:obj c s x=some i):fL c ss x=ss.set k (s.put i false):=by
 simp[fL,hk,hs,ho]
theorem Sw {x y:Int}(hc:0<c.size)(hx:eI c ss x=some true)(hne:y≠x):eI c (fL c ss x) y=eI c ss y:=by
 obtain⟨k,s,i,A,d,u,_⟩:=y7 hx;rw[Bf A d u];have r:=(cY.1 d).1;have a:=Ml hc A d false (i:=i) y;have p:∀t:cH,∀j w z,obj c (t.put j w) z=obj c t z:=λt j w z=>by unfold obj idx at_ cH.put;simp only[oQ]
 cases hy:kY c ss y with
 | none=>rw[C1 (a.trans hy),C1 hy]
 | some m=>
  by_cases hmk:m=k
  ·subst hmk;rw[Uh (a.trans hy) (zO r),Uh hy d,p];cases hoy:obj c s y with
   | none=>rfl
   | some j=>
    simp only[ze,Option.some.injEq];have g:i≠j:=λe=>by
     subst e;exact hne (((U7 hc).1 hoy).1.trans ((U7 hc).1 u).1.symm)
    simp[cH.is,cH.put,zQ,zh g]
  ·have b:m<ss.length:=(nI.1 hy).1;rw[Uh (a.trans hy) ((zh (Ne.symm hmk)).trans (cW b)),Uh hy (cW b)]
theorem kC.next {x:Int}{xs:List Int}(hc:0<c.size)(h:kC c ss (x::xs)):kC c (fL c ss x) xs:=by
 have a:=zr.1 h.2;refine⟨λy b=>?_,a.2⟩;rw[Sw hc (h.1 x aA) λe=>a.1 (e▸b)];exact h.1 y (by simp[b])
theorem F6 {xs:List Int}(h:iL c ss xs=0):kC c ss xs:=by
 unfold iL at h;split at h
 ·cases h
 ·rename_i h1;split at h
  ·cases h
  ·rename_i h2;simp only[nW,not_or,rZ,mB,Bool.not_eq_false',zV,zU]at h1 h2;refine⟨λx d=>?_,h2.2⟩;have a:=h1 x d;have b:=h2.1 x d;cases ht:eI c ss x with
   | none=>rw[ht]at a;simp at a
   | some v=>
    cases v
    ·rw[ht]at b;exact absurd rfl b
    ·rfl
theorem OF {sl:Sl}{xs:List Int}{X:Rg}(h:fJ U F p c ps ss)(hs:cV sl 1 (xs.map (Value.int .i64)) U X)(hX:∀b,X b->¬F b)(hi:∀x∈xs,iN x)(hA:kC c ss xs)(hl:xs.length<=1000000){K:aP}
 (hK:∀σ',Ext F U σ'->fJ σ' F p c ps (xs.foldl (fL c) ss)->K σ') :
 X8 [bO] (λI1=>I1 0 U) λJ3 (t49:Int) v6=>If (decide (t49<((sl.len:Nat):Int))) (Ix sl.a sl.len t49 1 λa51=>gJ .i64 a51 v6 λaddr1=>
  X3.c (aW p) addr1 v6 λvx v7=>bW vx λa57=>fY (a57.add 2) v7 λt59=>ZT.c t59 addr1 v7 λt61 v8=>bW vx λa63=>gJ .i64 ((a63.add 0).add 0) v8 λt66=>
  Ar .i64 (t66-1) λt67=>bW vx λa68=>dQ ((a68.add 0).add 0) (.int .i64 t67) v8 λv9=>Ar .i64 (t49+1) λt71=>J3 t71 v9) (K v6):=by
 have hlen:sl.len=xs.length:=by have:=hs.1;simp at this;omega
 have G:0<c.size:=by have:=h.ok.1;omega
 refine Qz (a:=bO) (λ(t:Int) J=>∃(i:Nat) (r:List cH),t=(i:Int)/\i<=xs.length/\Ext F U J/\fJ J F p c ps r/\kC c r (xs.drop i)/\(xs.drop i).foldl (fL c) r=xs.foldl (fL c) ss) (λt _=>xs.length-t.toNat) ⟨0,ss,rfl,O,Ext.refl _ _,h,by simpa using hA,by simp⟩ ?_;rintro t J ⟨i,r,rfl,hil,e,L,y,C⟩;refine cP (λhlt=>?_) λhge=>?_
 ·have w:i<xs.length:=by omega
  have hx:xs[i]?=some xs[i]:=cW w;have hd:xs.drop i=xs[i]::xs.drop (i+1):=xz w;rw[hd]at y C;refine(aH.bS hs e λb _ Q hF=>hX b Q hF).lL hx ?_;obtain⟨k,s,j,N,g,M,D⟩:=y7 (y.1 xs[i] mO);have A:=hi xs[i] (kv w);refine DY L xs[i] A (λhn=>by rw[N]at hn;cases hn) λk' nj rb cs B Y Q E=>bL ?_;rw[N]at B;cases B;obtain⟨W,s',V,z,Z⟩:=L.jN Y;rw[g]at z;cases z;have eg:=Kq V g;have hj:=((U7 G).1 M).2;refine E.bV.rP (x:=some ⟨W.1,0,none⟩) (E.get eg.2.2) ?_;refine MV Z A M D λv8 e8 P=>bL ?_;have H:=QZ V;have S:¬(rb=W.1\/rb=W.2):=λhh=>E.fr.2.2 (by rcases hh with h|h<;>rw[h];exact H.1;exact H.2)
  have hml:=B8 s;have d:=yD hj false;rw[D]at d;have hsl:=Z.len;have hnl:=Z.ok.kM;have u:((s.put j false).many:Int)=s.many-1:=by simp at d;omega
  refine(e8.bV E.bV S).fE (E.get eg.1) (ar O O (bL ?_));simp only[add_lit,ko];rw[←u];refine L.pZ (s':=s.put j false) V g rfl e8 P Q E λv9 e9 R=>?_;refine cT (m:=i+1) O O ⟨⟨i+1,_,rfl,O,e.trans e9,R,?_,?_⟩,O⟩
  ·have:=kC.next G y
   rwa [Bf N g M]at this
  ·rw[si,Bf N g M]at C;exact C
 ·have:i=xs.length:=by omega
  subst this;rw[List.drop_length,List.foldl_nil]at C;subst C;exact hK J e L
theorem T1 (h:fJ U F p c ps ss){sl:Sl}{xs:List Int}{X:Rg}(hs:cV sl 1 (xs.map (Value.int .i64)) U X)(hX:∀b,X b->¬F b)(hi:∀x∈xs,iN x)(hl:xs.length<=1000000)(hcap:sl.len<=sl.cap){R:Sl->Int->Hp->Prop}
 (h0:iL c ss xs≠0->R ⟨none,0,0⟩ (iL c ss xs) U)
 (h1:iL c ss xs=0->∀o σ',Ext F U σ'->bT o 2 (iP c (QX (xs.foldl (fL c) ss))) σ' (λb=>U.size<=b)->fJ σ' (Cut F U) p c (ja ps (xs.foldl (fL c) ss)) (cK (xs.foldl (fL c) ss))->R o 0 σ') :
 Y9.c (aW p) sl U R:=by
 refine Y9.o ?_;unfold Y9.v;have hlen:sl.len=xs.length:=by have:=hs.1;simp at this;omega
 refine UB h (cD rfl ?_);have tw:∀i,(xs.take i).any (λx=>eI c ss x==some false)=true\/¬(xs.take i).Nodup->(∀x∈xs,(eI c ss x).isSome=true)->iL c ss xs=9:=by
  intro i d hall;unfold iL;rw[zB,zC]
  ·rcases d with d|d
   ·rw[zy]at d;obtain⟨x,u,Y⟩:=d;have:xs.any (λx=>eI c ss x==some false)=true:=zy.2 ⟨x,uf u,Y⟩;rw[this];rfl
   ·have:¬xs.Nodup:=λE=>d (E.sublist (BE _ _));simp[this]
  ·simp only[rZ,mB];intro x u;have:=hall x u;cases ht:eI c ss x
   ·rw[ht]at this;cases this
   ·simp
 refine Ux (a:=.b) (bb:=bO) (λ(tw:Bool) (t:Int) B=>∃i:Nat,t=(i:Int)/\i<=xs.length/\B=U/\(∀x∈xs.take i,(eI c ss x).isSome=true)/\(tw=true↔(xs.take i).any (λx=>eI c ss x==some false)=true\/¬(xs.take i).Nodup)) (λ_ t _=>xs.length-t.toNat)
  ⟨0,rfl,O,rfl,by simp,by simp⟩ ?_
 rintro A t B ⟨i,rfl,hil,rfl,g,C⟩;refine cP (λhlt=>?_) λhge=>?_
 ·have D:i<xs.length:=by omega
  have u:xs[i]?=some xs[i]:=cW D;have Q:=hi xs[i] (kv D);have G:xs.take (i+1)=xs.take i++[xs[i]]:=by rw[ka,u];rfl
  refine hs.lL u (Lt h xs[i] Q (λb d=>cD rfl ?_) λE=>cF rfl ?_)
  ·have w:∀x∈xs.take (i+1),(eI c ss x).isSome=true:=by
    rw[G];intro x u;rcases zM.1 u with h1|h1
    ·exact g x h1
    ·simp at h1;subst h1;rw[d];rfl
   have fin:∀H:Bool,(H=true↔(xs.take (i+1)).any (λx=>eI c ss x==some false)=true\/¬(xs.take (i+1)).Nodup)->Ar .i64 ((i:Int)+1) λs=>
    (∃j:Nat,s=(j:Int)/\j<=xs.length/\B=B/\(∀x∈xs.take j,(eI c ss x).isSome=true)/\(H=true↔(xs.take j).any (λx=>eI c ss x==some false)=true\/¬(xs.take j).Nodup))/\xs.length-s.toNat<xs.length-(i:Int).toNat:=
    λH N=>cT (m:=i+1) O O ⟨⟨i+1,rfl,O,rfl,w,N⟩,O⟩
   have S:∀y:Int,(xs.take i++[y]).Nodup↔(xs.take i).Nodup/\y∉xs.take i:=λy=>by
    rw[nk];constructor
    ·exact λh=>⟨h.1,λM=>h.2.2 y M y aA rfl⟩
    ·exact λh=>⟨h.1,by simp,λa ha z hz e=>by simp at hz;subst hz;exact h.2 (e▸ha)⟩
   have ex:(xs.take (i+1)).any (λx=>eI c ss x==some false)=true\/¬(xs.take (i+1)).Nodup↔(A=true\/b=false)\/xs[i]∈xs.take i:=by
    rw[G,S,List.any_append,C];simp only[List.any_cons,List.any_nil,Bool.or_false,nW,d];have V:((some b==some false)=true)↔b=false:=by cases b<;>simp
    rw[V];constructor
    ·rintro((h|h)|h)
     ·exact .inl (.inl (.inl h))
     ·exact .inl (.inr h)
     ·by_cases E:(xs.take i).Nodup
      ·by_cases M:xs[i]∈xs.take i
       ·exact .inr M
       ·exact absurd ⟨E,M⟩ h
      ·exact .inl (.inl (.inr E))
    ·rintro(((h|h)|h)|h)
     ·exact .inl (.inl h)
     ·exact .inr λL=>h L.1
     ·exact .inl (.inr h)
     ·exact .inr λL=>L.2 h
   have J1:∀r:Bool,(r=true↔A=true\/b=false)->bX (λH v4=>Ar .i64 ((i:Int)+1) λs=>
    (∃j:Nat,s=(j:Int)/\j<=xs.length/\v4=B/\(∀x∈xs.take j,(eI c ss x).isSome=true)/\(H=true↔(xs.take j).any (λx=>eI c ss x==some false)=true\/¬(xs.take j).Nodup))/\xs.length-s.toNat<xs.length-(i:Int).toNat) λJ2=>
    If r (J2 true B) (fI sl 1 0 (i:Int) (sl.cap:Nat) λt41=>Ww.c t41 xs[i] B λaa v5=>J2 aa v5):=by
    intro r hr;refine bX.intro ?_;cases r
    ·refine cD rfl ?_;refine jt (lo:=0) O O O ?_;have K:cV ⟨if sl.cap=0 then sl.a else sl.a.map (·.add (0*1)),i-0,sl.cap-0⟩ 1 ((xs.take i).map (Value.int .i64)) B X:=by
      refine⟨by simp;omega,?_⟩;rcases hs.2 with h0|⟨b',o',cs',hf',ha',hb',hc'⟩
      ·left;have:xs=[]:=by simpa using h0
       simp[this]
      ·refine .inr ⟨b',o',cs',hf',?_,hb',λj hj=>?_⟩
       ·rw[zB O,ha'];simp[add_lit]
       ·simp only[zj,zY]at hj;rw[hc' j aE,List.map_take,zl,zC O]
     refine G6 K aE _ (fin _ ?_);rw[ex,←hr];simp
    ·refine cF rfl (fin true ?_);rw[ex,←hr];simp
   refine bX.intro ?_;cases A
   ·refine cD rfl (J1 _ ?_);cases b<;>simp
   ·exact cF rfl (J1 _ aA)
  ·have:iL c ss xs=8:=by
    unfold iL;rw[zC];exact zy.2 ⟨xs[i],kv D,by rw[E];rfl⟩
   have h0:=h0 (by rw[this];decide);rw[this]at h0;exact h0
 ·have:i=xs.length:=by omega
  subst this;rw[lN]at *;cases A
  ·refine cD rfl ?_;have hE:iL c ss xs=0:=by
    unfold iL;have W:¬(xs.any (λx=>eI c ss x==some false)=true\/¬xs.Nodup):=λL=>by have:=C.2 L;cases this
    rw[zB,zB]
    ·simp only[not_or,rZ,Decidable.not_not]at W;rw[W.1];simp[W.2]
    ·simp only[rZ,mB];intro x u;have:=g x u;cases ht:eI c ss x
     ·rw[ht]at this;cases this
     ·simp
   refine OF (fJ.loc.cut h) hs (λb d hf=>hX b d hf.1) hi (F6 hE) hl λv6 e6 P=>?_;refine SP P λo v10 Z ab J=>?_;exact h1 hE o v10 ((e6.trans Z).sub λb d=>d.1) (aI.mono ab λb _ d=>kx e6.1 d) (fJ.loc.mono J λb _ d=>d.1)
  ·refine cF rfl ?_;have h9:=tw xs.length (by rw[lN];exact C.1 rfl) g;have h0:=h0 (by rw[h9];decide);rw[h9]at h0;exact h0
theorem Sy {x y:Sl}{a o b o':Nat}{cs ds:List Value}(hx:x.a=some ⟨a,o,none⟩)(hy:y.a=some ⟨b,o',none⟩)(ha:bY U a cs)(hb:bY U b ds)(hne:a≠b)(hd:ds≠[]){K:aO}(hK:K false U) :
 uU Tryz.prog 320 [.slice x.a x.len x.cap,.slice y.a y.len y.cap] U K:=by
 rintro w rfl;obtain⟨g,ha⟩:=ha;obtain⟨d,hb⟩:=hb;refine⟨false,w,?_,.refl _,hK⟩;rw[hx,hy,run_callFunc_extern Tryz.func320 (by kernel_rfl) (by kernel_rfl) (by kernel_rfl) (e:=Extern.SlicesOverlaps.overlaps #[272,272] #[4]) (by kernel_rfl)];have:=Lib.run_overlaps_apart (P:=Tryz.prog) w 272 4 279 Tryz.underlying272 3 Tryz.sizeOf279
  ⟨a,o,none⟩ ⟨b,o',none⟩ x.len x.cap y.len y.cap hne g d cs.length ds.length (by simp[World.shape?,ha]) (by simp[World.shape?,hb]) (by simpa using hd) (by simp[World.frozen?,ha]) (by simp[World.frozen?,ha])
 rw[this];rfl
theorem π {Q:Rg}{s:Sl}{xs:List Value}{i m vb:Nat}{x y z:Value}(h:bT s 3 xs U Q)(hlen:s.len=m)(hm:m<=2000)(hi:i<=m)(hv:bY U vb [x,y,z])(hvb:¬Q vb)(h1:∀v∈xs,dY v=true)(h2:dY x=true/\dY y=true/\dY z=true)
 {R:Sl->Hp->Prop} (hR:∀s' σ',Ext Q U σ'->bT s' 3 (xs.take (3*i)++[x,y,z]++xs.drop (3*i)) σ' (Grow Q U)->R s' σ') :
 Wk.c s (i:Int) ⟨some ⟨vb,0,none⟩,1,1⟩ U R:=by
 refine Wk.o ?_;unfold Wk.v;have hxl:=h.1;have hcap:s.len<=s.cap:=by
  rcases h.2 with⟨h0,h0'⟩|⟨b,cs,_,_,_,J,_⟩
  ·omega
  ·exact J
 have W:Rd U (some ⟨vb,0,none⟩) [x,y,z]:=by
  intro j u hu;rw[add_lit,zH,hv.cell];exact hu
 have X:∀v∈[x,y,z],dY v=true:=by simp[h2]
 refine jt O O O (cD rfl (cN (λhe=>?_) λhe=>?_))
 ·have hie:i=m:=by
   have:(i:Int)=((s.len:Nat):Int):=by simpa using he
   omega
  refine h.app (ys:=[x,y,z]) rfl rfl W X aD aD nh λs' h' hl' e' ho'=>hR s' h' e' ?_
  rw[lP O,BS O,kR];exact ho'
 ·have hie:i<m:=by
   have:¬(i:Int)=((s.len:Nat):Int):=by simpa using he
   omega
  obtain⟨b,cs,P,Z,E,J,K,ht⟩:∃b cs,Q b/\s.a=some ⟨b,0,none⟩/\bY U b cs/\s.len<=s.cap/\cs.length=s.cap*3/\cs.take xs.length=xs:=by
   rcases h.2 with⟨h0,_⟩|h
   ·omega
   ·exact h
  have G:vb≠b:=λe=>hvb (e▸P);have w:∀j v,xs[j]?=some v->cs[j]?=some v:=λj v p=>by
   rw[←ht,zl]at p;split at p
   ·exact p
   ·cases p
  refine cT (m:=m+1) aD O (cP (λhgt=>?_) λhle2=>?_)
  ·-- no room: a new row
   refine jt (lo:=0) O O O (cT (m:=m+1) aD O (cT (m:=m+1-i) O O ?_))
   have B:¬s.cap=0:=by omega
   rw[zB B];simp only[Z,ze,add_lit,vO,ko,Nat.sub_zero];refine⟨O,xs.take (3*i),by rw[zY];simp only;omega,?_,by simp[dY],by simp only;omega,by simp only;omega,O,λhin=>by simp only at hin;omega,λ_ cc H=>?_⟩
   ·intro j v p;rw[add_lit,zH,E.cell];rw[zl]at p;split at p
    ·exact w j v p
    ·cases p
   simp only[dF]at H ⊢;have hi1:i+(m+1-i)=m+1:=by omega
   rw[hi1]at H ⊢;refine nw λv2 hz2 e2 hb2=>?_;have A:∀k,(List.replicate k [Value.int .i64 0,.int .i64 0,.pointer none]).flatten.length=3*k:=λk=>by
    rw[wW,wy,wG];simp;omega
   have g:(xs.take (3*i)).length=3*i:=by rw[zY];omega
   refine jt aD aD aD ?_
   have V:=e2.bV hv id;have n1:(if cc=i then(some ⟨U.size,0,none⟩:Option Addr)else(some ⟨U.size,0,none⟩:Option Addr).map (·.add (i*3)))=some ⟨U.size,i*3,none⟩:=by
    have:¬cc=i:=by omega
    rw[zB this];simp[add_lit]
   rw[n1];refine⟨[x,y,z],by simp only;rw[qB O];rfl,?_,X,?_⟩
   ·intro j u hu;rw[add_lit,zH,V.cell];exact hu
   simp only;refine V2 (o:=i*3) (i:=0) hb2 (by simp only[zK,g,A,zS,lA];omega) λv3 o3 S=>?_;refine cT (m:=i+1) aD O (jt aD aD aD (jt O O O ?_))
   have N:bY v3 b cs:=WE o3 (e2.bV E id) (by have:=E.lt;omega);have d:(xs.drop (3*i)).length=3*(m-i):=by rw[ky];omega
   refine⟨xs.drop (3*i),by simp only;rw[qB O,d];omega,?_,λv hv=>h1 v (ue hv),?_⟩
   ·have r:¬s.cap=i:=by omega
    rw[zB r];simp only[Z,ze,add_lit];intro j v p;rw[add_lit,N.cell];rw[lj]at p;have:=w _ _ p;rw[show 0+i*3+j=3*i+j by omega];exact this
   have hbig:(xs.take (3*i)++(List.replicate (m+1-i) [Value.int .i64 0,.int .i64 0,.pointer none]).flatten++(List.replicate (cc-(m+1)) [Value.int .i64 0,.int .i64 0,.pointer none]).flatten).length=3*cc:=by
    simp only[zK,g,A];omega
   have tk:∀L:List Value,((xs.take (3*i)++(List.replicate (m+1-i) [Value.int .i64 0,.int .i64 0,.pointer none]).flatten++(List.replicate (cc-(m+1)) [Value.int .i64 0,.int .i64 0,.pointer none]).flatten).take (3*i))=xs.take (3*i):=λ_=>by
    rw[zk,pc O,lP O]
   have fin:∀v4,Ka v3 v4 U.size->bY v4 U.size ((xs.take (3*i)++[x,y,z])++xs.drop (3*i)++((xs.take (3*i)++(List.replicate (m+1-i) [Value.int .i64 0,.int .i64 0,.pointer none]).flatten++(List.replicate (cc-(m+1)) [Value.int .i64 0,.int .i64 0,.pointer none]).flatten).drop (3*i+3)).drop (3*(m-i)))->R ⟨some ⟨U.size,0,none⟩,m+1,cc⟩ v4:=by
    intro v4 o4 b4;refine hR _ v4 ?_ ⟨?_,.inr ⟨U.size,_,.inr (zD _),rfl,b4,by simp only;omega,?_,?_⟩⟩
    ·exact((e2.to.dX o3.ext λi hi=>by subst hi;exact .inr (zD _)).dX o4.ext λi hi=>by subst hi;exact .inr (zD _))
    ·simp only[zK,g,d,zS,lA];omega
    ·simp only[zK,g,d,zS,lA,ky,A];omega
    ·rw[zk (xs.take (3*i)++[x,y,z]),←zk,Bb];rfl
   have e3:(xs.take (3*i)++(List.replicate (m+1-i) [Value.int .i64 0,.int .i64 0,.pointer none]).flatten++(List.replicate (cc-(m+1)) [Value.int .i64 0,.int .i64 0,.pointer none]).flatten).take (i*3+0)=xs.take (3*i):=by
    rw[show i*3+0=3*i by omega];exact tk []
   rw[e3]at S;have C:(xs.take (3*i)++[x,y,z]++(xs.take (3*i)++(List.replicate (m+1-i) [Value.int .i64 0,.int .i64 0,.pointer none]).flatten++(List.replicate (cc-(m+1)) [Value.int .i64 0,.int .i64 0,.pointer none]).flatten).drop (i*3+0 + [x,y,z].length)).length=3*cc:=by
    simp only[zK,ky,g,A,zS,lA];omega
   by_cases r:cc=i+1
   ·exfalso;omega
   ·rw[zB r];simp only[ze,add_lit,zH];refine V2 (o:=(i+1)*3) (i:=0) S (by rw[C,d];omega) λv4 o4 b4=>fin v4 o4 ?_;have q1:(i+1)*3+0=(xs.take (3*i)++[x,y,z]).length:=by rw[zK,g];simp;omega
    have q2:(i+1)*3+0+(xs.drop (3*i)).length=(xs.take (3*i)++[x,y,z]).length+3*(m-i):=by rw[d,q1]
    rw[q2,q1,Bb,List.drop_append]at b4
    ·rw[BS (show(xs.take (3*i)++[x,y,z]).length<=(xs.take (3*i)++[x,y,z]).length+3*(m-i) by omega),tz]at b4;have q3:i*3+0 + [x,y,z].length=3*i+3:=by simp;omega
     rw[q3]at b4;have q4:(xs.take (3*i)++[x,y,z]).length+3*(m-i)-(xs.take (3*i)++[x,y,z]).length=3*(m-i):=by omega
     rw[q4]at b4;exact b4
    ·rfl
  ·-- room: the rest moves
   have hle3:m+1<=s.cap:=by omega
   have B:¬s.cap=0:=by omega
   have r:¬s.cap=i:=by omega
   refine cT (m:=m+1) aD O (jt (lo:=0) O O O ?_)
   rw[zB B];simp only[Z,ze,add_lit,vO,ko,Nat.sub_zero];refine cT (m:=i+1) aD O (jt aD aD aD ?_)
   have D:cs.take (3*m)=xs:=by rw[←hlen,show 3*s.len=xs.length by omega];exact ht
   have na:∃o',(if s.cap=i+1 then(some ⟨b,0,none⟩:Option Addr)else(some ⟨b,0,none⟩:Option Addr).map (·.add ((i+1)*3)))=some ⟨b,o',none⟩:=by
    split
    ·exact⟨0,rfl⟩
    ·exact⟨_,by simp[add_lit];rfl⟩
   obtain⟨o',na⟩:=na;refine Sy (x:=⟨some ⟨vb,0,none⟩,1,1⟩) (a:=vb) (o:=0) (b:=b) rfl na hv E G (λe=>by rw[e]at K;simp at K;omega) (cF rfl ?_);refine cT (m:=i+1) aD O (jt aD aD aD (jt aD aD aD ?_))
   have M:¬s.cap=i+1:=by omega
   rw[zB M,zB r];simp only[ze,add_lit,zH];have d:(xs.drop (3*i)).length=3*(m-i):=by rw[ky];omega
   refine⟨xs.drop (3*i),by simp only;rw[Nat.min_eq_right O,d];omega,?_,λv hv=>h1 v (ue hv),?_⟩
   ·intro j v p;rw[add_lit,E.cell];rw[lj]at p;have:=w _ _ p;rw[show i*3+j=3*i+j by omega];exact this
   refine V2 (o:=(i+1)*3) (i:=0) E (by rw[d];omega) λv3 o3 S=>?_;refine jt aD aD aD ?_
   rw[zB r];simp only[ze,add_lit,zH];have aa:=WE o3 hv G;refine⟨[x,y,z],by simp only;rw[qB O];rfl,?_,X,?_⟩
   ·intro j u hu;rw[add_lit,zH,aa.cell];exact hu
   have Y:(cs.take ((i+1)*3+0)++xs.drop (3*i)++cs.drop ((i+1)*3+0+(xs.drop (3*i)).length)).length=cs.length:=by
    simp only[zK,zY,ky,d];omega
   refine V2 (o:=i*3) (i:=0) S (by rw[Y];simp;omega) λv4 o4 b4=>?_;have a1:(cs.take ((i+1)*3+0)).length=3*i+3:=by rw[zY];omega
   have g:(xs.take (3*i)).length=3*i:=by rw[zY];omega
   have p1:(cs.take ((i+1)*3+0)++xs.drop (3*i)++cs.drop ((i+1)*3+0+(xs.drop (3*i)).length)).take (i*3+0)=xs.take (3*i):=by
    rw[zk,pc O,Be,qB O,←D,Be,qB O]
    congr 1;omega
   have p2:(cs.take ((i+1)*3+0)++xs.drop (3*i)++cs.drop ((i+1)*3+0+(xs.drop (3*i)).length)).drop (i*3+0 + [x,y,z].length)=xs.drop (3*i)++cs.drop ((i+1)*3+0+(xs.drop (3*i)).length):=by
    rw[zk,List.drop_left'];rw[a1];simp;omega
   rw[p1,p2,←zk]at b4;refine hR _ v4 ((Ext.eV (F:=Q) o3 P).trans (Ext.eV o4 P)) ⟨?_,.inr ⟨b,_,.inl P,rfl,b4,aD,?_,?_⟩⟩
   ·simp only[zK,g,zS,lA,d];omega
   ·simp only[zK,g,ky,zS,lA,d];omega
   ·rw[Bb];rfl
def ZJ (ss:List cH)(st:Nat):Nat:=(ss.takeWhile (λs=>s.st<st)).length
theorem Gk (l:List cH)(P:cH->Bool):l.takeWhile P=l.take (l.takeWhile P).length/\l.dropWhile P=l.drop (l.takeWhile P).length:=by
 induction l with
 | nil=>simp
 | cons x l ih=>
  simp only[List.takeWhile_cons,List.dropWhile_cons];cases P x
  ·simp
  ·simp only[zT,zS,vu,vz];exact⟨by rw[←ih.1],ih.2⟩
theorem xI (c:cA)(ss:List cH)(st:Nat):iu c ss st=ss.take (ZJ ss st)++⟨st,List.replicate c.n false⟩::ss.drop (ZJ ss st):=by
 have:=Gk ss (λs=>decide (s.st<st));unfold iu ZJ;rw[this.2,←this.1]
theorem Gn (hs:ss.Pairwise (λa b=>a.st<b.st))(st:Nat):ZJ ss st<=ss.length/\∀(i:Nat) s,ss[i]?=some s->(s.st<st↔i<ZJ ss st):=by
 unfold ZJ
 induction ss with
 | nil=>simp
 | cons x ss ih=>
  have d:=sG.1 hs;obtain⟨j,g⟩:=ih d.2;simp only[List.takeWhile_cons];by_cases hx:x.st<st
  ·simp only[hx,decide_true,zT,zS];refine⟨O,λi s hi=>?_⟩;cases i with
   | zero=>simp at hi;subst hi;simp[hx]
   | succ i=>have:=g i s (by simpa using hi);omega
  ·simp only[hx,decide_false,za,jR,lA,Nat.zero_le,Nat.not_lt_zero,iff_false,tJ];intro i s hi;cases i with
   | zero=>simp at hi;subst hi;exact hx
   | succ i=>
    have:=d.1 s (zG (i:=i) (by simpa using hi));omega
theorem Whk (h:fJ U F p c ps ss){σ1:Hp}(e1:aF U σ1){sl:Sl}{rb:Nat}{cs:List Value}(hl:sl.len=ss.length)(hE:ss≠[]->sO U F p ps ss sl rb cs)(st:Nat)(hst:st<=1024){R:Int->Bool->Hp->Prop}(hR:∀σ' b,aF σ1 σ'->R (ZJ ss st:Int) b σ') :
 Wc.c sl (st:Int) ⟨292,#[],#[]⟩ σ1 R:=by
 refine Wc.o ?_;unfold Wc.v;have P:=h.qF;obtain⟨L,kA⟩:=Gn h.ru st;have B:∀(k:Nat) (x:Nat×Nat) s (v:Hp) (K:aN),ps[k]?=some x->ss[k]?=some s->aF σ1 v->(∀A,aF v A->K ((s.st:Int)-(st:Int)) A) →
  VO Tryz.prog ⟨292,#[],#[]⟩ [.agg #[.int .i64 (s.many:Int),.int .i64 (s.st:Int),.pointer (some ⟨x.1,0,none⟩)],.int .i64 (st:Int)] [.one bO] v K:=by
  intro k x s v K u r ev hK;refine GH (all := #[.agg #[.int .i64 (s.many:Int),.int .i64 (s.st:Int),.pointer (some ⟨x.1,0,none⟩)],.int .i64 (st:Int)]) (by kernel_rfl) aA ?_;refine YZ.o ?_;unfold YZ.v;have hf:=(h.sp k x s u r).fit;refine nw (cs:=[.int .i64 (s.many:Int),.int .i64 (s.st:Int),.pointer (some ⟨x.1,0,none⟩)]) λZ hz e H=>H.fE rfl (ar O O (hK Z e))
 refine Ux (a:=bO) (bb:=bO) (λ(i j:Int) v=>∃a b:Nat,i=(a:Int)/\j=(b:Int)/\a<=ZJ ss st/\ZJ ss st<=b/\b<=ss.length/\aF σ1 v) (λi j _=>j.toNat-i.toNat) ⟨0,ss.length,rfl,by rw[hl],O,L,O,Ext.refl _ _⟩ ?_;rintro i j v ⟨a,b,rfl,rfl,ha,H,z,ev⟩;have D:aF U v:=e1.trans ev;refine cP (λX=>?_) λaa=>?_
 ·have y:ss≠[]:=by rintro rfl;simp at z;omega
  have E:=hE y;refine cT (m:=a+b) O O ?_;have W:IntKind.u64.wrap ((a+b:Nat):Int)=((a+b:Nat):Int):=by
   unfold IntKind.wrap;simp[IntKind.bits,IntKind.signed];omega
  refine vH ?_;rw[W];refine nn O ?_;have M:min (1:Int).toNat IntKind.u64.bits=1:=by decide
  rw[M,DR];have C:(((a+b:Nat):Int)/2^1)=(((a+b)/2:Nat):Int):=by omega
  refine cT (m:=(a+b)/2) C O ?_;have d:(a+b)/2<ss.length:=by omega
  obtain⟨x,s,u,r,Y⟩:=h.jN d;have w:=Kq u r;rw[E.a];refine ix O O ?_;rw[add_lit,show 0+(((a+b)/2:Nat):Int).toNat*3=3*((a+b)/2) by omega];refine xq (e:=0) (D.bV E.bV id) (E.get w.1) (E.get w.2.1) (E.get w.2.2) (B _ x s v _ u r ev λA G=>?_);have g:=kA _ s r;show If (decide (((s.st:Int)-(st:Int))<0)) _ _;refine cP (λQ=>?_) λN=>?_
  ·exact cT (m:=(a+b)/2+1) O O ⟨⟨_,b,rfl,rfl,by have:=g.1 O;omega,H,z,ev.trans G⟩,O⟩
  ·exact⟨⟨a,_,rfl,rfl,ha,by
    apply Classical.byContradiction;intro hc;have:=g.2 O;omega,O,ev.trans G⟩,O⟩
 ·have J:a=ZJ ss st:=by omega
  subst J;refine bX.intro (cP (λS=>?_) λV=>hR v _ ev);have d:ZJ ss st<ss.length:=by omega
  have y:ss≠[]:=by rintro rfl;simp at d
  have E:=hE y;obtain⟨x,s,u,r,Y⟩:=h.jN d;have w:=Kq u r;rw[E.a];refine ix O O ?_;rw[add_lit,show 0+(ZJ ss st:Int).toNat*3=3*ZJ ss st by omega];refine xq (e:=0) (D.bV E.bV id) (E.get w.1) (E.get w.2.1) (E.get w.2.2) (B _ x s v _ u r ev λA G=>hR A _ (ev.trans G))
theorem Tx (h:fJ U F p c ps ss){st:Nat}(hf:st+c.aG<=1024){R:aN}(h9:G8 c ss st=9->∀σ',aF U σ'->R 9 σ')
 (h0:G8 c ss st=0->∀σ' ps',Ext F U σ'->fJ σ' (Grow F U) p c ps' (iu c ss st)->R 0 σ'):Y6.c (aW p) (st:Int) U R:=by
 refine Y6.o ?_;unfold Y6.v;have h:=fJ.loc.cut h;obtain⟨sl,d,hl,ai,rb,cs,hE⟩:=h.nj;have hfew:=h.qF;have hc:=h.ok;have hck:=hc;unfold cA.ok at hck;refine UB h (cD rfl (bL (d.fE rfl (d.fE rfl (d.fE rfl ?_)))));refine R7 hc hf λv1 D K e1 hpn hqn P=>cD rfl (bL ((e1.bV d id).rS rfl ?_));have hplt:=d.lt;refine Qz (a:=bO) (λ(t:Int) v=>∃i:Nat,t=(i:Int)/\i<=ss.length/\aF v1 v/\∀(j:Nat) s,j<i->ss[j]?=some s->¬max s.st st-min s.st st<c.aG) (λt _=>ss.length-t.toNat) ⟨0,rfl,O,Ext.refl _ _,λj s z=>O⟩ ?_;rintro t v ⟨i,rfl,hi,ev,V⟩;have r:=e1.trans ev;refine cP (λae=>?_) λhge=>?_
 ·simp only at ae;have ac:i<ss.length:=by omega
  obtain⟨E,hcap,hcl⟩:=hE (by rintro rfl;simp at ac);obtain⟨x,s,y,g,hS⟩:=h.jN ac;have eg:=Kq y g;have hsf:=hS.fit;rw[E.a];refine ix O O ?_;rw[add_lit,show 0+(i:Int).toNat*3=3*i by omega];refine xq (e:=0) (r.bV E.bV id) (E.get eg.1) (E.get eg.2.1) (E.get eg.2.2) (FB λv6 e6 b6=>b6.fE rfl (b6.fE rfl ?_));have hd:(if(st:Int)>(s.st:Int)then(st:Int)else(s.st:Int))-(if(st:Int)<(s.st:Int)then(st:Int)else(s.st:Int))=((max s.st st-min s.st st:Nat):Int):=by
   split<;>split<;>omega
  refine cT (m:=max s.st st-min s.st st) hd O (bL (((r.trans e6).bV d id).fE rfl ?_));refine cP (λhlt2=>h9 ?_ _ (r.trans e6)) λhge2=>?_
  ·unfold G8;rw[zC];exact zy.2 ⟨s,zG g,by simpa using(by omega:max s.st st-min s.st st<c.aG)⟩
  ·refine cT (m:=i+1) O O ⟨⟨i+1,rfl,O,ev.trans e6,λj s' z W=>?_⟩,O⟩;by_cases e:j=i
   ·subst e;rw[g]at W;cases W;omega
   ·exact V j s' O W
 ·have hii:i=ss.length:=by simp only at hge;omega
  subst hii;have hE0:G8 c ss st=0:=by
   unfold G8;rw[zB];simp only[rZ,mB,zV];intro s g;obtain⟨j,z⟩:=zP g;exact V j s (cY.1 z).1 z
  refine bL ((r.bV d id).rS rfl ?_);refine Whk h r hl (λQ=>(hE Q).1) st O λv7 bb e7=>bL (((r.trans e7).bV d id).rS rfl ?_);have aa:=r.trans e7;obtain⟨hp1,kA⟩:=Gn h.ru st;refine nw (cs:=[.int .i64 0,.int .i64 st,.pointer (some ⟨D,0,none⟩)]) λv8 hz8 e8 hb8=>?_;have J:=aa.trans e8;have N:=aI.bP ai J;have hsz7:=aa.1;refine π N hl O hp1 hb8 (λw=>by have:=w.1.2;omega) Ld ⟨rfl,rfl,rfl⟩ λs' v9 e9 hr9=>bL ?_;have hb9:=e9.bV (J.bV d id) λw=>w.2.1 rfl;refine hb9.s1 aA λS gD ad=>?_;have H:=h.len;have C:=h.nd;simp only[zr]at C;have ae:=P.lt;have hsz1:=(ev.trans e7).trans e8 |>.1;have B:∀b∈eH ps,b<U.size:=λb d=>(h.fb b d).2;have ah:∀{a b s'},ig v8 a b c s'->¬(Cut F U a/\a≠p/\a∉eH ps)->¬(Cut F U b/\b≠p/\b∉eH ps)->a≠p->b≠p->ig S a b c s':=λhS n1 n2 m1 m2=>(hS.bS e9 n1 n2).bS gD.ext m1 m2;have af:=((P.bP ev).bP e7).bP e8;have ag:dV (ps.take (ZJ ss st)++(D,K)::ps.drop (ZJ ss st)) (ss.take (ZJ ss st)++⟨st,List.replicate c.n false⟩::ss.drop (ZJ ss st)) =
   (dV ps ss).take (3*ZJ ss st)++[.int .i64 0,.int .i64 st,.pointer (some ⟨D,0,none⟩)]++(dV ps ss).drop (3*ZJ ss st):=by
   rw[VQ (by simp[H])];have u:dV ps ss=dV (ps.take (ZJ ss st)) (ss.take (ZJ ss st))++dV (ps.drop (ZJ ss st)) (ss.drop (ZJ ss st)):=by
    rw[←VQ (by simp[H]),oD,oD]
   have Z:(dV (ps.take (ZJ ss st)) (ss.take (ZJ ss st))).length=3*ZJ ss st:=by rw[KE (by simp[H]),zY];omega
   rw[u,Bb Z,List.drop_left' Z,zk];have:cH.many ⟨st,List.replicate c.n false⟩=0:=by simp[cH.many,yC]
   simp[dV,this]
  refine h0 hE0 S (ps.take (ZJ ss st)++(D,K)::ps.drop (ZJ ss st)) ?_ ?_
  ·refine(((aF.to J).trans (e9.sub λb d=>d.1.1))).trans (gD.ext.sub λb d=>d▸h.fp.1)
  ·have A:(eH (ps.take (ZJ ss st)++(D,K)::ps.drop (ZJ ss st))).Perm (D::K::eH ps):=by
    have:eH ps=eH (ps.take (ZJ ss st))++eH (ps.drop (ZJ ss st)):=by
     conv=>lhs;rw[←oD (ZJ ss st) ps]
     simp only[eH,List.flatMap_append]
    rw[this];have h3:eH (ps.take (ZJ ss st)++(D,K)::ps.drop (ZJ ss st))=eH (ps.take (ZJ ss st))++D::K::eH (ps.drop (ZJ ss st)):=by simp[eH]
    rw[h3];exact List.perm_middle.trans ((List.perm_middle).cons D)
   have X:∀b,b∈eH (ps.take (ZJ ss st)++(D,K)::ps.drop (ZJ ss st))↔b=D\/b=K\/b∈eH ps:=by
    intro b;rw[A.mem_iff];simp
   refine⟨⟨s',ad,?_⟩,λi x s y g=>?_,.inl h.fp.1,λb d=>?_,?_,?_,hc,?_⟩
   ·rw[xI,ag];refine aI.bS (aI.mono hr9 λb _ d=>?_) gD.ext λb _ d he=>d.2.1 he;rw[X];rcases d with d|d
    ·exact⟨.inl d.1.1,d.2.1,λw=>by
      rcases w with h|h|h
      ·have:=d.1.2;omega
      ·have:=d.1.2;omega
      ·exact d.2.2 h⟩
    ·exact⟨.inr O,O,λw=>by
      rcases w with h|h|h
      ·omega
      ·omega
      ·have:=B b h;omega⟩
   ·rw[xI]at g;have L:(ps.take (ZJ ss st)).length=ZJ ss st:=by rw[zY];omega
    have M:(ss.take (ZJ ss st)).length=ZJ ss st:=by rw[zY];omega
    have ab:∀j:Nat,ps[j]?=some x->ss[j]?=some s->ig S x.1 x.2 c s:=λj u Z=>by
     have G:=QZ u;exact ah ((h.sp j x s u Z).bP J) (λw=>w.2.2 G.1) (λw=>w.2.2 G.2) (λe=>C.1 (e▸G.1)) (λe=>C.1 (e▸G.2))
    rcases qE i (ZJ ss st)with hlt'|heq|hgt
    ·rw[zd O,zl,zC hlt']at y g;exact ab i y g
    ·rw[zp O]at y g;rw[L,heq,py]at y;rw[M,heq,py]at g;simp at y g;subst y;subst g;exact ah af (λw=>by have:=w.1.2;simp only at this;omega) (λw=>by have:=w.1.2;simp only at this;omega) aC aC
    ·rw[zp O]at y g;rw[L]at y;rw[M]at g;obtain⟨k,hk⟩:∃k,i-ZJ ss st=k+1:=⟨i-ZJ ss st-1,O⟩;rw[hk,Aw,lj]at y g;exact ab _ y g
   ·rcases(X b).1 d with u|u|u
    ·subst u;exact .inr hpn
    ·subst u;exact .inr hqn
    ·exact .inl (h.fb b u).1
   ·simp only[zr];refine⟨λG=>?_,?_⟩
    ·rcases(X p).1 G with u|u|u
     ·omega
     ·omega
     ·exact C.1 u
    ·rw[A.nodup_iff];simp only[zr,zW,not_or];have Q:=P.ne;exact⟨⟨Q,λG=>by have:=B _ G;omega⟩,λG=>by have:=B _ G;omega,C.2⟩
   ·rw[xI];simp[H]
   ·rw[xI];rw[qP];have Y:=h.ru;refine⟨Y.sublist (BE _ _),sG.2 ⟨λs g=>?_,Y.sublist (List.drop_sublist _ _)⟩,λa ha b d=>?_⟩
    ·obtain⟨j,z⟩:=zP g;rw[lj]at z;have u:=kA _ s z;have Z:s.st≠st:=λe=>by
      have:=V (ZJ ss st+j) s (cY.1 z).1 z;rw[e]at this;simp at this;omega
     show st<s.st;omega
    ·obtain⟨i,hi⟩:=zP ha;rw[zl]at hi;split at hi
     ·rename_i hlt';have hat:=(kA i a hi).2 hlt';rcases zW.1 d with rfl|d
      ·exact hat
      ·obtain⟨j,z⟩:=zP d;rw[lj]at z;obtain⟨hi1,hi2⟩:=cY.1 hi;obtain⟨hj1,hj2⟩:=cY.1 z;have:=mw.1 Y i (ZJ ss st+j) hi1 hj1 O;rw[hi2,hj2]at this;exact this
     ·cases hi
end Go.Ar
namespace Go.Proofs
open Go.Vc
set_option maxRecDepth 100000
def Xz.h:Hn:=.q .o1 (.q (.cU (.seq [.op,.op,.op,.cX true 5 (RI.ops 5),.op])) .l)
def Xz.v (a:R2)(b:Hp)(c:aO):Prop:=bX (λd e=>c d e) λf=>If (!a.isNone) (bE a 0 b λh=>f (decide (h>0)) b) (f false b)
theorem Xz.o {a b c}(d:Xz.v a b c):Xz.c a b c:=Wa Tryz.func199 (x:=Xz.h) (R0 d)
def Qg.h:Hn:=.q .o2 (.q (.q (.cU (.seq [.op,.op,.op,.cX false 2 [.op,.op],.op,.cX false 2 [.op,.op],.op,.cX false 2 [.op,.op]])) .aJ) (.q .o6 .l))
def Qg.v (a b:Int)(c:Hp)(d:Option Addr->Int->Hp->Prop):Prop:=bX (λe f=>bX (λg h=>bX (λi j=>If i (d none 1 j) (aV #[.I a,.I b,.I 0,.slice none 0 0] 283 j λk l=>d (some k) 0 l)) λm=>If g (m true h) (m (decide (b>8)) h)) λn=>If e (n true f) (n (decide (b<0)) f)) λo=>If (a<1) (o true c) (o (decide (a>32)) c)
theorem Qg.o {a b c d}(e:Qg.v a b c d):Qg.c a b c d:=Wa Tryz.func213 (x:=Qg.h) (R0 e)
def WV.h:Hn:=.q .o2 (.q (.k (.q .o4 (.c .aL (.q .o7 .aJ)))) (.q .o7 (.q .o8 (.q .gD (.q .gD (.q .o3 .l))))))
def WV.v (a:R2)(b:Hp)(c:Sl->Int->Hp->Prop):Prop:=Xz.c a b λd e=>If (!d) (c ⟨none,0,0⟩ 5 e) (bF a 3 e λg=>If (((g.len:Nat):Int)==0) (c ⟨none,0,0⟩ 4 e) (bF a 3 e λi=>bM (((i.len:Nat):Int)-1) λj=>bF a 3 e λl=>Ix l.a l.len j 1 λm=>jD m e λn=>bF a 3 e λp=>fI p 1 0 j (p.cap:Nat) λq=>bW a λr=>aR r 3 (.slice q.a q.len q.cap) e λs=>bE a 2 s λu=>bW a λv=>aR v 2 (.I (if j<u then j else u)) s λw=>c n 0 w))
theorem WV.o {a b c}(d:WV.v a b c):WV.c a b c:=Wa Tryz.func232 (x:=WV.h) (R0 d)
def Xq.h:Hn:=.q .o2 (.q (.k (.q .o4 (.c .aL (.q .o8 (.c .aL (.q (.oq 11) .aJ)))))) (.q (.cU (.held true [8,11] (.tk [0,1,2,3,4,5] (.all [(6,.all [(7,.all [(8,.take 9 (.take 10 (.all [(11,.done)])))])])])))) .aL))
def Xq.v (a:R2)(b:Sl)(c:Hp)(d:Bool->Int->Hp->Prop):Prop:=Xz.c a c λe f=>If (!e) (d false 5 f) (bE a 0 f λh=>If (((b.len:Nat):Int) != h) (d false 1 f) (bF a 3 f λj=>bE a 1 f λl=>If (((j.len:Nat):Int)≥l) (d false 0 f) (dW f λm=>bW a λn=>aT m n 3 λo=>W3.c b f λp q=>And (m q) <| aV #[.slice p.a p.len p.cap] 31 q λr s=>And (m s) <| App o 1 24 31 [.slice none 0 0] ⟨some r,1,1⟩ s λt u=>bW a λv=>aR v 3 (.slice t.a t.len t.cap) u λw=>d true 0 w)))
theorem Xq.o {a b c d}(e:Xq.v a b c d):Xq.c a b c d:=Wa Tryz.func300 (x:=Xq.h) (R0 e)
end Go.Proofs
namespace Go.Ar
open Go Go.Vc Go.Proofs
variable {U:Hp}{F:Rg}{p batch room:Nat}{t:gT}
def qJ (s:Sl):Value:=.slice s.a s.len s.cap
def Wx (xs:List Int):List Value:=xs.map (Value.int .i64)
theorem Ud {l:List Int}:∀v∈Wx l,dY v=true:=by
 intro v hv;simp only[Wx,zE]at hv;obtain⟨x,_,rfl⟩:=hv;rfl
def rK (sls:List Sl)(bs:List (List Int))(U:Hp)(D:Rg):Prop:=sls.length=bs.length/\∀(i:Nat) s xs,sls[i]?=some s->bs[i]?=some xs->cV s 1 (Wx xs) U D/\s.len<=s.cap
theorem rK.loc (sls:List Sl)(bs:List (List Int)):dN (rK sls bs):=λU m F G h g j=>⟨h.1,λi s b a d=>⟨cV.loc _ _ _ _ _ _ _ (h.2 i s b a d).1 g j,(h.2 i s b a d).2⟩⟩
def Dj (sls:List Sl):Prop:=sls.Pairwise λs t=>∀a a',s.a=some a->t.a=some a'->a.block≠a'.block
def kV (s:Sl)(b:Nat):Prop:=∃a,s.a=some a/\a.block=b
theorem _root_.Go.Vc.cV.lX {s:Sl}{sz:Nat}{xs:List Value}{D:Rg}(h:cV s sz xs U D):cV s sz xs U λb=>D b/\kV s b:=
 ⟨h.1,h.2.imp id λ⟨b,o,d,g,a,r⟩=>⟨b,o,d,⟨g,_,a,rfl⟩,a,r⟩⟩
theorem _root_.Go.Vc.cV.bV {s:Sl}{sz:Nat}{xs:List Value}{D:Rg}(h:cV s sz xs U D)(hx:xs≠[]){b:Nat}(hb:kV s b):D b/\b<U.size:=by
 rcases h.2 with h0|⟨b',o,cs,hq,ha,hc,_⟩
 ·exact absurd h0 hx
 ·obtain⟨a,d,rfl⟩:=hb;rw[ha]at d;cases d;exact⟨hq,hc.lt⟩
theorem Dj.snoc {sls:List Sl}{bs:List (List Int)}{D:Rg}{z:Nat}{s':Sl}{xs:List Value}{v:Hp}(h:Dj sls)(hB:rK sls bs U D)(hne:∀xs∈bs,xs≠[])(hz:∀b,D b->b<z)(hs:bT s' 1 xs v λb=>z<=b)(hx:xs≠[]):Dj (sls++[s']):=by
 refine qP.2 ⟨h,List.pairwise_singleton _ _,λs j u m a r p x=>?_⟩;rw[zN]at m;subst m;obtain⟨i,hi⟩:=zP j;have g:=(cY.1 hi).1;have d:bs[i]?=some (bs[i]'(by rw[←hB.1];exact g)):=cW _;have w:=((hB.2 i s _ hi d).1.bV (by simp only[Wx,ne_eq,yE];exact hne _ (zG d)) ⟨a,p,rfl⟩).1;have y:=(hs.fX.bV hx ⟨r,x,rfl⟩).1;have:=hz _ w;omega
structure iV (U:Hp) (F:Rg) (p batch room:Nat) (t:gT):Prop where
 mem:∃(sl:Sl) (sls:List Sl) (D:Rg),bY U p [.int .i64 (batch:Int),.int .i64 (room:Int),.int .i64 (t.low:Int),.slice sl.a sl.len sl.cap]/\bT sl 1 (sls.map qJ) U (λb=>F b/\b≠p/\¬D b)/\rK sls t.bs U D/\(∀b,D b->F b/\b≠p)/\Dj sls
 fp:F p
 b1:1<=batch/\batch<=32
 r1:room<=8
 qF:t.bs.length<=room
 low:t.low<=t.bs.length
 all:∀xs∈t.bs,xs.length=batch
theorem iV.loc:dN λU F=>iV U F p batch room t:=λU x F G h m d=>by
 obtain⟨sl,j,D,a,w,s,i,u⟩:=h.mem;refine⟨⟨sl,j,λb=>D b/\b<U.size,?_,?_,?_,λb a=>⟨(d b a.2 (i b a.1).1).1,(i b a.1).2⟩,u⟩,(d p a.lt h.fp).1,h.b1,h.r1,h.qF,h.low,h.all⟩
 ·obtain⟨e,r⟩:=a;exact⟨e,(d p (bY.lt ⟨e,r⟩) h.fp).2.trans r⟩
 ·exact bT.loc _ _ _ _ _ _ _ w m λb a g=>⟨⟨(d b a g.1).1,g.2.1,λhd=>g.2.2 hd.1⟩,(d b a g.1).2⟩
 ·exact rK.loc _ _ _ _ _ _ s m λb a hd=>⟨⟨hd,a⟩,(d b a (i b hd).1).2⟩
theorem iV.bP {σ':Hp}(h:iV U F p batch room t)(e:aF U σ'):iV σ' F p batch room t:=dN.bP iV.loc h e
theorem Bm (h:iV U F p batch room t){R:aO}(hR:R true U):Xz.c (aW p) U R:=by
 refine Xz.o ?_;unfold Xz.v;obtain⟨sl,a,D,b,_⟩:=h.mem;have:=h.b1;refine bX.intro (cF rfl (bL (b.rI rfl ?_)));rw[zI O];exact hR
theorem _root_.Go.Vc.cV.TU {s:Sl}{F:Rg}{sls:List Sl}(h:cV s 1 (sls.map qJ) U F){i:Nat}{x:Sl}(hx:sls[i]?=some x){K:Sl->Prop}(hK:K x):Ix s.a s.len (i:Int) 1 λa=>jD a U K:=by
 have hi:=(cY.1 hx).1;obtain⟨b,o,g,d⟩:=h.cell (j:=i) (v:=qJ x) (by simp[hx]);have m:=h.1;rw[zj]at m;rw[g];refine ix O O ?_;rw[add_lit];exact oA (by simpa[qJ]using d) hK
theorem NI (h1:1<=batch)(h2:batch<=32)(h3:room<=8){R:Option Addr->Int->Hp->Prop}(hR:∀σ' p,aF U σ'->U.size<=p->p<σ'.size->iV σ' (· = p) p batch room ⟨0,[]⟩->R (some ⟨p,0,none⟩) 0 σ'):Qg.c batch room U R:=by
 refine Qg.o ?_;unfold Qg.v;refine bX.intro (fZ O (bX.intro (fZ O (bX.intro (fZ O (fZ O ?_))))));refine nw (cs:=[.int .i64 batch,.int .i64 room,.int .i64 0,.slice none 0 0]) λv g e a=>?_;exact hR v _ e (zD _) O ⟨⟨⟨none,0,0⟩,[],λ_=>False,a,bT.nil _ _ _ _,⟨rfl,λi s d h=>by simp at h⟩,λb h=>h.elim,List.Pairwise.nil⟩,rfl,⟨h1,h2⟩,h3,by simp,by simp,by simp⟩
theorem Mb (h:iV U F p batch room t){sl:Sl}{xs:List Int}{X:Rg}(hs:cV sl 1 (Wx xs) U X)(hl:xs.length<=1000000){R:Bool->Int->Hp->Prop}(h1:xs.length≠batch->R false 1 U)(h2:xs.length=batch->room<=t.bs.length->R false 0 U)
 (h3:xs.length=batch->t.bs.length<room->∀σ',Ext F U σ'->iV σ' (Grow F U) p batch room {t with bs:=t.bs++[xs]}->R true 0 σ'):Xq.c (aW p) sl U R:=by
 refine Xq.o ?_;unfold Xq.v;have h:=iV.loc.cut h;obtain⟨B,z,D,d,hr,w,J,hJ⟩:=h.mem;have r:sl.len=xs.length:=by have:=hs.1;simp[Wx]at this;omega
 have hso:B.len=t.bs.length:=by have:=hr.1;rw[zj,w.1]at this;omega
 have hr8:=h.r1;have hb1:=h.b1;refine Bm h (cD rfl (bL (d.rI rfl ?_)));rw[r5];refine cN (λA=>h1 (by rw[←r];simpa using A)) λV=>?_;have g:xs.length=batch:=by rw[←r];simpa using V
 refine bL (d.rS rfl (bL (d.rI rfl (cP (λY=>h2 g (by simp only at Y;omega)) λS=>?_))));simp only at S;refine⟨λh'=>bY h' p [.int .i64 (batch:Int),.int .i64 (room:Int),.int .i64 (t.low:Int),.slice B.a B.len B.cap],d,bL ⟨B,λh' W=>by rw[add_lit,W.cell];rfl,?_⟩⟩;refine Ga hs Ud O λy v1 hl1 e1 x=>⟨e1.bV d id,?_⟩;refine nw (cs:=[.slice y.a y.len y.cap]) λv2 hz2 e2 N=>⟨(e1.trans e2).bV d id,?_⟩;have M:=aI.bP (aI.bP hr e1) e2;refine M.app (ys:=[qJ y]) rfl rfl ?_ (by simp[dY,qJ]) ?_ ?_ nh λs2 v3 hl3 K Z=>bL ?_
 ·intro j u hu;rw[add_lit,zH,N.cell];exact hu
 ·simp only;have:(B.len+1)*24<=9*24:=mr O O;omega
 ·simp only;omega
 ·have P:=K.bV ((e1.trans e2).bV d id) λH=>H.2.1 rfl;have hplt:=d.lt;have hs1:=e1.1;refine P.s1 aA λv4 o4 L=>h3 g O v4 ?_ ?_
  ·exact((aF.to (e1.trans e2)).trans (K.sub λb d=>d.1.1)).trans (o4.ext.sub λb d=>d▸h.fp.1)
  ·refine⟨⟨s2,z++[y],λb=>D b/\b<U.size\/U.size<=b/\b<v1.size,L,?_,⟨by simp[w.1],λi s ys hi m=>?_⟩,λb d=>?_,?_⟩,.inl h.fp.1,h.b1,h.r1,by simp;omega,by have:=h.low;simp;omega,λys m=>?_⟩
   ·rw[zm];refine aI.bS (aI.mono Z λb _ d=>?_) o4.ext λb _ d Q=>d.2.1 Q;rcases d with d|d
    ·exact⟨.inl d.1.1,d.2.1,λhd=>by
      rcases hd with hd|hd
      ·exact d.2.2 hd.1
      ·have:=d.1.2;omega⟩
    ·exact⟨.inr O,O,λhd=>by rcases hd with hd|hd<;>omega⟩
   ·have mv:∀{s:Sl} {ys:List Int} {G:Rg},cV s 1 (Wx ys) v2 G->(∀b,G b->b≠p/\¬(Cut F U b/\b≠p/\¬D b))->cV s 1 (Wx ys) v4 G:=λW hn=>
     aH.bS (aH.bS W K λb _ d=>(hn b d).2) o4.ext λb _ d Q=>(hn b d).1 Q
    rcases kr i z.length with hi'|hi'
    ·rw[zd hi']at hi;rw[zd (by rw[←w.1];exact hi')]at m;obtain⟨k1,k2⟩:=w.2 i s ys hi m;refine⟨aH.mono (mv (aH.bP (aH.bP (aH.mono k1 (G:=λb=>D b/\b<U.size) λb d hd=>⟨hd,d⟩) e1) e2) λb hd=>⟨(J b hd.1).2,λH=>H.2.2 hd.1⟩) λb _ hd=>.inl hd,k2⟩
    ·rw[zp hi']at hi;rw[zp (by rw[←w.1];exact hi')]at m;have C:i-z.length=0:=by
      have:=(cY.1 hi).1;simp at this;omega
     rw[C]at hi;rw[show i-t.bs.length=0 by rw[←w.1];exact C]at m;simp at hi m;subst hi;subst m;have E:y.len<=y.cap:=by
      rcases x.2 with⟨q1,q2⟩|⟨_,_,_,_,_,q,_⟩
      ·omega
      ·exact q
     refine⟨aH.mono (mv (aH.bP (aH.mono x.fX (G:=λb=>U.size<=b/\b<v1.size) λb d hd=>⟨hd,d⟩) e2) λb hd=>⟨O,λH=>by have:=H.1.2;omega⟩) λb _ hd=>.inr hd,E⟩
   ·rcases d with hd|hd
    ·exact⟨.inl (J b hd.1).1.1,(J b hd.1).2⟩
    ·exact⟨.inr hd.1,O⟩
   ·have A:∀ys∈t.bs,ys≠[]:=λys m e=>by have:=iV.all ‹_› ys m;rw[e]at this;simp at this;omega
    exact hJ.snoc w A (λb hd=>(J b hd).1.2) x (by simp only[Wx,ne_eq,yE];intro e;rw[e]at g;simp at g;omega)
   ·rcases zM.1 m with h|h
    ·exact iV.all ‹_› ys h
    ·simp at h;subst h;exact g
theorem Ts (h:iV U F p batch room t)(h0:t.bs=[]){R:Sl->Int->Hp->Prop}(hR:R ⟨none,0,0⟩ 4 U):WV.c (aW p) U R:=by
 refine WV.o ?_;unfold WV.v;obtain⟨d,g,D,i,j,b,m,r⟩:=h.mem;have a:d.len=t.bs.length:=by have:=j.1;rw[zj,b.1]at this;omega
 refine Bm h (cD rfl (bL (i.rS rfl (cF ?_ hR))));simp[a,h0]
theorem WiV (h:iV U F p batch room t)(h0:t.bs≠[]){R:Sl->Int->Hp->Prop}(hR:∀out σ',Ext F U σ'->(∀b,kV out b->F b)->cV out 1 (Wx (t.bs.getLast?.getD [])) σ' (kV out)->out.len<=out.cap->iV σ' (λb=>F b/\¬kV out b) p batch room t.rem->R out 0 σ'):WV.c (aW p) U R:=by
 refine WV.o ?_;unfold WV.v;obtain⟨L,g,D,d,H,x,B,Y⟩:=h.mem;have hso:L.len=t.bs.length:=by have:=H.1;rw[zj,x.1]at this;omega
 have W:=pT.2 h0;have hr8:=h.r1;have hfw:=h.qF;have aa:=h.low;have M:t.bs.length-1<g.length:=by rw[x.1];omega
 obtain⟨o,N⟩:∃o,g[t.bs.length-1]?=some o:=⟨_,cW M⟩;have j:t.bs[t.bs.length-1]?=some (t.bs.getLast?.getD []):=by
  rw[List.getLast?_eq_getElem?,cW O];rfl
 obtain⟨V,k2⟩:=x.2 _ o _ N j;refine Bm h (cD rfl (bL (d.rS rfl (cD ?_ ?_))))
 ·simp only[mP];omega
 refine bL (d.rS rfl (cT (m:=t.bs.length-1) aC O (bL (d.rS rfl ?_))));refine H.fX.TU N (bL (d.rS rfl ?_));have Z:L.len<=L.cap:=by
  rcases H.2 with⟨q1,q2⟩|⟨_,_,_,_,_,q,_⟩
  ·omega
  ·exact q
 refine jt (lo:=0) O aD aD (bL (d.s1 aA λv1 o1 C=>bL (C.rI rfl (bL ?_))))
 refine C.s1 aA λv2 o2 r=>?_;have u:Ext (· = p) U v2:=o1.ext.trans o2.ext;have G:(if((t.bs.length-1:Nat):Int)<(t.low:Int)then((t.bs.length-1:Nat):Int)else(t.low:Int))=((min t.low (t.bs.length-1):Nat):Int):=by split<;>omega
 rw[G]at r;have P:∀A∈t.bs,A≠[]:=λA w e=>by have X:=h.all A w;have h2:=h.b1;rw[e]at X;simp at X;omega
 have z:∀b,kV o b->D b:=λb d=>(V.bV (by simp only[Wx,ne_eq,yE];exact P _ (zG j)) d).1;refine hR o v2 (u.sub λb d=>d▸h.fp) (λb d=>(B b (z b d)).1) (aH.mono (aH.bS V u λb _ d E=>(B b d).2 E).lX λb _ hd=>hd.2) k2 ⟨⟨_,g.dropLast,λb=>D b/\¬kV o b,r,?_,⟨by simp[x.1,gT.rem],λi s A hi w=>?_⟩,λb hd=>⟨⟨(B b hd.1).1,hd.2⟩,(B b hd.1).2⟩,List.Pairwise.sublist (List.dropLast_sublist _) Y⟩,⟨h.fp,λd=>(B p (z p d)).2 rfl⟩,h.b1,h.r1,by simp[gT.rem];omega,by simp[gT.rem];omega,λA w=>h.all A (List.dropLast_subset _ w)⟩
 ·refine aI.bS ?_ u λb _ d E=>d.2.1 E;refine⟨by simp[x.1],?_⟩;rcases H.2 with⟨q1,q2⟩|⟨b,cs,hq,Q,hbb,hle,hcl,ht⟩
  ·omega
  ·refine .inr ⟨b,cs,⟨⟨hq.1,λd=>hq.2.2 (z b d)⟩,hq.2.1,λhd=>hq.2.2 hd.1⟩,?_,hbb,by simp only;omega,by simp only;omega,?_⟩
   ·simp only[Q];split<;>simp[add_lit]
   ·simp only[zj]at ht ⊢;have hd:g.dropLast.map qJ=(g.map qJ).take (g.length-1):=by rw[yY,List.map_take]
    rw[hd,←ht,Be,Cw]
    congr 1;omega
 ·have y:i<t.bs.length-1:=by
   have:=(cY.1 w).1;simpa[gT.rem]using this
  rw[yY,zl]at hi;simp only[gT.rem,yY,zl]at w;rw[zC (by rw[x.1];exact y)]at hi;rw[zC y]at w;obtain⟨m1,m2⟩:=x.2 i s A hi w;refine⟨aH.mono (aH.bS m1 u λb _ d E=>(B b d).2 E).lX λb _ d=>⟨d.1,λr=>?_⟩,m2⟩;obtain⟨a,Q,e1⟩:=d.2;obtain⟨a',S,e2⟩:=r;obtain⟨J,rfl⟩:=cY.1 hi;obtain⟨K,rfl⟩:=cY.1 N;exact mw.1 Y i _ J K y a a' Q S (e1.trans e2.symm)
def wH (out:Sl)(bs:List (List Int))(U:Hp)(G:Rg):Prop:=∃sls:List Sl,cV out 1 (sls.map qJ) U G/\rK sls bs U G
theorem wH.loc (out:Sl)(bs:List (List Int)):dN (wH out bs):=λU j F G ⟨a,g,i⟩ b d=>⟨a,cV.loc _ _ _ _ _ _ _ g b d,rK.loc _ _ _ _ _ _ i b d⟩
end Go.Ar
namespace Go.Ar
open Go Go.Vc Go.Proofs
open Go.Bu (ZE)
variable {U:Hp}{F:Rg}{p:Nat}{ow:Nat->Nat}
def wm (ow:Nat->Nat)(x:Nat)(l:List (Nat×Nat×Nat)):Prop:=
 l.length<=x/\(∀r∈l,1<=r.2.1/\r.1+r.2.1<=x/\∀y,r.1<=y->y<r.1+r.2.1->ow y=r.2.2)/\∀y,y<x->ow y≠0->∃r∈l,r.1<=y/\y<r.1+r.2.1
theorem wm.new {x:Nat}{l:List (Nat×Nat×Nat)}(h:wm ow x l):wm ow (x+1) (l++[(x,1,ow x)]):=by
 refine⟨by simp;exact h.1,λr b=>?_,λy i g=>?_⟩
 ·rcases zM.1 b with a|a
  ·exact⟨(h.2.1 r a).1,by have:=(h.2.1 r a).2.1;omega,(h.2.1 r a).2.2⟩
  ·simp at a;subst a;exact⟨zD _,zD _,λy a d=>by simp only at a d ⊢;rw[show y=x by omega]⟩
 ·rcases kr y x with a|a
  ·obtain⟨r,b,d⟩:=h.2.2 y a g;exact⟨r,kP _ b,d⟩
  ·exact⟨(x,1,ow x),by simp,by simp only;omega⟩
theorem wm.more {x a m no:Nat}{l:List (Nat×Nat×Nat)}(h:wm ow x (l++[(a,m,no)]))(he:a+m=x)(hno:ow x=no):wm ow (x+1) (l++[(a,m+1,no)]):=by
 refine⟨by have:=h.1;simp at this ⊢;omega,λr g=>?_,λy j i=>?_⟩
 ·rcases zM.1 g with b|b
  ·have:=h.2.1 r (kP _ b);exact⟨this.1,O,this.2.2⟩
  ·simp at b;subst b;have:=h.2.1 (a,m,no) aA;refine⟨by simp only;omega,by simp only;omega,λy b d=>?_⟩;simp only at b d ⊢;rcases kr y (a+m)with h3|h3
   ·exact this.2.2 y b h3
   ·rw[show y=x by omega];exact hno
 ·rcases kr y x with b|b
  ·obtain⟨r,g,d⟩:=h.2.2 y b i;rcases zM.1 g with h3|h3
   ·exact⟨r,kP _ h3,d⟩
   ·simp at h3;subst h3;exact⟨(a,m+1,no),by simp,by simp only at d ⊢;omega⟩
  ·exact⟨(a,m+1,no),by simp,by simp only;have:=h.2.1 (a,m,no) aA;simp only at this;omega⟩
end Go.Ar
namespace Go.Proofs
open Go.Vc
set_option maxRecDepth 100000
def YK.h:Hn:=.q .o1 (.q (.q .o4 (.q .o2 .aJ)) (.q .o5 .aM))
def YK.v (a:R2)(b c:Int)(d:Hp)(e:aN):Prop:=XM.c a b 1 d λf g=>If (f != 0) (e f g) (Nz 8<|bM (b.tdiv 8) λh=>Zz.c a h c g λi=>e 0 i)
theorem YK.o {a b c d e}(f:YK.v a b c d e):YK.c a b c d e:=Wa Tryz.func62 (x:=YK.h) (R0 f)
def Zg.h:Hn:=.q .o2 (.q (.q .o4 (.q .o2 (.c (.q .o3 .l) .l))) (.q .o6 .l))
def Zg.v (a:R2)(b:Int)(c:Hp)(d:Int->Int->Hp->Prop):Prop:=XM.c a b 1 c λe f=>If (e != 0) (d 0 e f) (Nz 8<|bM (b.tdiv 8) λg=>Zp.c a g f λh i=>d h 0 i)
theorem Zg.o {a b c d}(e:Zg.v a b c d):Zg.c a b c d:=Wa Tryz.func65 (x:=Zg.h) (R0 e)
def XM.h:Hn:=.q .o1 (.q (.k (.q .o4 (.c .aM (.q .o3 (.c .aM (.q (.cU (.seq [.op,.op,.op,.cX false 3 (RI.ops 3),.op])) .aK)))))) (.q .gD (.q (.q (.cU (.gP true [] [(50,.one .b)] (.tk [0,1,2,3,4,5,6,7] (.split 39 (.tk [8,9,10,11,12,13,14,15,16,17,18] (.done)) (.tk [8,9,10,11,12,13,14,15,16] (.all [(17,.take 18 (.done))])))))) .aK) .aM)))
def XM.v (a:R2)(b c:Int)(d:Hp)(e:aN):Prop:=XX.c a d λf g=>If (!f) (e 5 g) (If (c==0) (e 0 g) (bX (λh i=>If h (e 7 i) (Nz 256<|bM (b.tdiv 256) λj=>Nz 8<|bM (b.tdiv 8) λk=>bM (k+c) λl=>bM (l-1) λm=>Nz 32<|bM (m.tdiv 32) λn=>Jn [.b] (λ(o:Bool) p=>If o (e 7 p) (e 0 p)) λq=>dW i λr=>bW a λs=>aT r s 0 λt=>If (n≥((t.len:Nat):Int)) (q true i) (bW a λu=>aT r u 0 λv=>bM (n+1) λw=>fI v 2 j w (v.cap:Nat) λx=>gN r .b ((Addr.mk 0 0 none).add 0) λ(y:Bool)=>gN r .b ((Addr.mk 0 0 none).add 1) λ(z:Bool)=>Wq.c x y z i λaa ab=>And (r ab) <| q aa ab))) λac=>If (b<0) (ac true g) (Nz 8 <| ac ((b.tmod 8) != 0) g)))
theorem XM.o {a b c d e}(f:XM.v a b c d e):XM.c a b c d e:=Wa Tryz.func104 (x:=XM.h) (R0 f)
def Zz.h:Hn:=.q .o3 (.kN [] (.q (.oq 9) (.c (.q (.cU (.tail 7 (RI.ops 7) [.op])) (.q (.cU (.held true [6] (.tk [0,1,2,3,4] (.all [(5,.all [(6,.done)])])))) (.cU (.tail 13 (RI.ops 13) [.op])))) .l)) (.o 11))
def Zz.v (a:R2)(b c:Int)(d:Hp)(e:aP):Prop:=Nz 32<|bM (b.tdiv 32) λf=>Jn [] (λg=>bJ a 1 g λi=>Lk .i64 .s i f g λj=>Nz 32 <| Ix (j.getD ⟨none,0,0⟩).a (j.getD ⟨none,0,0⟩).len (b.tmod 32) 1 λk=>dQ k (.I c) g λl=>e l) λm=>bF a 0 d λo=>Ix o.a o.len f 2 λp=>aZ p 0 d λq=>aZ p 1 d λr=>mj ((Addr.mk 1 0 none).add 0) d λs=>mj ((Addr.mk 1 0 none).add 1) d λt=>If (!((q==s)&&((r==t)&&true))) (bF a 0 d λv=>mj ((Addr.mk 1 0 none).add 0) d λw=>mj ((Addr.mk 1 0 none).add 1) d λx=>Ix v.a v.len f 2 λy=>aR y 0 (.bool w) d λz=>aR y 1 (.bool x) z λaa=>dW aa λab=>bW a λac=>gN ab .m (ac.add 1) λ(ad:Option Nat)=>Mk 32 32 8 3 [.I 0] aa λae af=>And (ab af) <| kI .i64 .s ad f ae af λag=>bE a 2 ag λai=>bJ a 1 ag λak=>rJ .i64 .s ak ag λal=>bW a λam=>aR am 2 (.I (if al>ai then al else ai)) ag λan=>m an) (m d)
theorem Zz.o {a b c d e}(f:Zz.v a b c d e):Zz.c a b c d e:=Wa Tryz.func105 (x:=Zz.h) (R0 f)
def Zp.h:Hn:=.q .o1 (.q (.q (.o 12) (.q .o1 (.c (.q .o6 .l) .l))) .aM)
def Zp.v (a:R2)(b:Int)(c:Hp)(d:aN):Prop:=bJ a 1 c λf=>Nz 32<|bM (b.tdiv 32) λg=>Lk .i64 .s f g c λh=>If h.isSome (Nz 32 <| Ix (h.getD ⟨none,0,0⟩).a (h.getD ⟨none,0,0⟩).len (b.tmod 32) 1 λi=>bN i c λj=>d j c) (d 0 c)
theorem Zp.o {a b c d}(e:Zp.v a b c d):Zp.c a b c d:=Wa Tryz.func110 (x:=Zp.h) (R0 e)
def XZ.h:Hn:=.q .o1 (.q (.q .o3 .aK) (.q .o6 .l))
def XZ.v (a:R2)(b:Hp)(c:aN):Prop:=XX.c a b λd e=>If (!d) (c 0 e) (bF a 0 e λg=>c ((g.len:Nat):Int) e)
theorem XZ.o {a b c}(d:XZ.v a b c):XZ.c a b c:=Wa Tryz.func130 (x:=XZ.h) (R0 d)
def XX.h:Hn:=.q .o1 (.q (.cU (.seq [.op,.op,.op,.cX true 6 (RI.ops 6),.op])) .l)
def XX.v (a:R2)(b:Hp)(c:aO):Prop:=bX (λd e=>c d e) λf=>If (!a.isNone) (bF a 0 b λh=>f (decide (((h.len:Nat):Int)>0)) b) (f false b)
theorem XX.o {a b c}(d:XX.v a b c):XX.c a b c:=Wa Tryz.func131 (x:=XX.h) (R0 d)
def Kz.h:Hn:=.q .o2 (.q (.q (.cU (.seq [.op,.op,.op,.cX false 2 [.op,.op]])) .aJ) (.q .o7 .l))
def Kz.v (a:Int)(b:Hp)(c:Option Addr->Int->Hp->Prop):Prop:=bX (λd e=>If d (c none 1 e) (Mk a a 2 181 [.bool false,.bool false] e λf g=>Nw (.map #[] 0) g λh i=>aV #[.slice f.a f.len f.cap,.map (some h.block),.I 0] 185 i λj k=>c (some j) 0 k)) λl=>If (a<1) (l true b) (l (decide (a>1024)) b)
theorem Kz.o {a b c}(d:Kz.v a b c):Kz.c a b c:=Wa Tryz.func153 (x:=Kz.h) (R0 d)
def Zr.h:Hn:=.q .o2 (.q (.k (.q .o4 (.c .aL (.q (.cU (.seq [.op,.op,.op,.cX false 2 [.op,.op],.op,.cX false 7 (RI.ops 7),.op,.cX false 9 (RI.ops 9),.op])) .aJ)))) (.q (.o 11) .l))
def Zr.v (a:R2)(b c:Int)(d:Hp)(e:Sl->Int->Hp->Prop):Prop:=XX.c a d λf g=>If (!f) (e ⟨none,0,0⟩ 5 g) (bX (λh i=>bX (λj k=>bX (λl m=>If l (e ⟨none,0,0⟩ 1 m) (bF a 0 m λo=>bM (b+c) λp=>fI o 2 b p (o.cap:Nat) λq=>e q 0 m)) λr=>If j (r true k) (bF a 0 k λt=>bM (((t.len:Nat):Int)-b) λu=>r (decide (c>u)) k)) λv=>If h (v true i) (bF a 0 i λx=>v (decide (b>((x.len:Nat):Int))) i)) λy=>If (b<0) (y true g) (y (decide (c<1)) g))
theorem Zr.o {a b c d e}(f:Zr.v a b c d e):Zr.c a b c d e:=Wa Tryz.func306 (x:=Zr.h) (R0 f)
def Zu.h:Hn:=.q .o1 (.q .o2 (.k (.loop [(8,.I)] (.q (.q .o5 (.c .l .l)) (.q (.k (.q (.cU (.tail 7 (RI.ops 7) [.op])) .o6)) .o3)))))
def Zu.v (a:R2)(b c:Int)(d e:Bool)(f:Hp)(g:aP):Prop:=aV #[.bool d,.bool e] 181 f λh i=>X8 [bO] (λj=>j b i) λk (l:Int) m=>bM (b+c) λn=>If (l<n) (bF a 0 m λp=>aZ h 0 m λq=>aZ h 1 m λr=>Ix p.a p.len l 2 λs=>aR s 0 (.bool q) m λt=>aR s 1 (.bool r) t λu=>bJ a 1 u λw=>lY .i64 .s w l u λx=>bM (l+1) λy=>k y x) (g m)
theorem Zu.o {a b c d e f g}(h:Zu.v a b c d e f g):Zu.c a b c d e f g:=Wa Tryz.func307 (x:=Zu.h) (R0 h)
def Zt.h:Hn:=.q .o1 (.q .o9 (.q (.k (.q .o3 (.c .aL (.q .o3 .aK)))) (.q .o5 .aM)))
def Zt.v (a:R2)(b c:Int)(d:Hp)(e:aN):Prop:=Zr.c a b c d λf g h=>If (g != 0) (e g h) (Wl.c f ⟨342,#[],#[]⟩ h λi j=>If i (e 5 j) (mj ((Addr.mk 2 0 none).add 0) j λk=>mj ((Addr.mk 2 0 none).add 1) j λl=>Zu.c a b c k l j λm=>e 0 m))
theorem Zt.o {a b c d e}(f:Zt.v a b c d e):Zt.c a b c d e:=Wa Tryz.func318 (x:=Zt.h) (R0 f)
def YR.h:Hn:=.q .o2 (.q .o4 .l)
def YR.v (a b:Bool)(c:Hp)(d:aO):Prop:=aV #[.bool a,.bool b] 181 c λe f=>aZ e 0 f λg=>aZ e 1 f λh=>mj ((Addr.mk 0 0 none).add 0) f λi=>mj ((Addr.mk 0 0 none).add 1) f λj=>d (!((g==i)&&((h==j)&&true))) f
theorem YR.o {a b c d}(e:YR.v a b c d):YR.c a b c d:=Wa Tryz.func342 (x:=YR.h) (R0 e)
end Go.Proofs
namespace Go.Ar
open Go Go.Vc Go.Proofs
open Go.Bu (ZE)
variable {U:Hp}{F:Rg}{p q r:Nat}{sp:Sp}
structure Gl (U:Hp):Prop where
 c0:cell U ⟨2,0,none⟩=some (.bool true)
 c1:cell U ⟨2,1,none⟩=some (.bool false)
 u0:cell U ⟨0,0,none⟩=some (.bool false)
 u1:cell U ⟨0,1,none⟩=some (.bool false)
structure Gc (U:Hp):Prop where
 d0:cell U ⟨1,0,none⟩=some (.bool true)
 d1:cell U ⟨1,1,none⟩=some (.bool true)
structure Gd (U:Hp):Prop where
 lt:1<U.size
def iX (F:Rg):Prop:=∀b,F b->b≠2/\b≠0
theorem KU {h:Hp}{b o:Nat}{v:Value}(hc:cell h ⟨b,o,none⟩=some v):b<h.size:=(Lw hc).1
theorem Gl.bS {σ':Hp}(g:Gl U)(e:Ext F U σ')(hF:iX F):Gl σ':=by
 have b:¬F 2:=λh=>(hF _ h).1 rfl;have a:¬F 0:=λh=>(hF _ h).2 rfl;exact⟨(KV e (KU g.c0) b).trans g.c0,(KV e (KU g.c1) b).trans g.c1,(KV e (KU g.u0) a).trans g.u0,(KV e (KU g.u1) a).trans g.u1⟩
theorem Gc.bS {σ':Hp}(g:Gc U)(e:Ext F U σ')(hF:¬F 1):Gc σ':=⟨(KV e (KU g.d0) hF).trans g.d0,(KV e (KU g.d1) hF).trans g.d1⟩
theorem Gc.bP {σ':Hp}(g:Gc U)(e:aF U σ'):Gc σ':=g.bS e id
theorem Gd.bS {σ':Hp}(g:Gd U)(e:Ext F U σ')(hF:¬F 1):Gd σ':=⟨wg g.lt e.1⟩
theorem Gd.bP {σ':Hp}(g:Gd U)(e:aF U σ'):Gd σ':=g.bS e id
theorem Gc.gd (g:Gc U):Gd U:=⟨KU g.d0⟩
theorem Gl.bP {σ':Hp}(g:Gl U)(e:aF U σ'):Gl σ':=g.bS e λ_ h=>h.elim
theorem iX.grow (hF:iX F)(g:Gl U):iX (Grow F U):=λb a=>by
 rcases a with h|h
 ·exact hF b h
 ·have d:=KU g.c0;have i:=KU g.u0;exact⟨O,O⟩
theorem iX.sub {G:Rg}(hF:iX F)(h:∀b,G b->F b):iX G:=λb a=>hF b (h b a)
def gE:Nat->Bool×Bool
 | 0=>(false,false)
 | 1=>(true,false)
 | _=>(true,true)
def hO (st:List Nat):List Value:=st.flatMap λx=>[.bool (gE x).1,.bool (gE x).2]
theorem V9 (l:List Nat):(hO l).length=2*l.length:=by
 induction l with
 | nil=>rfl
 | cons x l ih=>simp only[hO,pA,zK,zS,lA]at *;omega
theorem Fx {l:List Nat}{i x:Nat}(h:l[i]?=some x):(hO l)[2*i]?=some (.bool (gE x).1)/\(hO l)[2*i+1]?=some (.bool (gE x).2):=by
 induction l generalizing i with
 | nil=>simp at h
 | cons y l ih=>
  have e:hO (y::l)=[.bool (gE y).1,.bool (gE y).2]++hO l:=by simp[hO]
  rw[e];cases i with
  | zero=>simp at h;subst h;simp
  | succ i=>
   have:=ih (i:=i) (by simpa using h);rw[show 2*(i+1)=2*i+2 by omega];simpa using this
theorem FL {l:List Nat}{i v:Nat}(h:i<l.length)(rest:List Value):((hO l++rest).set (2*i) (.bool (gE v).1)).set (2*i+1) (.bool (gE v).2)=hO (l.set i v)++rest:=by
 induction l generalizing i with
 | nil=>simp at h
 | cons y l ih=>
  have e:∀z m,hO (z::m)=.bool (gE z).1 :: .bool (gE z).2::hO m:=λz m=>by simp[hO]
  cases i with
  | zero=>simp[e]
  | succ i=>
   have:=ih (i:=i) (by simpa using h);rw[tC,e,e,show 2*(i+1)=2*i+1+1 by omega];simp only[lJ,tC];rw[this]
theorem DN {x y:Nat}(hx:x<=2)(hy:y<=2):(((gE x).1==(gE y).1)&&(((gE x).2==(gE y).2)&&true))=(x==y):=by
 match x,y,hx,hy with
 | 0,0,_,_=>rfl
 | 1,1,_,_=>rfl
 | 2,2,_,_=>rfl
 | 0,1,_,_=>rfl
 | 0,2,_,_=>rfl
 | 1,0,_,_=>rfl
 | 1,2,_,_=>rfl
 | 2,0,_,_=>rfl
 | 2,1,_,_=>rfl
theorem KX {α:Type}(x:Int×α)(l:List (Int×α))(k:Int):bU (x::l) k=if x.1=k then some x.2 else bU l k:=by
 unfold bU;rw[vV];by_cases h:x.1=k
 ·simp[h]
 ·have:(x.1==k)=false:=by simpa using h
  rw[this,zB h]
theorem N3 {α:Type}(l:List (Int×α))(n k:Int)(v:α):bU (l.map λx=>if x.1==n then(n,v)else x) k=if k=n then(if l.any (λx=>x.1==n)then some v else none)else bU l k:=by
 induction l with
 | nil=>simp[bU]
 | cons x l ih=>
  rw[zR,KX,ih,KX,List.any_cons];by_cases hx:x.1=n
  ·by_cases hk:k=n
   ·subst hk;simp[hx]
   ·have:¬n=k:=λe=>hk e.symm;simp[hx,hk,this]
  ·have a:(x.1==n)=false:=by simpa using hx
   simp only[a,za,jR,xO];by_cases hk:k=n
   ·subst hk;simp[hx]
   ·simp[hk]
theorem Mx {α:Type}(l:List (Int×α))(n k:Int)(v:α)(h:l.any (λx=>x.1==n)=false):bU (l++[(n,v)]) k=if k=n then some v else bU l k:=by
 induction l with
 | nil=>
  rw[tz,KX];by_cases hk:k=n
  ·simp[hk]
  ·have:¬n=k:=λe=>hk e.symm;simp[hk,this,bU]
 | cons x l ih=>
  rw[List.any_cons,wS]at h;rw[lJ,KX,ih h.2,KX];have a:¬x.1=n:=by simpa using h.1
  by_cases hk:k=n
  ·subst hk;simp[a]
  ·simp[hk]
theorem US {α:Type}(l:List (Int×α))(n k:Int)(v:α):bU (dA l n v) k=if k=n then some v else bU l k:=by
 unfold dA;cases h:l.any (λx=>x.1==n)
 ·rw[zB aA,Mx l n k v h]
 ·rw[zC rfl,N3,h];simp
theorem DK {α:Type}(l:List (Int×α))(n k:Int):bU (cO l n) k=if k=n then none else bU l k:=by
 unfold cO
 induction l with
 | nil=>simp[bU]
 | cons x l ih=>
  rw[tK,KX];by_cases hx:x.1=n
  ·have:(!(x.1==n))=false:=by simp[hx]
   rw[this];simp only[za,jR,ih];by_cases hk:k=n
   ·simp[hk]
   ·have:¬x.1=k:=λe=>hk (e.symm.trans hx);simp[hk,this]
  ·have:(!(x.1==n))=true:=by simpa using hx
   rw[this,zC rfl,KX,ih];by_cases hk:k=n
   ·subst hk;simp[hx]
   ·simp[hk]
theorem ZD {α:Type}{l:List (Int×α)}{k:Int}{v:α}(h:bU l k=some v):(k,v)∈l:=by
 unfold bU at h;cases hf:l.find? (λx=>x.1==k)with
 | none=>rw[hf]at h;cases h
 | some x=>
  rw[hf]at h;have b:=uJ hf;have g:=tW hf;have a:x.1=k:=by simpa using b
  have d:x.2=v:=by simpa using h
  rw[←a,←d];exact g
theorem Sa {α:Type}{l:List (Int×α)}{k:Int}:(bU l k).isSome=true↔k∈l.map (·.1):=by
 unfold bU;rw[Option.isSome_map,B9];simp
def Iu (U:Hp)(s:Sl)(b:Nat)(f:Nat->Int):Prop:=s.a=some ⟨b,0,none⟩/\s.len=32/\32<=s.cap/\∃cs,bY U b cs/\32<=cs.length/\∀j,j<32->cs[j]?=some (.int .i64 (f j))
structure fK (U:Hp) (F:Rg) (p q r:Nat) (l:List (Int×Sl)) (B:Nat->Nat) (sp:Sp):Prop where
 hd:∃cap,sp.st.length<=cap/\bY U p [.slice (some ⟨q,0,none⟩) sp.st.length cap,.map (some r),.int .i64 (sp.pk:Int)]
 row:∃rest,bY U q (hO sp.st++rest)
 map:dL U r .i64 .s l
 keys:∀x:Int,(bU l x).isSome=true↔∃k:Nat,x=k/\sp.st[k]?=some 2
 wd:∀(k:Nat) s,bU l (k:Int)=some s->Iu U s (B k) λj=>sp.wd (32*k+j)
 inj:∀k k':Nat,sp.st[k]?=some 2->sp.st[k']?=some 2->B k=B k'->k=k'
 out:∀k:Nat,sp.st[k]?=some 2->F (B k)/\B k≠p/\B k≠q/\B k≠r
 fs:F p/\F q/\F r/\p≠q/\p≠r/\q≠r
 zero:∀w:Nat,sp.st[w/32]?≠some 2->sp.wd w=0
 n1:1<=sp.st.length
 n2:sp.st.length<=1024
 sW:∀x∈sp.st,x<=2
 pk:sp.pk<=1024
def dP (U:Hp)(F:Rg)(p:Nat)(sp:Sp):Prop:=∃q r l B,fK U F p q r l B sp
theorem fK.entry {l:List (Int×Sl)}{B:Nat->Nat}(h:fK U F p q r l B sp){k:Nat}(hk:sp.st[k]?=some 2):∃s,bU l (k:Int)=some s/\Iu U s (B k) λj=>sp.wd (32*k+j):=by
 have:=(h.keys (k:Int)).2 ⟨k,rfl,hk⟩;obtain⟨s,a⟩:=pF.1 this;exact⟨s,a,h.wd k s a⟩
theorem fK.mh {l:List (Int×Sl)}{B:Nat->Nat}(h:fK U F p q r l B sp){k:Nat}{s:Sl}(hs:bU l (k:Int)=some s):sp.st[k]?=some 2:=by
 obtain⟨k',e,a⟩:=(h.keys (k:Int)).1 (by rw[hs];rfl);have:k=k':=by omega
 subst this;exact a
theorem dP.loc:dN λU F=>dP U F p sp:=λU N F G ⟨q,r,l,B,h⟩ P D=>by
 have g:∀{b:Nat} {i:List Value},bY U b i->F b->bY N b i/\G b:=by
  rintro b i ⟨e,A⟩ K;have:=D b (bY.lt ⟨e,A⟩) K;exact⟨⟨e,this.2.trans A⟩,this.1⟩
 obtain⟨c,L,hd⟩:=h.hd;obtain⟨j,a⟩:=h.row;obtain⟨H,w,z,M⟩:=h.map;have m:=D r (jY.1 z).1 h.fs.2.2.1;refine⟨q,r,l,B,⟨c,L,(g hd h.fs.1).1⟩,⟨j,(g a h.fs.2.1).1⟩,⟨H,w,m.2.trans z,M⟩,h.keys,λk s d=>?_,h.inj,λk d=>?_,⟨(g hd h.fs.1).2,(g a h.fs.2.1).2,m.1,h.fs.2.2.2⟩,h.zero,h.n1,h.n2,h.sW,h.pk⟩
 ·obtain⟨C,E,y,i,u,x⟩:=h.wd k s d;exact⟨C,E,y,i,(g u (h.out k (h.mh d)).1).1,x⟩
 ·obtain⟨s,J,C,E,y,i,u,x⟩:=h.entry d;exact⟨(g u (h.out k d).1).2,(h.out k d).2⟩
theorem dP.bP {σ':Hp}(h:dP U F p sp)(e:aF U σ'):dP σ' F p sp:=dN.bP dP.loc h e
variable {l:List (Int×Sl)}{B:Nat->Nat}
theorem fK.rS (h:fK U F p q r l B sp){K:Sl->Prop}(hK:∀cap,sp.st.length<=cap->K ⟨some ⟨q,0,none⟩,sp.st.length,cap⟩):jD (Addr.add ⟨p,0,none⟩ 0) U K:=by
 obtain⟨c,a,hd⟩:=h.hd;exact hd.rS rfl (hK c a)
theorem fK.rM (h:fK U F p q r l B sp){K:Option Nat->Prop}(hK:K (some r)):lO (Addr.add ⟨p,0,none⟩ 1) U K:=by
 obtain⟨c,a,hd⟩:=h.hd;exact hd.rM rfl hK
theorem fK.AM (h:fK U F p q r l B sp){i x:Nat}(hx:sp.st[i]?=some x){K:Bool->Bool->Prop}(hK:K (gE x).1 (gE x).2):mj (Addr.add ⟨q,2*i,none⟩ 0) U λa=>mj (Addr.add ⟨q,2*i,none⟩ 1) U λb=>K a b:=by
 obtain⟨g,d⟩:=h.row;have hi:=(cY.1 hx).1;have j:=Fx hx;refine d.rB (x:=(gE x).1) ?_ (d.rB (x:=(gE x).2) ?_ hK)
 ·rw[ko,zd (by rw[V9];omega)];exact j.1
 ·rw[zd (by rw[V9];omega)];exact j.2
theorem DJ (h:dP U F p sp){R:aO}(hR:R true U):XX.c (aW p) U R:=by
 refine XX.o ?_;unfold XX.v;obtain⟨q,r,l,B,h⟩:=h;have:=h.n1;refine bX.intro (cF rfl (bL (h.rS λcap _=>?_)));rw[zI aC];exact hR
theorem Lj (h:dP U F p sp){R:aN}(hR:R (sp.st.length:Int) U):XZ.c (aW p) U R:=by
 refine XZ.o ?_;unfold XZ.v;have a:=h;obtain⟨q,r,l,B,h⟩:=h;exact DJ a (cD rfl (bL (h.rS λcap _=>hR)))
theorem fK.yi (h:fK U F p q r l B sp):l.length=sp.st.count 2:=by
 have m:=h.map.nodup;have s:(l.map (·.1)).Perm (((List.range sp.st.length).filter λk=>sp.st[k]?==some 2).map λk=>((k:Nat):Int)):=by
  rw[Br m]
  ·intro x;rw[←Sa,h.keys];simp only[zE,zL,zg,zU];constructor
   ·rintro⟨k,rfl,hk⟩;exact⟨k,⟨(cY.1 hk).1,hk⟩,rfl⟩
   ·rintro⟨k,⟨_,hk⟩,rfl⟩;exact⟨k,rfl,hk⟩
  ·have d:((List.range sp.st.length).filter λk=>sp.st[k]?==some 2).Pairwise (· ≠ ·):=List.Pairwise.sublist ux List.nodup_range;exact List.Pairwise.map _ (λa b (g:a≠b) i=>g (by exact_mod_cast i)) d
 have j:=s.length_eq;simp only[zj]at j;rw[j,←AP];have key:∀st:List Nat,(List.range st.length).countP (λk=>st[k]?==some 2)=st.count 2:=by
  intro st
  induction st with
  | nil=>rfl
  | cons x st ih=>
   rw[zS,List.range_succ_eq_map,xk,List.countP_map,List.count_cons,←ih]
   congr 1
 exact key sp.st
end Go.Ar
namespace Go.Ar
open Go Go.Vc Go.Proofs
open Go.Bu (ZE)
variable {U:Hp}{F:Rg}{p q r:Nat}{sp:Sp}{l:List (Int×Sl)}{B:Nat->Nat}
theorem OX (l:List Nat)(n:Nat):hO (l.take n)=(hO l).take (2*n):=by
 induction l generalizing n with
 | nil=>simp[hO]
 | cons y l ih=>
  have e:∀z m,hO (z::m)=.bool (gE z).1 :: .bool (gE z).2::hO m:=λz m=>by simp[hO]
  cases n with
  | zero=>simp[hO]
  | succ n=>
   rw[vu,e,e,ih,show 2*(n+1)=2*n+1+1 by omega];simp
theorem Τ (l:List Nat)(n:Nat):hO (l.drop n)=(hO l).drop (2*n):=by
 induction l generalizing n with
 | nil=>simp[hO]
 | cons y l ih=>
  have e:∀z m,hO (z::m)=.bool (gE z).1 :: .bool (gE z).2::hO m:=λz m=>by simp[hO]
  cases n with
  | zero=>simp[hO]
  | succ n=>
   rw[vz,e,ih,show 2*(n+1)=2*n+1+1 by omega];simp
theorem LM (n v:Nat):hO (List.replicate n v)=(List.replicate n [Value.bool (gE v).1,.bool (gE v).2]).flatten:=by
 induction n with
 | zero=>rfl
 | succ n ih=>rw[sk,sk,vD,←ih];simp[hO]
theorem _root_.Go.Vc.cV.AM {s:Sl}{l:List Nat}(h:cV s 2 (hO l) U F){i x:Nat}(hx:l[i]?=some x){K:Bool->Bool->Prop}(hK:K (gE x).1 (gE x).2) :
 Ix s.a s.len (i:Int) 2 λa=>mj (a.add 0) U λu=>mj (a.add 1) U λw=>K u w:=by
 have hi:=(cY.1 hx).1;have j:=Fx hx;obtain⟨b,o,m,p⟩:=h.cell j.1;obtain⟨y,o1,d,g⟩:=h.cell j.2;rw[m]at d;cases d;have r:=h.1;rw[V9]at r;rw[m];refine ix O O ?_;rw[add_lit];refine nZ ?_ (nZ ?_ hK)<;>rw[add_lit]
 ·rw[show o+(i:Int).toNat*2+0=o+2*i by omega];exact p
 ·rw[show o+(i:Int).toNat*2+1=o+(2*i+1) by omega];exact g
theorem _root_.Go.Vc.cV.wD {s:Sl}{l:List Nat}(h:cV s 2 (hO l) U F):s.len=l.length:=by
 have:=h.1;rw[V9]at this;omega
theorem PY {s:Sl}{xs:List Nat}(h:cV s 2 (hO xs) U F)(hl:xs.length<=1000000)(h2:∀x∈xs,x<=2){v:Nat}(hv:v<=2){R:aN}
 (hR:∀(t:Int) σ',aF U σ'->decide (t≥0)=xs.contains v->R t σ'):Wv.c s (gE v).1 (gE v).2 U R:=by
 refine Wv.o ?_;unfold Wv.v;have z:=h.wD;refine nw (cs:=[.bool (gE v).1,.bool (gE v).2]) λw E e A=>?_;have h:=aH.bP h e;refine Qz (a:=bO) (λ(t:Int) u=>∃i:Nat,t=(i:Int)/\i<=xs.length/\u=w/\∀j,j<i->xs[j]?≠some v) (λt _=>xs.length-t.toNat) ⟨0,rfl,O,rfl,λj g=>O⟩ ?_;rintro t u ⟨i,rfl,hi,rfl,b⟩;refine cP (λD=>?_) λC=>?_
 ·have d:i<xs.length:=by omega
  have y:xs[i]?=some xs[i]:=cW d;refine A.rB rfl (A.rB rfl (h.AM y ?_));rw[DN hv (h2 _ (kv d))];refine cN (λr=>?_) λr=>?_
  ·have:v=xs[i]:=by simpa using r
   refine hR _ _ e ?_;have B:xs.contains v=true:=by rw[this];simp
   rw[B,zI O]
  ·have p:¬v=xs[i]:=by simpa using r
   refine cT (m:=i+1) O O ⟨⟨i+1,rfl,O,rfl,λj g=>?_⟩,O⟩;by_cases e:j=i
   ·subst e;rw[y];intro e2;cases e2;exact p rfl
   ·exact b j O
 ·refine hR _ _ e ?_;have:xs.contains v=false:=by
   simp only[s8,decide_eq_false_iff_not];intro hm;obtain⟨j,g⟩:=zP hm;have:=(cY.1 g).1;exact b j O g
  rw[this];rfl
theorem OT {s:Sl}{xs:List Nat}(h:cV s 2 (hO xs) U F)(hl:xs.length<=1000000)(h2:∀x∈xs,x<=2){v:Nat}(hv:v<=2){R:aO}
 (hR:∀σ',aF U σ'->R (xs.contains v) σ'):Wq.c s (gE v).1 (gE v).2 U R:=by
 refine Wq.o ?_;unfold Wq.v;refine nw (cs:=[.bool (gE v).1,.bool (gE v).2]) λw g e a=>a.rB rfl (a.rB rfl ?_);refine PY (aH.bP h e) hl h2 hv λt σ' d b=>?_;rw[b];exact hR σ' (Ext.trans e d)
theorem Wg3 (g:Gl U){x:Nat}(hx:x<=2){R:aO}(hR:∀σ',aF U σ'->R (x != 0) σ'):YR.c (gE x).1 (gE x).2 U R:=by
 refine YR.o ?_;unfold YR.v;refine nw (cs:=[.bool (gE x).1,.bool (gE x).2]) λv d e a=>a.rB rfl (a.rB rfl ?_);have g:=g.bP e;refine nZ (by rw[←g.u0];rfl) (nZ (by rw[←g.u1];rfl) ?_);have b:(((gE x).1==false)&&(((gE x).2==false)&&true))=(x==0):=DN hx (y:=0) O;rw[b];exact hR v e
theorem SR {s:Sl}{xs:List Nat}(h:cV s 2 (hO xs) U F)(g:Gl U)(hl:xs.length<=1000000)(h2:∀x∈xs,x<=2){R:aO}
 (hR:∀σ',aF U σ'->R (xs.any (· != 0)) σ'):Wl.c s ⟨342,#[],#[]⟩ U R:=by
 refine Wl.o ?_;unfold Wl.v;refine Wu.o ?_;unfold Wu.v;have A:=h.wD;refine Qz (a:=bO) (λ(t:Int) C=>∃i:Nat,t=(i:Int)/\i<=xs.length/\aF U C/\∀(j x:Nat),j<i->xs[j]?=some x->x=0) (λt _=>xs.length-t.toNat) ⟨0,rfl,O,Ext.refl _ _,λj x r=>O⟩ ?_;rintro t w ⟨i,rfl,hi,e,p⟩;refine cP (λG=>?_) λE=>?_
 ·have d:i<xs.length:=by omega
  have z:xs[i]?=some xs[i]:=cW d;refine(aH.bP h e).AM z ?_;refine GH (all := #[.agg #[.bool (gE xs[i]).1,.bool (gE xs[i]).2]]) (by kernel_rfl) aA ?_;refine Wg3 (g.bP e) (h2 _ (kv d)) λD B=>?_;refine cN (λy=>?_) λy=>?_
  ·have:xs.any (· != 0)=true:=zy.2 ⟨_,kv d,y⟩;have:=hR D (Ext.trans e B);rw[‹xs.any (· != 0)=true›]at this;show R (decide ((i:Int)≥0)) _;rw[zI O];exact this
  ·have u:xs[i]=0:=by simpa using y
   refine cT (m:=i+1) O O ⟨⟨i+1,rfl,O,Ext.trans e B,λj x r b=>?_⟩,O⟩;by_cases e:j=i
   ·subst e;rw[z]at b;cases b;exact u
   ·exact p j x O b
 ·have:xs.any (· != 0)=false:=by
   rw[mB];intro x hm;obtain⟨j,r⟩:=zP hm;have:=(cY.1 r).1;simpa using p j x O r
  have:=hR w e;rw[‹xs.any (· != 0)=false›]at this;exact this
theorem fK.part (h:fK U F p q r l B sp){x y c:Nat}(hl:x+y<=sp.st.length):cV ⟨some ⟨q,2*x,none⟩,y,c⟩ 2 (hO ((sp.st.drop x).take y)) U F:=by
 obtain⟨d,b⟩:=h.row;have a:(hO ((sp.st.drop x).take y)).length=y*2:=by rw[V9,zY,ky];omega
 refine⟨a,.inr ⟨q,2*x,_,h.fs.2.1,rfl,b.q,λj g=>?_⟩⟩;rw[a]at g;rw[zd (by rw[V9];omega),OX,Τ,zl,zC O,lj]
theorem Sj (h:dP U F p sp)(a m:Int){R:Sl->Int->Hp->Prop}(h0:ZE sp.st.length a m=false->R ⟨none,0,0⟩ 1 U)
 (h1:∀(x y:Nat) s,a=x->m=y->1<=y->x+y<=sp.st.length->cV s 2 (hO ((sp.st.drop x).take y)) U F->R s 0 U):Zr.c (aW p) a m U R:=by
 refine Zr.o ?_;unfold Zr.v;have z:=h;obtain⟨q,r,l,B,h⟩:=h;have n2:=h.n2;have b:¬(0<=a/\1<=m/\m<=sp.st.length-a)->R ⟨none,0,0⟩ 1 U:=λi=>h0 (by simp only[ZE,←vF];exact zJ i);refine DJ z (cD rfl (bX.intro (cP (λj=>bX.intro (cF rfl (bX.intro (cF rfl (cF rfl (b O)))))) λj=>?_)));refine bX.intro (cP (λA=>bX.intro (cF rfl (cF rfl (b O)))) λA=>bL (h.rS λcap d=>?_));simp only;refine bX.intro (cP (λg=>cF rfl (b O)) λg=>?_);refine bL (h.rS λcap d=>ar aC aC ?_);simp only;refine cP (λw=>b O) λw=>?_;obtain⟨x,rfl⟩:=zc (show 0<=a by omega);obtain⟨y,rfl⟩:=zc (show 0<=m by omega);refine bL (h.rS λcap d=>cT (m:=x+y) O O ?_);refine jt O aC (zD _) ?_;simp only;rw[zB O];refine h1 x y _ rfl rfl O O ?_;have:=h.part (x:=x) (y:=y) (c:=cap-x) O;have e:(Option.map (λ(u:Addr)=>u.add (x*2)) (some (⟨q,0,none⟩:Addr)))=some ⟨q,2*x,none⟩:=by
  simp only[ze,add_lit];congr 2;omega
 rw[e,BU];exact this
def Sp.j4 (s:Sp)(k v:Nat):Sp:={s with st:=s.st.set k v,wd:=λw=>if k*32<=w/\w<(k+1)*32 then 0 else s.wd w}
theorem LF {st:List Nat}(h:∀x∈st,x<=2){k v:Nat}(hv:v<=2):∀x∈st.set k v,x<=2:=by
 intro x hx;rcases Am hx with h1|h1
 ·exact h x h1
 ·omega
theorem fK.j4 (h:fK U F p q r l B sp){k v:Nat}(hk:k<sp.st.length)(hv:v<=1){σ':Hp}(e:Ext (λb=>b=q\/b=r) U σ'){rest:List Value}
 (hb:bY σ' q (hO (sp.st.set k v)++rest)) (hm:dL σ' r .i64 .s (cO l (k:Int))):fK σ' F p q r (cO l (k:Int)) B (sp.j4 k v):=by
 have d:∀j:Nat,(sp.st.set k v)[j]?=some 2↔j≠k/\sp.st[j]?=some 2:=λj=>by
  rw[nB];by_cases hjk:k=j
  ·subst hjk;rw[zC rfl,zC hk];constructor
   ·intro h;have:v=2:=by simpa using h
    omega
   ·intro h;exact absurd rfl h.1
  ·rw[zB hjk];exact⟨λh=>⟨λe=>hjk e.symm,h⟩,λh=>h.2⟩
 obtain⟨c,D,hd⟩:=h.hd;have H:¬(p=q\/p=r):=by have:=h.fs;omega
 refine⟨⟨c,by simpa[Sp.j4]using D,by simpa[Sp.j4]using e.bV hd H⟩,⟨rest,hb⟩,hm,λx=>?_,λj s g=>?_,λj u A m=>?_,λj a=>?_,h.fs,λw y=>?_,by simpa[Sp.j4]using h.n1,by simpa[Sp.j4]using h.n2,LF h.sW O,h.pk⟩
 ·rw[DK];by_cases hx:x=(k:Int)
  ·rw[zC hx];constructor
   ·intro h;cases h
   ·rintro⟨j,rfl,a⟩;have:=(d j).1 a;omega
  ·rw[zB hx,h.keys];constructor
   ·rintro⟨j,rfl,a⟩;exact⟨j,rfl,(d j).2 ⟨O,a⟩⟩
   ·rintro⟨j,rfl,a⟩;exact⟨j,rfl,((d j).1 a).2⟩
 ·rw[DK]at g;by_cases hx:(j:Int)=(k:Int)
  ·rw[zC hx]at g;cases g
  ·rw[zB hx]at g;obtain⟨C,L,G,J,z,K,E⟩:=h.wd j s g;have M:=h.out j (h.mh g);refine⟨C,L,G,J,e.bV z O,K,λi hi=>?_⟩;rw[E i hi];simp only[Sp.j4];rw[zB O]
 ·exact h.inj j u ((d j).1 A).2 ((d u).1 m).2
 ·exact h.out j ((d j).1 a).2
 ·simp only[Sp.j4]at y ⊢;by_cases hin:k*32<=w/\w<(k+1)*32
  ·rw[zC hin]
  ·rw[zB hin];refine h.zero w λm=>y ((d _).2 ⟨O,m⟩)
theorem Sp.pJ (s:Sp)(a v:Nat):s.set a 0 v=s:=by
 have d:gF s.st a (a+0) v=s.st:=by
  apply zt;intro i;rw[HG];cases s.st[i]? with
  | none=>rfl
  | some x=>simp only[ze];rw[zB O]
 have b:(λw=>if a*32<=w/\w<(a+0)*32 then 0 else s.wd w)=s.wd:=by
  funext w;rw[zB O]
 simp only[Sp.set,d,b]
theorem Sp.pD (s:Sp)(a m v:Nat)(h:a+m<s.st.length):(s.set a m v).j4 (a+m) v=s.set a (m+1) v:=by
 have d:(gF s.st a (a+m) v).set (a+m) v=gF s.st a (a+(m+1)) v:=by
  apply zt;intro i;rw[nB,HG,HG,Vs];by_cases hi:a+m=i
  ·subst hi;rw[zC rfl,zC h,cW h,ze,zC O]
  ·rw[zB hi];cases s.st[i]? with
   | none=>rfl
   | some x=>
    simp only[ze];by_cases hin:a<=i/\i<a+m
    ·rw[zC hin,zC O]
    ·rw[zB hin,zB O]
 have b:(λw=>if(a+m)*32<=w/\w<(a+m+1)*32 then 0 else(if a*32<=w/\w<(a+m)*32 then 0 else s.wd w))=λw=>if a*32<=w/\w<(a+(m+1))*32 then 0 else s.wd w:=by
  funext w
  by_cases d:(a+m)*32<=w/\w<(a+m+1)*32
  ·rw[zC d,zC O]
  ·rw[zB d];by_cases b:a*32<=w/\w<(a+m)*32
   ·rw[zC b,zC O]
   ·rw[zB b,zB O]
 simp only[Sp.set,Sp.j4,d,b]
theorem Pm (h:dP U F p sp){x y v:Nat}(hl:x+y<=sp.st.length)(hv:v<=1){R:aP}(hR:∀σ',Ext F U σ'->dP σ' F p (sp.set x y v)->R σ') :
 Zu.c (aW p) x y (gE v).1 (gE v).2 U R:=by
 refine Zu.o ?_;unfold Zu.v;have Y:sp.st.length<=1024:=by obtain⟨q,r,l,B,h⟩:=h;exact h.n2
 have s:dP U (Cut F U) p sp:=dN.cut dP.loc h;refine nw (cs:=[.bool (gE v).1,.bool (gE v).2]) λu hz e g=>?_;have S:=s.bP e;refine Qz (a:=bO) (λ(t:Int) w=>∃i:Nat,t=((x+i:Nat):Int)/\i<=y/\Ext (Cut F U) u w/\bY w U.size [.bool (gE v).1,.bool (gE v).2]/\dP w (Cut F U) p (sp.set x i v)) (λt _=>x+y-t.toNat)
  ⟨0,rfl,O,Ext.refl _ _,g,by rw[Sp.pJ];exact S⟩ ?_
 rintro t w ⟨i,rfl,hi,P,j,q,r,l,B,d⟩;refine cT (m:=x+y) O O (cP (λV=>?_) λZ=>?_)
 ·have H:(sp.set x i v).st.length=sp.st.length:=Vs _ _ _ _;refine bL (d.rS λcap M=>j.rB rfl (j.rB rfl (ix O aC ?_)));rw[add_lit,show 0+((x+i:Nat):Int).toNat*2=2*(x+i) by omega];obtain⟨E,z⟩:=d.row;have L:x+i<(sp.set x i v).st.length:=by omega
  refine z.s1 (by rw[zK,V9];omega) λw1 o1 X=>X.s1 (by rw[oQ,zK,V9];omega) λw2 o2 J=>?_;rw[ko,FL L]at J;have e2:Ext (· = q) w w2:=o1.ext.trans o2.ext;obtain⟨c,W,hd⟩:=d.hd;have C:=e2.bV hd d.fs.2.2.2.1;refine bL (C.rM rfl ⟨l,e2.fW d.map (λe=>d.fs.2.2.2.2.2 e.symm),λw3 D _ A=>?_⟩);have o3:=D r rfl;have G:Ext (λb=>b=q\/b=r) w w3:=(e2.sub λb g=>.inl g).trans (o3.ext.sub λb g=>.inr g);have K:=d.j4 L hv G (WE o3 J d.fs.2.2.2.2.2) A;rw[Sp.pD _ _ _ _ O]at K;have N:Ext (Cut F U) w w3:=G.sub λb g=>by
   rcases g with rfl|rfl
   ·exact d.fs.2.1
   ·exact d.fs.2.2.1
  refine cT (m:=x+(i+1)) O O ⟨⟨i+1,rfl,O,P.trans N,N.bV j λQ=>by have:=Q.2;omega,_,_,_,_,K⟩,O⟩
 ·have:i=y:=by omega
  subst this;refine hR w (Ext.cut (e.to.trans P)) (dN.mono dP.loc ⟨q,r,l,B,d⟩ λb _ g=>g.1)
theorem RJ (h:dP U F p sp)(g:Gl U)(hF:iX F)(a m:Int){R:aN}(hR:∀σ',Ext F U σ'->dP σ' F p (gg sp a m)->R (fH sp a m) σ') :
 Zt.c (aW p) a m U R:=by
 refine Zt.o ?_;unfold Zt.v;have j:(∀x∈sp.st,x<=2)/\sp.st.length<=1024:=by obtain⟨q,r,l,B,h⟩:=h;exact⟨h.sW,h.n2⟩
 refine Sj h a m (λi=>?_) λx y s w K L D J=>?_
 ·have e1:fH sp a m=1:=by unfold fH;rw[i];rfl
  have e2:gg sp a m=sp:=by unfold gg;rw[e1];rfl
  have:=hR U (Ext.refl _ _);rw[e1,e2]at this;exact cF rfl (this h)
 ·subst w;subst K;have i:ZE sp.st.length (x:Int) (y:Int)=true:=by simp only[ZE,zF,zV];omega
  refine cD rfl (SR J g (by rw[zY,ky];omega) (λz G=>j.1 z (ue (uf G))) λA e1=>?_);have d:fH sp x y=if((sp.st.drop x).take y).any (· != 0)then 5 else 0:=by unfold fH;rw[i];rfl
  refine cN (λb=>?_) λb=>?_
  ·rw[b]at d;have e2:gg sp x y=sp:=by unfold gg;rw[d];rfl
   have:=hR A (aF.to e1);rw[d,e2]at this;exact this (h.bP e1)
  ·rw[b]at d;have e2:gg sp x y=sp.set x y 1:=by unfold gg;rw[d];rfl
   have u:=g.bP e1;refine nZ (by rw[←u.c0];rfl) (nZ (by rw[←u.c1];rfl) ?_);refine Pm (v:=1) (h.bP e1) D O λE C H=>?_;have:=hR E (Ext.trans (aF.to e1) C);rw[d,e2]at this;exact this H
theorem Fh (h:dP U F p sp)(g:Gl U)(x:Int)(hx:x<=9223372036854775807){R:aN}(hR:∀σ',aF U σ'->R (eO sp x) σ') :
 XM.c (aW p) x 1 U R:=by
 refine XM.o ?_;unfold XM.v;have C:=h;obtain⟨q,r,l,B,h⟩:=h;have n2:=h.n2;have i:(x<0\/x%8≠0)->R 7 U:=λj=>by
  have:=hR U (Ext.refl _ _);unfold eO at this;rw[zC j]at this;exact this
 refine DJ C (cD rfl (cD rfl (bX.intro (cP (λA=>cF rfl (i (.inl A))) λA=>nz aB ?_))));obtain⟨y,rfl⟩:=zc (show 0<=x by omega);refine cN (λd=>?_) λd=>?_
 ·refine i (.inr ?_);rw[Kh O]at d;simpa using d
 have J:y%8=0:=by
  rw[Kh O]at d;have:((y:Int)%8)=0:=by simpa using d
  omega
 have ok:¬((y:Int)<0\/(y:Int)%8≠0):=by omega
 refine nz aB (cT (m:=y/256) (by rw[YS O];simp) O (nz aB (cT (m:=y/8) (by rw[YS O];simp) O ?_)));refine cT (m:=y/8+1) O O (cT (m:=y/8) O O (nz aB (cT (m:=y/256) (by rw[YS O];simp;omega) O ?_)));have fin:∀(b:Bool) σ',aF U σ'->(b=true↔sp.st.getD (y/256) 0=0)->If b (R 7 σ') (R 0 σ'):=λb σ' e j=>by
  have:=hR σ' e;unfold eO at this;rw[zB ok]at this;refine cN (λh=>?_) λh=>?_
  ·rw[zC (by simpa using j.1 h)]at this;exact this
  ·rw[zB (λE=>by rw[j.2 (by simpa using E)]at h;cases h)]at this;exact this
 obtain⟨c,H,hd⟩:=h.hd;refine Jn.intro ⟨λm=>bY m p [.slice (some ⟨q,0,none⟩) sp.st.length c,.map (some r),.int .i64 (sp.pk:Int)]/\Gl m,⟨hd,g⟩,?_⟩;refine bL ⟨⟨some ⟨q,0,none⟩,sp.st.length,c⟩,λm a=>by rw[add_lit,a.1.cell];rfl,?_⟩;refine cP (λs=>?_) λs=>?_
 ·simp only at s;refine fin _ U (Ext.refl _ _) ⟨λ_=>?_,λ_=>rfl⟩;rw[zQ,zX O];rfl
 simp only at s;refine bL ⟨⟨some ⟨q,0,none⟩,sp.st.length,c⟩,λm a=>by rw[add_lit,a.1.cell];rfl,?_⟩;refine cT (m:=y/256+1) O O (jt O aC (zD _) ?_);simp only;rw[zB O];refine⟨false,λm a=>a.2.u0,⟨false,λm a=>a.2.u1,?_⟩⟩;have e:(Option.map (λ(u:Addr)=>u.add (y/256*2)) (some (⟨q,0,none⟩:Addr)))=some ⟨q,2*(y/256),none⟩:=by
  simp only[ze,add_lit];congr 2;omega
 rw[e,BU];have G:=h.part (x:=y/256) (y:=1) (c:=c-y/256) O;refine OT (v:=0) G (by rw[zY,ky];omega) (λz D=>h.sW z (ue (uf D))) O λσ' w=>?_;refine⟨⟨w.bV hd id,g.bP w⟩,fin _ σ' w ?_⟩;have hi:y/256<sp.st.length:=by omega
 rw[zQ,cW hi,xz hi,vu,wb];simp[eq_comm]
theorem NL (h:dP U F p sp){w:Nat}(hw:w<=2305843009213693952){R:aN}(hR:R (sp.wd w) U):Zp.c (aW p) (w:Int) U R:=by
 refine Zp.o ?_;unfold Zp.v;obtain⟨q,r,l,B,h⟩:=h;refine bL (h.rM (nz aB (cT (m:=w/32) (by rw[YS O];simp) O ⟨l,h.map,?_⟩)));cases hg:bU l ((w/32:Nat):Int)with
 | none=>
  refine cD rfl ?_;have:sp.st[w/32]?≠some 2:=λi=>by
   have:=(h.keys _).2 ⟨_,rfl,i⟩;rw[hg]at this;cases this
  rw[h.zero w this]at hR;exact hR
 | some s=>
  obtain⟨d,y,j,u,b,x,a⟩:=h.wd _ s hg;refine cF rfl (nz aB ?_);simp only[qG];have g:((w:Int).tmod 32)=((w%32:Nat):Int):=by rw[Kh O];simp
  rw[d,g];refine ix O O ?_;rw[add_lit];refine b.uN ?_ hR;rw[show 0+((w%32:Nat):Int).toNat*1=w%32 by omega,a _ O];simp only;rw[show 32*(w/32)+w%32=w by omega]
theorem P8 (h:dP U F p sp)(g:Gl U)(x:Int)(hx:x<=9223372036854775807){R:Int->Int->Hp->Prop}(hR:∀σ',aF U σ'->R (if eO sp x=0 then sp.wd (x.toNat/8)else 0) (eO sp x) σ') :
 Zg.c (aW p) x U R:=by
 refine Zg.o ?_;unfold Zg.v;refine Fh h g x hx λσ' e=>?_;have:=hR σ' e;refine cN (λb=>?_) λb=>?_
 ·have i:¬eO sp x=0:=by simpa using b
  rw[zB i]at this;exact this
 ·have a:eO sp x=0:=by simpa using b
  rw[zC a,a]at this;have d:0<=x:=by
   rcases(by omega:x<0\/0<=x)with hlt|hge
   ·unfold eO at a;rw[zC (.inl hlt)]at a;cases a
   ·exact hge
  obtain⟨y,rfl⟩:=zc d;exact nz aB (cT (m:=y/8) (by rw[YS O];simp) O (NL (h.bP e) O this))
theorem fK.DG (h:fK U F p q r l B sp){k:Nat}(hk:k<sp.st.length)(hn:sp.st[k]?≠some 2){σ':Hp}{b:Nat}{s:Sl}{T:Rg}(e:Ext T U σ')(hT:∀i,i<U.size->T i->i=q\/i=r)(hz:U.size<=b){rest:List Value}
 (hb:bY σ' q (hO (sp.st.set k 2)++rest)) (hm:dL σ' r .i64 .s (dA l (k:Int) s)) (ha:s.a=some ⟨b,0,none⟩) (hl:s.len=32) (hc:s.cap=32) (hw:bY σ' b (List.replicate 32 (.int .i64 0))) :
 fK σ' (Grow F U) p q r (dA l (k:Int) s) (λj=>if j=k then b else B j) {sp with st:=sp.st.set k 2}:=by
 have u:∀j:Nat,(sp.st.set k 2)[j]?=some 2↔j=k\/sp.st[j]?=some 2:=λj=>by
  rw[nB];by_cases hjk:k=j
  ·subst hjk;rw[zC rfl,zC hk];simp
  ·rw[zB hjk];exact⟨λh=>.inr h,λh=>h.resolve_left λe=>hjk e.symm⟩
 obtain⟨c,G,hd⟩:=h.hd;obtain⟨_,C⟩:=h.row;have W:=hd.lt;have S:=C.lt;have R:=h.map.lt;have V:=e.1;have g:=h.fs;have A:∀{j:Nat},sp.st[j]?=some 2->B j<U.size:=λ{j} d=>by
  obtain⟨t,_,_,_,_,cs,E,_⟩:=h.entry d;exact E.lt
 have cZ:∀{i:Nat} {cs:List Value},bY U i cs->i≠q->i≠r->bY σ' i cs:=λ{i cs} hi D y=>e.bV hi λP=>by
  rcases hT i hi.lt P with h|h
  ·exact D h
  ·exact y h
 refine⟨⟨c,by simpa using G,by simpa using cZ hd g.2.2.2.1 g.2.2.2.2.1⟩,⟨rest,hb⟩,hm,λx=>?_,λj t d=>?_,λj z D y m=>?_,λj d=>?_,⟨.inl g.1,.inl g.2.1,.inl g.2.2.1,g.2.2.2⟩,λw H=>?_,by simpa using h.n1,by simpa using h.n2,LF h.sW O,h.pk⟩
 ·rw[US];by_cases hx:x=(k:Int)
  ·rw[zC hx];subst hx;simp only[Option.isSome_some,true_iff];exact⟨k,rfl,(u k).2 (.inl rfl)⟩
  ·rw[zB hx,h.keys];constructor
   ·rintro⟨j,rfl,d⟩;exact⟨j,rfl,(u j).2 (.inr d)⟩
   ·rintro⟨j,rfl,d⟩;exact⟨j,rfl,((u j).1 d).resolve_left O⟩
 ·rw[US]at d;by_cases hx:(j:Int)=(k:Int)
  ·have:j=k:=by omega
   subst this;rw[zC rfl]at d;cases d;rw[zC rfl];refine⟨ha,hl,O,_,hw,by simp,λi hi=>?_⟩;rw[m6,zC hi];simp only;rw[h.zero _ (by rw[show(32*j+i)/32=j by omega];exact hn)]
  ·rw[zB hx]at d;obtain⟨N,Q,M,cs,E,L,K⟩:=h.wd j t d;have J:=h.out j (h.mh d);rw[zB O];exact⟨N,Q,M,cs,cZ E J.2.2.1 J.2.2.2,L,K⟩
 ·by_cases e1:j=k
  ·by_cases e2:z=k
   ·omega
   ·rw[zC e1,zB e2]at m;have:=A (((u z).1 y).resolve_left e2);omega
  ·rw[zB e1]at m;by_cases e2:z=k
   ·rw[zC e2]at m;have:=A (((u j).1 D).resolve_left e1);omega
   ·rw[zB e2]at m;exact h.inj j z (((u j).1 D).resolve_left e1) (((u z).1 y).resolve_left e2) m
 ·by_cases e1:j=k
  ·rw[zC e1];exact⟨.inr hz,O,O,O⟩
  ·rw[zB e1];have:=h.out j (((u j).1 d).resolve_left e1);exact⟨.inl this.1,this.2⟩
 ·refine h.zero w λy=>H ((u _).2 (.inr y))
theorem fK.CW (h:fK U F p q r l B sp){σ':Hp}{n c:Nat}(hn:n<=1024)(ho:Ka U σ' p)(hc:sp.st.length<=c)(hb:bY σ' p [.slice (some ⟨q,0,none⟩) sp.st.length c,.map (some r),.int .i64 (n:Int)]):fK σ' F p q r l B {sp with pk:=n}:=by
 have d:=h.fs;obtain⟨a,b⟩:=h.row;refine⟨⟨c,hc,hb⟩,⟨a,WE ho b O⟩,HD ho h.map O,h.keys,λj t g=>?_,h.inj,h.out,d,h.zero,h.n1,h.n2,h.sW,hn⟩;obtain⟨x,y,u,w,s,i,m⟩:=h.wd j t g;exact⟨x,y,u,w,WE ho s (h.out j (h.mh g)).2.1,i,m⟩
theorem fK.word (h:fK U F p q r l B sp){w:Nat}{v:Int}(hk:sp.st[w/32]?=some 2){σ':Hp}{cs:List Value}(h32:32<=cs.length)(ho:Ka U σ' (B (w/32)))(hcs:∀j,j<32->cs[j]?=some (.int .i64 (sp.wd (32*(w/32)+j))))
 (hb:bY σ' (B (w/32)) (cs.set (w%32) (.int .i64 v))):fK σ' F p q r l B {sp with wd:=λu=>if u=w then v else sp.wd u}:=by
 have m:=h.out _ hk;obtain⟨c,D,hd⟩:=h.hd;obtain⟨a,b⟩:=h.row;refine⟨⟨c,D,WE ho hd O⟩,⟨a,WE ho b O⟩,HD ho h.map O,h.keys,λj t z=>?_,h.inj,h.out,h.fs,λu x=>?_,h.n1,h.n2,h.sW,h.pk⟩
 ·obtain⟨s,A,y,g,C,G,E⟩:=h.wd j t z;by_cases hjk:j=w/32
  ·subst hjk;refine⟨s,A,y,_,hb,by simpa using h32,λi hi=>?_⟩;rw[nB];by_cases hiw:w%32=i
   ·rw[zC hiw,zC O];simp only;rw[zC O]
   ·rw[zB hiw];simp only;rw[zB O];exact hcs i hi
  ·have d:B j≠B (w/32):=λe=>hjk (h.inj _ _ (h.mh z) hk e);refine⟨s,A,y,g,WE ho C d,G,λi hi=>?_⟩;rw[E i hi];simp only;rw[zB O]
 ·have:u≠w:=λe=>by subst e;exact x hk
  simp only;rw[zB this];exact h.zero u x
theorem MZ (h:dP U F p sp)(g:Gc U){w:Nat}(hw:w/32<sp.st.length)(v:Int){R:aP}(hR:∀σ',Ext F U σ'->dP σ' (Grow F U) p (nH sp w v)->R σ') :
 Zz.c (aW p) (w:Int) v U R:=by
 refine Zz.o ?_;unfold Zz.v;obtain⟨q,r,l,B,h⟩:=h;have X:=h.n2;have j:sp.st[w/32]?=some sp.st[w/32]:=cW hw;have tm:((w:Int).tmod 32)=((w%32:Nat):Int):=by rw[Kh O];simp
 have word:∀(u:Hp) (s':Sp) (l':List (Int×Sl)) (B':Nat->Nat),Ext F U u->fK u (Grow F U) p q r l' B' s'->s'.st[w/32]?=some 2->({s' with wd:=λz=>if z=w then v else s'.wd z}:Sp)=nH sp w v →
  bW (some ⟨p,0,none⟩) λW=>lO (W.add 1) u λP=>Lk .i64 .s P ((w/32:Nat):Int) u λE=>Nz 32<|Ix (E.getD ⟨none,0,0⟩).a (E.getD ⟨none,0,0⟩).len ((w:Int).tmod 32) 1 λZ=>dQ Z (.int .i64 v) u λv1=>R v1:=by
  intro u s' l' B' eu hu A he;refine bL (hu.rM ⟨l',hu.map,nz aB ?_⟩);obtain⟨s,hs,w1,w2,w3,cs,w4,w5,w6⟩:=hu.entry A;rw[hs,tm];simp only[qG];rw[w1];refine ix O O ?_;rw[add_lit,show 0+((w%32:Nat):Int).toNat*1=w%32 by omega];refine w4.s0 O λu2 o2 M=>?_;have h2:=hu.word (v:=v) A w5 o2 w6 M;rw[he]at h2;exact hR u2 (eu.dX o2.ext λb d=>by subst d;exact(hu.out _ A).1) ⟨_,_,_,_,h2⟩
 refine nz aB (cT (m:=w/32) (by rw[YS O];simp) O (Jn.intro (bL (h.rS λcap D=>ix O aC ?_))));rw[add_lit,show 0+((w/32:Nat):Int).toNat*2=2*(w/32) by omega];refine h.AM j (nZ (n:=true) g.d0 (nZ (n:=true) g.d1 ?_));have e0:(((gE sp.st[w/32]).1==true)&&(((gE sp.st[w/32]).2==true)&&true))=(sp.st[w/32]==2):=DN (h.sW _ (kv hw)) (y:=2) O;rw[e0];refine cN (λhd=>?_) λhd=>?_
 ·have C:sp.st[w/32]≠2:=by simpa using hd
  refine bL (h.rS λcap D=>nZ (n:=true) g.d0 (nZ (n:=true) g.d1 (ix O aC ?_)));rw[add_lit,show 0+((w/32:Nat):Int).toNat*2=2*(w/32) by omega];obtain⟨G,K⟩:=h.row;refine K.s1 (by rw[zK,V9];omega) λu1 o1 b1=>b1.s1 (by rw[oQ,zK,V9];omega) λu2 o2 M=>?_;rw[ko]at M;have V:bY u2 q (hO (sp.st.set (w/32) 2)++G):=by rw[←FL hw];exact M
  have e2:Ext (· = q) U u2:=o1.ext.trans o2.ext;obtain⟨c,hc,H⟩:=h.hd;have J:=e2.bV H h.fs.2.2.2.1;refine⟨λm=>bY m p [.slice (some ⟨q,0,none⟩) sp.st.length c,.map (some r),.int .i64 (sp.pk:Int)],J,bL ⟨some r,λm hm=>by rw[add_lit,hm.cell];rfl,?_⟩⟩;refine mk (n:=32) O O λu3 hz3 N b3=>⟨Ext.bV N J id,?_⟩;have ab:bY u3 u2.size (List.replicate 32 (.int .i64 0)):=b3;have q3:=Ext.bV N V id;have Y:=e2.fW h.map (λe=>h.fs.2.2.2.2.2 e.symm);refine⟨r,l,rfl,Ext.fW N Y id,λu4 o4 S=>?_⟩;have sz2:u2.size=U.size:=by rw[o2.1,o1.1]
  have hrlt:=h.map.lt;have hplt:=H.lt;have e4:Ext (λb=>b=q\/b=r) U u4:=((e2.sub λb d=>.inl d).trans (aF.to N)).trans (o4.ext.sub λb d=>.inr d);have L:=h.DG hw (by rw[j];simpa using C) (s:=⟨some ⟨u2.size,0,none⟩,32,32⟩) (b:=u2.size) e4 (λi _ hi=>hi) O (WE o4 q3 h.fs.2.2.2.2.2) S rfl rfl rfl (WE o4 ab O);obtain⟨c4,ac,x⟩:=L.hd;refine bL (x.rI rfl (bL (x.rM rfl ⟨_,L.map,bL ?_⟩)));rw[L.yi];have hcl:(sp.st.set (w/32) 2).count 2<=1024:=kx List.count_le_length (by simpa using X);have hpk:=h.pk;have hv:(if((List.count 2 (sp.st.set (w/32) 2):Nat):Int)>(sp.pk:Int)then((List.count 2 (sp.st.set (w/32) 2):Nat):Int)else(sp.pk:Int))=((max sp.pk ((sp.st.set (w/32) 2).count 2):Nat):Int):=by
   by_cases hgt:((List.count 2 (sp.st.set (w/32) 2):Nat):Int)>(sp.pk:Int)
   ·rw[zC hgt];omega
   ·rw[zB hgt];omega
  simp only;rw[hv];refine x.s1 aA λu5 o5 b5=>?_;have h5:=L.CW O o5 ac b5;have e5:Ext F U u5:=(e4.sub λb d=>by
   rcases d with rfl|rfl
   ·exact h.fs.2.1
   ·exact h.fs.2.2.1).trans (o5.ext.sub λb d=>by subst d;exact h.fs.1)
  refine word u5 _ _ _ e5 h5 (by simp only;rw[nB,zC rfl,zC hw]) ?_;unfold nH;rw[zB (by rw[zQ,j];exact C)]
 ·have aa:sp.st[w/32]=2:=by simpa using hd
  rw[aa]at j;have Q:fK U (Grow F U) p q r l B sp:={h with out:=λk A=>⟨.inl (h.out k A).1,(h.out k A).2⟩,fs:=⟨.inl h.fs.1,.inl h.fs.2.1,.inl h.fs.2.2.1,h.fs.2.2.2⟩};refine word U sp l B (Ext.refl _ _) Q j ?_;unfold nH;rw[zC (by rw[zQ,j];rfl)];have:sp.st.set (w/32) 2=sp.st:=by
   apply zt;intro i;rw[nB];by_cases hi:w/32=i
   ·subst hi;rw[zC rfl,zC hw,j]
   ·rw[zB hi]
  rw[this]
theorem TM (h:dP U F p sp)(g:Gl U)(gd:Gc U)(x:Int)(hx:x<=9223372036854775807)(v:Int){R:aN}(hR:∀σ',Ext F U σ'->dP σ' (Grow F U) p (ZI sp x v)->R (eO sp x) σ') :
 YK.c (aW p) x v U R:=by
 refine YK.o ?_;unfold YK.v;have i:dP U (Cut F U) p sp:=dN.cut dP.loc h;refine Fh h g x hx λA e=>?_;have w:=i.bP e;have C:=g.bP e;refine cN (λs=>?_) λs=>?_
 ·have r:¬eO sp x=0:=by simpa using s
  refine hR A (aF.to e) ?_;unfold ZI;rw[zB r];exact dN.mono dP.loc w λb _ a=>.inl a.1
 ·have d:eO sp x=0:=by simpa using s
  have j:0<=x/\sp.st.getD (x.toNat/256) 0≠0:=by
   unfold eO at d;by_cases a:x<0\/x%8≠0
   ·rw[zC a]at d;cases d
   ·rw[zB a]at d;by_cases hz:sp.st.getD (x.toNat/256) 0=0
    ·rw[zC hz]at d;cases d
    ·exact⟨O,hz⟩
  obtain⟨y,rfl⟩:=zc j.1;have u:y/8/32<sp.st.length:=by
   rcases kr (y/256) sp.st.length with h|h
   ·omega
   ·exact absurd (by rw[zQ,zX (by simpa using h)];rfl) j.2
  refine nz aB (cT (m:=y/8) (by rw[YS O];simp) O (MZ w (gd.bP e) u v λz e2 B=>?_));have:=hR z (Ext.cut ((aF.to e).trans e2)) ?_
  ·rw[d]at this;exact this
  ·unfold ZI;rw[zC d];exact dN.mono dP.loc B λb _ a=>by
    rcases a with a|a
    ·exact .inl a.1
    ·exact .inr (kx e.1 a)
def V8 (n:Nat):Sp:=⟨List.replicate n 0,λ_=>0,0⟩
theorem Pw {U:Hp}{F:Rg}{p q r n c:Nat}(h1:1<=n)(h2:n<=1024)(hc:n<=c)(hd:bY U p [.slice (some ⟨q,0,none⟩) n c,.map (some r),.int .i64 0])(hq:bY U q (hO (List.replicate n 0)))(hr:dL U r .i64 .s [])
 (hF:F p/\F q/\F r) (hne:p≠q/\p≠r/\q≠r):fK U F p q r [] (λ_=>0) (V8 n):=by
 have b:∀k:Nat,(List.replicate n 0)[k]?≠some 2:=λk a=>by
  rw[m6]at a;split at a<;>cases a
 refine⟨⟨c,by simpa[V8]using hc,by simpa[V8]using hd⟩,⟨[],by simpa[V8]using hq⟩,hr,λx=>?_,λk s g=>(by cases g),λk i h1=>absurd h1 (b k),λk a=>absurd a (b k),⟨hF.1,hF.2.1,hF.2.2,hne⟩,λw _=>rfl,by simpa[V8]using h1,by simpa[V8]using h2,λx d=>?_,by simp[V8]⟩
 ·constructor
  ·intro h;cases h
  ·rintro⟨k,_,a⟩;exact absurd a (b k)
 ·have:=CI d;omega
theorem OY {n:Nat}(h1:1<=n)(h2:n<=1024){R:Option Addr->Int->Hp->Prop}(hR:∀σ' p',aF U σ'->U.size<=p'->dP σ' (λb=>U.size<=b) p' (V8 n)->R (some ⟨p',0,none⟩) 0 σ'):Kz.c (n:Int) U R:=by
 refine Kz.o ?_;unfold Kz.v;refine bX.intro (fZ O ?_);rw[zJ O];refine cD rfl (mk O O λd y e1 m=>uh λw x e2 r=>nw (cs:=[.slice (some ⟨U.size,0,none⟩) n n,.map (some d.size),.int .i64 0]) λg u a i=>?_);have j:=Ext.bV a (Ext.bV e2 m id) id;have p:=Ext.fW a (r .i64 .s) id;refine hR g _ (Ext.trans (Ext.trans e1 e2) a) O ⟨U.size,d.size,[],_,Pw h1 h2 (zD _) i ?_ p ⟨O,O,O⟩ O⟩;rw[LM];exact j
end Go.Ar