/- Texts joined. -/
import Derived.Lib.Overlaps
import Derived.Laws.Externs
import Derived.Test.YtoeidadjhkkioaaGreatDoorU2
set_option linter.unusedVariables false
set_option linter.unusedSimpArgs false
namespace Go.Proofs
open Go.Vc
set_option maxRecDepth 100000
def Z0.h:Hn:=.q .o1 (.q (.q (.cU (.seq [.op,.op,.op,.op,.cX false 3 (RI.ops 3)])) .aK) (.q (.q .o3 (.k (.loop [(15,.I)] (.q .o1 (.q (.c .l .l) (.q (.k (.q .o6 (.q (.cU (.gN true [1] [(37,.one .b)] (.take 0 (.all [(1,.take 2 (.take 3 (.split 23 (.take 4 (.take 5 (.take 6 (.take 7 (.take 8 (.take 9 (.take 10 (.take 11 (.take 12 (.take 13 (.take 14 (.take 15 (.take 16 (.take 17 (.done))))))))))))))) (.take 4 (.take 5 (.take 6 (.split 26 (.take 7 (.take 9 (.take 10 (.take 11 (.take 12 (.take 13 (.all [(8,.all [(14,.take 15 (.take 16 (.take 17 (.done))))]),(14,.all [(8,.take 15 (.take 16 (.take 17 (.done))))])]))))))) (.take 7 (.take 8 (.take 9 (.take 10 (.take 11 (.take 12 (.take 13 (.take 14 (.take 15 (.take 16 (.take 17 (.done)))))))))))))))))))])))) .aK))) .o2)))))) .aM))
def Z0.v (a:Sl)(b:Hp)(c:aO):Prop:=bX (λd e=>If d (c false e) (Yf [bO] (λf=>f 0 e) λg (h:Int) i=>If (h<((a.len:Nat):Int)) (Ix a.a a.len h 3 λj=>aQ j 0 i λk=>aQ j 1 i λl=>aQ j 2 i λm=>aV #[.I 0,.I 0,.I 0] 149 i λn o=>aR n 0 (.I k) o λp=>aR n 1 (.I l) p λq=>aR n 2 (.I m) q λr=>Jn [.b] (λ(s:Bool) t=>If s (c false t) (bM (h+1) λu=>g u t)) λv=>dY r λw=>aS w n 0 λx=>aS w n 1 λy=>aS w n 2 λz=>Kg.c x y z r λaa ab=>If (!aa) (v true ab) (If (h>0) (bM (h-1) λac=>Ix a.a a.len ac 3 λad=>(aQ n 0 ab λae=>aQ ad 0 ab λaf=>v (decide (ae<=af)) ab) ∧ (aQ ad 0 ab λag=>aQ n 0 ab λah=>v (decide (ah<=ag)) ab)) (v false ab))) (c true i))) λai=>If (((a.len:Nat):Int)<1) (ai true b) (ai (decide (((a.len:Nat):Int)>40)) b)
theorem Z0.o {a b c}(d:Z0.v a b c):Z0.c a b c:=Wa Tryz.func151 (x:=Z0.h) (R0 d)
def QL.h:Hn:=.q .o4 (.q (.k (.q .o4 (.c .aL (.q (.cU (.gN true [] [(13,.one .b)] (.tk [0,1,2] (.split 16 (.tk [3,4,5,6,7,8,9,10,11,12,13,14,15,16] (.done)) (.tk [3,4,5,6] (.split 20 (.tk [7,8,9,10,11,12,13,14,15,16] (.done)) (.tk [7,8,9,10] (.split 24 (.tk [11,12,13,14,15,16] (.done)) (.take 11 (.take 13 (.all [(12,.take 14 (.take 15 (.take 16 (.done))))]))))))))))) .aJ)))) (.q .o4 (.q (.q .o2 .aJ) (.q .o3 .l))))
def QL.v (a:Sl)(b c:Int)(d:Hp)(e:Int->Int->Hp->Prop):Prop:=aV #[.I b] 3 d λf g=>aV #[.I c] 3 g λh i=>Z0.c a i λj k=>If (!j) (e 0 2 k) (Jn [.b] (λ(l:Bool) m=>If l (e 0 1 m) (Ws.c a ⟨228,#[],#[.pointer (some f),.pointer (some h)]⟩ m λn o=>If (n<0) (e 0 4 o) (e n 0 o))) λp=>dY k λq=>gJ q bO f λ(r:Int)=>If (r<1) (p true k) (gJ q bO h λ(s:Int)=>If (s<1) (p true k) (gJ q bO h λ(t:Int)=>If (t>256) (p true k) (gJ q bO h λ(u:Int)=>gJ q bO h λ(v:Int)=>QM.c u k λw x=>And (q x) <| p (w != v) x))))
theorem QL.o {a b c d e}(f:QL.v a b c d e):QL.c a b c d e:=Wa Tryz.func164 (x:=QL.h) (R0 f)
def Kg.h:Hn:=.q .o2 (.q (.cU (.seq [.op,.op,.op,.op,.cX true 3 (RI.ops 3),.op,.cX true 4 (RI.ops 4),.op,.cX true 3 (RI.ops 3),.op,.cX true 3 (RI.ops 3),.op,.cX true 6 (RI.ops 6),.op,.cX true 3 (RI.ops 3),.op,.cX true 3 (RI.ops 3),.op])) .l)
def Kg.v (a b c:Int)(d:Hp)(e:aO):Prop:=aV #[.I a,.I b,.I c] 149 d λf g=>aQ f 0 g λh=>bX (λi j=>bX (λk l=>bX (λm n=>bX (λo p=>bX (λq r=>bX (λs t=>bX (λu v=>e u v) λw=>If s (aQ f 2 t λx=>w (decide (x<=32)) t) (w false t)) λy=>If q (aQ f 2 r λz=>y (decide (z≥1)) r) (y false r)) λaa=>If o (aQ f 1 p λab=>bM (ab*256) λac=>aQ f 0 p λad=>aa (decide (ac≥ad)) p) (aa false p)) λae=>If m (aQ f 1 n λaf=>ae (decide (af<=4)) n) (ae false n)) λag=>If k (aQ f 1 l λah=>ag (decide (ah≥1)) l) (ag false l)) λai=>If i (aQ f 0 j λaj=>Nz 8 <| ai ((aj.tmod 8)==0) j) (ai false j)) λak=>If (h≥8) (aQ f 0 g λal=>ak (decide (al<=512)) g) (ak false g)
theorem Kg.o {a b c d e}(f:Kg.v a b c d e):Kg.c a b c d e:=Wa Tryz.func195 (x:=Kg.h) (R0 f)
def Z3.h:Hn:=.q .o2 (.q .o7 .l)
def Z3.v (a b c:Int)(d:Hp)(e:aN):Prop:=aV #[.I a,.I b,.I c] 149 d λf g=>aQ f 1 g λh=>bM (h*256) λi=>aQ f 0 g λj=>Nz j<|bM (i.tdiv j) λk=>e k g
theorem Z3.o {a b c d e}(f:Z3.v a b c d e):Z3.c a b c d e:=Wa Tryz.func196 (x:=Z3.h) (R0 f)
def QM.h:Hn:=.q .o1 (.q .o1 (.q (.q .o1 (.k (.loop [(3,.I),(4,.I)] (.q (.q .o3 (.c .l .l)) (.q (.k .o2) .o3))))) .aL))
def QM.v (a:Int)(b:Hp)(c:aN):Prop:=Yf [bO,bO] (λd=>d 0 1 b) λe (f:Int) (g:Int) h=>If (g<=a) (bM (g*2) λi=>e g i h) (c f h)
theorem QM.o {a b c}(d:QM.v a b c):QM.c a b c:=Wa Tryz.func226 (x:=QM.h) (R0 d)
def Qj.h:Hn:=.q .o2 (.q (.cU (.seq [.op,.op,.op,.op,.op,.cX true 5 (RI.ops 5),.op])) .l)
def Qj.v (a b c:Int)(d e:Addr)(f:Hp)(g:aO):Prop:=aV #[.I a,.I b,.I c] 149 f λh i=>aQ h 0 i λj=>bN d i λk=>bX (λl m=>g l m) λn=>If (j≥k) (aQ h 0 i λo=>bN e i λp=>Nz p <| n ((o.tmod p)==0) i) (n false i)
theorem Qj.o {a b c d e f g}(h:Qj.v a b c d e f g):Qj.c a b c d e f g:=Wa Tryz.func228 (x:=Qj.h) (R0 h)
def ZV.h:Hn:=.q .o3 (.q (.q .o3 .aJ) (.q .o4 .l))
def ZV.v (a b c:Int)(d:Hp)(e:Int->Int->Hp->Prop):Prop:=aV #[.I a,.I b,.I c] 149 d λf g=>aQ f 0 g λh=>aQ f 1 g λi=>aQ f 2 g λj=>Kg.c h i j g λk l=>If (!k) (e 0 1 l) (aQ f 0 l λm=>aQ f 1 l λn=>aQ f 2 l λo=>Z3.c m n o l λp q=>e p 0 q)
theorem ZV.o {a b c d e}(f:ZV.v a b c d e):ZV.c a b c d e:=Wa Tryz.func274 (x:=ZV.h) (R0 f)
end Go.Proofs
namespace Go.Ar
open Go Go.Vc Go.Proofs
variable {U:Hp}
theorem LA (x y z:Int){R:aO}(hR:∀σ',aF U σ'->R (US x y z) σ'):Kg.c x y z U R:=by
 refine Kg.o ?_;unfold Kg.v;refine nw (cs:=[.int .i64 x,.int .i64 y,.int .i64 z]) λh A e b=>?_;have s:US x y z=false->R false h:=λd=>d▸hR h e;have a:¬(8<=x/\x<=512/\x%8=0/\1<=y/\y<=4/\x<=y*256/\1<=z/\z<=32)->R false h:=λd=>s (by rw[←rY,HF];exact d);refine b.rI rfl (bX.intro ?_);refine cP (λj=>b.rI rfl (bX.intro ?_)) λj=>?_
 case refine_2=>
  iterate 6 refine bX.intro (cD rfl ?_)
  exact a O
 refine cP (λr=>b.rI rfl (nz aB (bX.intro ?_))) λr=>?_
 case refine_2=>
  iterate 5 refine bX.intro (cD rfl ?_)
  exact a O
 rw[Q1 O];refine cO (λg=>b.rI rfl (bX.intro ?_)) λg=>?_
 case refine_2=>
  have:¬x%8=0:=by simpa using g
  iterate 4 refine bX.intro (cD rfl ?_)
  exact a O
 have i:x%8=0:=by simpa using g
 refine cP (λw=>b.rI rfl (bX.intro ?_)) λw=>?_
 case refine_2=>
  iterate 3 refine bX.intro (cD rfl ?_)
  exact a O
 refine cP (λm=>b.rI rfl (ar O O (b.rI rfl (bX.intro ?_)))) λm=>?_
 case refine_2=>
  iterate 2 refine bX.intro (cD rfl ?_)
  exact a O
 refine cP (λp=>b.rI rfl (bX.intro ?_)) λp=>?_
 case refine_2=>exact bX.intro (cD rfl (a O))
 refine cP (λu=>b.rI rfl ?_) λu=>a O;have:decide (z<=32)=US x y z:=by
  rw[kW,HF];simp;omega
 rw[this];exact hR h e
theorem Ε {c:cA}(hc:c.ok){R:aN}(hR:∀σ',aF U σ'->R (c.n:Int) σ'):Z3.c c.size c.aG c.batch U R:=by
 refine Z3.o ?_;unfold Z3.v;have h:=hc;unfold cA.ok at h;refine nw (cs:=[.int .i64 c.size,.int .i64 c.aG,.int .i64 c.batch]) λh b e a=>?_;refine a.rI rfl (cT (m:=c.aG*256) aA O (a.rI rfl (nz O ?_)));refine cT (m:=c.n) ?_ (by have:=hc.kP;omega) (hR _ e);rw[Ye O];simp[cA.n]
theorem Fc (x y z:Int){R:Int->Int->Hp->Prop}(h1:∀c:cA,c.ok->x=c.size->y=c.aG->z=c.batch->∀σ',aF U σ'->R (c.n:Int) 0 σ')(h0:US x y z=false->∀σ',aF U σ'->R 0 1 σ'):ZV.c x y z U R:=by
 refine ZV.o ?_;unfold ZV.v;refine nw (cs:=[.int .i64 x,.int .i64 y,.int .i64 z]) λh m e b=>?_;refine b.rI rfl (b.rI rfl (b.rI rfl (LA _ _ _ λj e2=>?_)));have a:=e2.bV b id;cases hk:US x y z
 ·exact cE rfl (h0 hk _ (e.trans e2))
 ·obtain⟨c,d,_,rfl,rfl,rfl⟩:=Bc hk;exact cD rfl (a.rI rfl (a.rI rfl (a.rI rfl (Ε d λi g=>h1 c d rfl rfl rfl _ ((e.trans e2).trans g)))))
end Go.Ar
namespace Go.Proofs
open Go.Vc
set_option maxRecDepth 100000
def Vk.h:Hn:=.q .o2 (.q (.q (.cU (.seq [.op,.op,.op,.cX false 2 [.op,.op],.op,.cX false 3 (RI.ops 3)])) .aJ) (.q .o6 .l))
def Vk.v (a:Int)(b:Hp)(c:Option Addr->Int->Hp->Prop):Prop:=bX (λd e=>bX (λf g=>If f (c none 1 g) (Mk a a 8 3 [.I 0] g λh i=>aV #[.slice h.a h.len h.cap] 342 i λj k=>c (some j) 0 k)) λl=>If d (l true e) (Nz 16 <| l ((a.tmod 16) != 0) e)) λm=>If (a<16) (m true b) (m (decide (a>1024)) b)
theorem Vk.o {a b c}(d:Vk.v a b c):Vk.c a b c:=Wa Tryz.func211 (x:=Vk.h) (R0 d)
def XN.h:Hn:=.q .o1 (.q .o6 .l)
def XN.v (a:R2)(b c:Int)(d:Hp)(e:aN):Prop:=aV #[.I 1] 3 d λf g=>XY.c a b c 2 ⟨some f,1,1⟩ g λh i=>e h i
theorem XN.o {a b c d e}(f:XN.v a b c d e):XN.c a b c d e:=Wa Tryz.func245 (x:=XN.h) (R0 f)
def XF.h:Hn:=.q .o1 (.q (.cU (.seq [.op,.op,.op,.cX true 6 (RI.ops 6),.op])) .l)
def XF.v (a:R2)(b:Hp)(c:aO):Prop:=bX (λd e=>c d e) λf=>If (!a.isNone) (bF a 0 b λh=>f (decide (((h.len:Nat):Int)>0)) b) (f false b)
theorem XF.o {a b c}(d:XF.v a b c):XF.c a b c:=Wa Tryz.func249 (x:=XF.h) (R0 d)
def Zd.h:Hn:=.q .o1 (.q .o7 .l)
def Zd.v (a:R2)(b:Hp)(c:aN):Prop:=bF a 0 b λe=>Nz 16<|bM (((e.len:Nat):Int).tdiv 16) λf=>c f b
theorem Zd.o {a b c}(d:Zd.v a b c):Zd.c a b c:=Wa Tryz.func250 (x:=Zd.h) (R0 d)
def Zr.h:Hn:=.q .o1 (.q (.o 11) .l)
def Zr.v (a:R2)(b:Int)(c:Hp)(d:Sl->Hp->Prop):Prop:=bF a 0 c λf=>bM (b*16) λg=>bM (b+1) λh=>bM (h*16) λi=>fH f 1 g i (f.cap:Nat) λj=>d j c
theorem Zr.o {a b c d}(e:Zr.v a b c d):Zr.c a b c d:=Wa Tryz.func252 (x:=Zr.h) (R0 e)
def XY.h:Hn:=.q .o2 (.q (.k (.q .o4 (.c .aM (.q (.cU (.seq [.op,.op,.op,.cX false 2 [.op,.op],.op,.cX false 7 (RI.ops 7),.op,.cX false 9 (RI.ops 9),.op])) .aK)))) (.q .gA (.q (.q .o3 .aK) (.q .o3 .aM))))
def XY.v (a:R2)(b c d:Int)(e:Sl)(f:Hp)(g:aN):Prop:=aV #[.slice e.a e.len e.cap] 31 f λh i=>XF.c a i λj k=>If (!j) (g 5 k) (bX (λl m=>bX (λn o=>bX (λp q=>If p (g 1 q) (bF a 0 q λs=>bM (b+c) λt=>fH s 1 b t (s.cap:Nat) λu=>WQ.c u ⟨305,#[],#[.pointer (some h)]⟩ q λv w=>If v (g 5 w) (Q3.c u d w λx=>g 0 x))) λy=>If n (y true o) (bF a 0 o λaa=>bM (((aa.len:Nat):Int)-b) λab=>y (decide (c>ab)) o)) λac=>If l (ac true m) (bF a 0 m λae=>ac (decide (b>((ae.len:Nat):Int))) m)) λaf=>If (b<0) (af true k) (af (decide (c<1)) k))
theorem XY.o {a b c d e f g}(h:XY.v a b c d e f g):XY.c a b c d e f g:=Wa Tryz.func256 (x:=XY.h) (R0 h)
def YL.h:Hn:=.q .o2 (.q (.k (.q .o4 (.c .aL (.q (.cU (.seq [.op,.op,.op,.cX false 4 (RI.ops 4),.op])) .aJ)))) (.q .o5 .l))
def YL.v (a:R2)(b:Int)(c:Hp)(d:Sl->Int->Hp->Prop):Prop:=XF.c a c λe f=>If (!e) (d ⟨none,0,0⟩ 5 f) (bX (λg h=>If g (d ⟨none,0,0⟩ 1 h) (Zr.c a b h λi j=>d i 0 j)) λk=>If (b<0) (k true f) (Zd.c a f λl m=>k (decide (b≥l)) m))
theorem YL.o {a b c d}(e:YL.v a b c d):YL.c a b c d:=Wa Tryz.func259 (x:=YL.h) (R0 e)
def Q3.h:Hn:=.q .o3 (.k (.loop [(7,.I)] (.q .o1 (.q (.c .l .l) (.q (.k (.q .o2 .o5)) .o2)))))
def Q3.v (a:Sl)(b:Int)(c:Hp)(d:aP):Prop:=Yf [bO] (λe=>e 0 c) λf (g:Int) h=>If (g<((a.len:Nat):Int)) (Ix a.a a.len g 1 λi=>dQ i (.I b) h λj=>bM (g+1) λk=>f k j) (d h)
theorem Q3.o {a b c d}(e:Q3.v a b c d):Q3.c a b c d:=Wa Tryz.func261 (x:=Q3.h) (R0 e)
def XV.h:Hn:=.q .o1 (.q .o6 .l)
def XV.v (a:R2)(b c:Int)(d:Hp)(e:aN):Prop:=aV #[.I 2,.I 3] 3 d λf g=>XY.c a b c 1 ⟨some f,2,2⟩ g λh i=>e h i
theorem XV.o {a b c d e}(f:XV.v a b c d e):XV.c a b c d e:=Wa Tryz.func288 (x:=XV.h) (R0 f)
def YP.h:Hn:=.q .o1 (.q .o5 .l)
def YP.v (a:Int)(b:Addr)(c:Hp)(d:aO):Prop:=jH b c λe=>Wv.c e a c λf g=>d (!f) g
theorem YP.o {a b c d}(e:YP.v a b c d):YP.c a b c d:=Wa Tryz.func305 (x:=YP.h) (R0 e)
def Yc.h:Hn:=.q .o1 (.q (.q (.cU (.seq [.op,.op,.op,.op,.cX false 2 [.op,.op],.op,.cX false 7 (RI.ops 7)])) .aK) (.q .o8 .l))
def Yc.v (a:R2)(b:Int)(c:Hp)(d:aN):Prop:=XF.c a c λe f=>bX (λg h=>bX (λi j=>If i (d (-1) j) (bF a 0 j λl=>Ix l.a l.len b 1 λm=>bN m j λn=>d n j)) λo=>If g (o true h) (bF a 0 h λq=>o (decide (b≥((q.len:Nat):Int))) h)) λr=>If (!e) (r true f) (r (decide (b<0)) f)
theorem Yc.o {a b c d}(e:Yc.v a b c d):Yc.c a b c d:=Wa Tryz.func314 (x:=Yc.h) (R0 e)
def Yw.h:Hn:=.q .o1 (.q .o8 (.q (.k (.q .o3 (.c .aL (.q .o5 .aK)))) (.q .o2 .aM)))
def Yw.v (a:R2)(b:Int)(c:Hp)(d:aN):Prop:=YL.c a b c λe f g=>If (f != 0) (d f g) (Ix e.a e.len 0 1 λh=>bN h g λi=>If (i != 0) (d 5 g) (Q3.c e 3 g λj=>d 0 j))
theorem Yw.o {a b c d}(e:Yw.v a b c d):Yw.c a b c d:=Wa Tryz.func319 (x:=Yw.h) (R0 e)
end Go.Proofs
namespace Go.Ar
open Go Go.Vc Go.Proofs
open Go.Bu (ZH)
variable {U:Hp}{F:Rg}{p q:Nat}{st:List Nat}
structure il (U:Hp) (p q:Nat) (st:List Nat):Prop where
 hd:∃cap,st.length<=cap/\bY U p [.slice (some ⟨q,0,none⟩) st.length cap]
 row:∃rest,bY U q (ints st++rest)
 ne:p≠q
 n1:16<=st.length
 n2:st.length<=1024
 n3:st.length%16=0
theorem il.bS {σ':Hp}(h:il U p q st)(e:Ext F U σ')(hp:¬F p)(hq:¬F q):il σ' p q st:=
 ⟨by obtain⟨c,a,b⟩:=h.hd;exact⟨c,a,e.bV b hp⟩,by obtain⟨r,a⟩:=h.row;exact⟨r,e.bV a hq⟩,h.ne,h.n1,h.n2,h.n3⟩
theorem il.bP {σ':Hp}(h:il U p q st)(e:aF U σ'):il σ' p q st:=h.bS e id id
theorem il.lt (h:il U p q st):p<U.size/\q<U.size:=by
 obtain⟨_,_,b⟩:=h.hd;obtain⟨_,a⟩:=h.row;exact⟨b.lt,a.lt⟩
theorem il.rS (h:il U p q st){K:Sl->Prop}(hK:∀cap,st.length<=cap->K ⟨some ⟨q,0,none⟩,st.length,cap⟩):jH (Addr.add ⟨p,0,none⟩ 0) U K:=by
 obtain⟨c,a,b⟩:=h.hd;exact b.rS rfl (hK c a)
theorem il.part (h:il U p q st){s:Sl}{a n:Nat}(ha:s.a=some ⟨q,a,none⟩)(hn:s.len=n)(hl:a+n<=st.length):cV s 1 (ints ((st.drop a).take n)) U (· = q):=by
 obtain⟨r,g⟩:=h.row;have b:((st.drop a).take n).length=n:=by simp;omega
 refine g.fW ha (by rw[Kn,b,hn];simp) λj d=>?_;rw[Kn,b]at d;rw[zd (by rw[Kn];omega)];simp[ints,zm,d,lB]
theorem jU {b o n c:Nat}{cs:List Value}(hb:bY U b cs)(hl:o+n<=cs.length)(hn:n<=1000000)(v:Nat){R:aP}
 (hR:∀σ',Kb U σ' b->bY σ' b (cs.take o++List.replicate n (.int .i64 (v:Int))++cs.drop (o+n))->R σ'):Q3.c ⟨some ⟨b,o,none⟩,n,c⟩ v U R:=by
 refine Q3.o ?_;unfold Q3.v;refine Qz (a:=bO) (λ(t:Int) p=>∃i:Nat,t=(i:Int)/\i<=n/\Kb U p b/\bY p b (cs.take o++List.replicate i (.int .i64 (v:Int))++cs.drop (o+i))) (λt _=>n-t.toNat) ⟨0,rfl,O,⟨rfl,λ_ _=>rfl⟩,by simpa using hb⟩ ?_;rintro t p ⟨i,rfl,hi,s,g⟩;refine cP (λr=>?_) λu=>?_
 ·simp only at r;refine ix O aC ?_;rw[add_lit];refine g.s0 aE λx d j=>?_;refine cT (m:=i+1) O O ⟨⟨i+1,rfl,O,⟨d.1.trans s.1,λk w=>(d.2 k w).trans (s.2 k w)⟩,?_⟩,O⟩;have:(cs.take o++List.replicate i (Value.int .i64 (v:Int))++cs.drop (o+i)).set (o+(i:Int).toNat*1) (Value.int .i64 (v:Int))=cs.take o++List.replicate (i+1) (Value.int .i64 (v:Int))++cs.drop (o+(i+1)):=by
   rw[C3 _ _ aE];have e:o+(i:Int).toNat*1-(cs.take o++List.replicate i (Value.int .i64 (v:Int))).length=0:=by simp;omega
   rw[e,xK O,List.set_cons_zero,Dv];simp[zl,ym]
  rw[this]at j;exact j
 ·simp only at u;have:i=n:=by omega
  subst this;exact hR p s g
theorem il.fill (h:il U p q st){a n:Nat}{r:List Value}{σ':Hp}{v:Nat}(hrow:bY U q (ints st++r))(hl:a+n<=st.length)(ho:Kb U σ' q)
 (hb:bY σ' q ((ints st++r).take a++List.replicate n (.int .i64 (v:Int))++(ints st++r).drop (a+n))):il σ' p q (gF st a (a+n) v):=by
 obtain⟨c,d,i⟩:=h.hd;have b:=Vo st a (a+n) v;refine⟨⟨c,by rw[b];exact d,?_⟩,⟨r,?_⟩,h.ne,by rw[b];exact h.n1,by rw[b];exact h.n2,by rw[b];exact h.n3⟩
 ·rw[b];exact WF ho i h.ne
 ·rw[Sy O hl,Hv,Hv];have e1:(ints st++r).take a=ints (st.take a):=by
   rw[qg (by rw[Kn];omega)];simp[ints]
  have e2:(ints st++r).drop (a+n)=ints (st.drop (a+n))++r:=by
   rw[List.drop_append_of_le_length (by rw[Kn];omega)];simp[ints]
  have g:ints (List.replicate (a+n-a) v)=List.replicate n (.int .i64 (v:Int)):=by
   rw[BQ];simp[ints]
  rw[e1,e2]at hb;rw[g];simpa[zl]using hb
theorem il.jU (h:il U p q st){a n c:Nat}(hl:a+n<=st.length)(v:Nat){R:aP}(hR:∀σ',Ext (· = q) U σ'->il σ' p q (gF st a (a+n) v)->R σ') :
 Q3.c ⟨some ⟨q,a,none⟩,n,c⟩ v U R:=by
 obtain⟨r,b⟩:=h.row;have:=h.n2;exact Ar.jU b (by simp[Kn];omega) O v λσ' d g=>hR σ' d.ext (h.fill b hl d g)
theorem Ef (h:il U p q st){R:aO}(hR:R true U):XF.c (aW p) U R:=by
 refine XF.o ?_;unfold XF.v;refine bX.intro (cE rfl (bL (h.rS λcap _=>?_)));have:=h.n1;rw[zI aC];exact hR
theorem SL (h:il U p q st){R:aN}(hR:R ((st.length/16:Nat):Int) U):Zd.c (aW p) U R:=by
 refine Zd.o ?_;unfold Zd.v;have:=h.n2;refine bL (h.rS λcap _=>nz aB ?_);refine cT (m:=st.length/16) ?_ O hR;rw[Ye O];simp
theorem LP (h:il U p q st){k:Nat}(hk:16*k+16<=st.length){R:Sl->Hp->Prop}(hR:∀c,R ⟨some ⟨q,16*k,none⟩,16,c⟩ U):Zr.c (aW p) (k:Int) U R:=by
 refine Zr.o ?_;unfold Zr.v;have:=h.n2;refine bL (h.rS λcap a=>?_);refine cT (m:=16*k) O O (cT (m:=k+1) O O (cT (m:=16*k+16) O O ?_));refine jy O aC aC ?_;have e:16*k+16-16*k=16:=by omega
 rw[zB aC,e];simp only[zg,add_lit,nA,zH];exact hR _
theorem RK (h:il U p q st)(k:Int){R:Sl->Int->Hp->Prop}(h1:∀(x:Nat) c,k=(x:Int)->16*x+16<=st.length->R ⟨some ⟨q,16*x,none⟩,16,c⟩ 0 U)(h0:vC st.length k=false->R ⟨none,0,0⟩ 1 U) :
 YL.c (aW p) k U R:=by
 refine YL.o ?_;unfold YL.v;have n3:=h.n3;refine Ef h (cD rfl (bX.intro (cP (λa=>cE rfl (h0 ?_)) λa=>SL h ?_)))
 ·simp[vC];omega
 ·refine cP (λd=>h0 ?_) λb=>?_
  ·simp[vC];omega
  ·obtain⟨x,rfl⟩:=zc (show 0<=k by omega);exact LP h O λc=>h1 x c rfl O
theorem FC {n x:Nat}(h:16*x+16<=n):vC n (x:Int)=true:=by simp[vC];omega
theorem il.first (h:il U p q st){x c:Nat}(hx:16*x+16<=st.length){K:Int->Prop}(hK:K ((st.getD (16*x) 0:Nat):Int)) :
 Ix (some ⟨q,16*x,none⟩) 16 0 1 λa=>gI .i64 a U K:=by
 have b:=h.part (s:=⟨some ⟨q,16*x,none⟩,16,c⟩) (n:=16) rfl rfl hx;refine b.tC (i:=0) (x:=st.getD (16*x) 0) ?_ hK;simp[zm,lB,zQ];rw[cW O];simp
theorem PM (h:il U p q st)(k:Int){R:aN}(hR:∀σ',Ext (· = q) U σ'->il σ' p q (jb st k)->R (kJ st k) σ'):Yw.c (aW p) k U R:=by
 refine Yw.o ?_;unfold Yw.v;refine RK h k (λx c d g=>?_) λd=>?_
 ·subst d;have b:=FC g;refine cD rfl (h.first (c:=c) g (cO (λi=>?_) λi=>?_))
  ·have e1:¬st.getD (16*x) 0=0:=by simpa using i
   have:kJ st (x:Int)=5:=by simp only[kJ,b,dH,zT,zB e1]
   have e2:jb st (x:Int)=st:=by simp[jb,this]
   have:=hR U (Ext.refl _ _);rw[e2]at this;simpa[*]using this h
  ·have e1:st.getD (16*x) 0=0:=by simpa using i
   have a:kJ st (x:Int)=0:=by simp only[kJ,b,dH,zT,e1]
   have e2:jb st (x:Int)=gF st (16*x) (16*x+16) 3:=by simp[jb,a]
   refine h.jU g 3 λσ' e j=>?_;have:=hR σ' e;rw[a,e2]at this;exact this j
 ·have a:kJ st k=1:=by simp[kJ,d]
  have e2:jb st k=st:=by simp[jb,a]
  refine cE rfl ?_;have:=hR U (Ext.refl _ _);rw[a,e2]at this;exact this h
theorem IL {s:Sl}{xs:List Nat}(h:cV s 1 (ints xs) U F)(hl:xs.length<=1000000)(v:Nat){R:aN}(h1:∀i:Nat,xs[i]?=some v->(∀j:Nat,j<i->xs[j]?≠some v)->R (i:Int) U)(h0:v∉xs->R (-1) U) :
 W3.c s (v:Int) U R:=by
 refine W3.o ?_;unfold W3.v;have w:=h.oS;refine Qz (a:=bO) (λ(t:Int) x=>∃i:Nat,t=(i:Int)/\i<=xs.length/\x=U/\∀j,j<i->xs[j]?≠some v) (λt _=>xs.length-t.toNat) ⟨0,rfl,O,rfl,λj d=>O⟩ ?_;rintro t x ⟨i,rfl,hi,rfl,b⟩;refine cP (λz=>?_) λy=>?_
 ·have r:i<xs.length:=by omega
  have p:xs[i]?=some xs[i]:=cW r;refine h.tC p ?_;rw[lX];refine cO (λu=>?_) λu=>?_
  ·have:v=xs[i]:=by simpa using u
   exact h1 i (by rw[p,this]) b
  ·have g:¬v=xs[i]:=by simpa using u
   refine cT (m:=i+1) O O ⟨⟨i+1,rfl,O,rfl,λj d=>?_⟩,O⟩;by_cases e:j=i
   ·subst e;rw[p];intro e2;cases e2;exact g rfl
   ·exact b j O
 ·refine h0 λA=>?_;obtain⟨j,d⟩:=zP A;have:=(cY.1 d).1;exact b j O d
theorem SO {s:Sl}{xs:List Nat}(h:cV s 1 (ints xs) U F)(hl:xs.length<=1000000)(v:Nat){R:aO}(hR:R (xs.contains v) U):Wv.c s (v:Int) U R:=by
 refine Wv.o ?_;unfold Wv.v;refine IL h hl v (λi hi _=>?_) λa=>?_
 ·have:xs.contains v=true:=by simpa using zG hi
  rw[this]at hR;rw[zI O];exact hR
 ·have:xs.contains v=false:=by simpa using a
  rw[this]at hR;exact hR
theorem G3 {s:Sl}{xs:List Int}(h:cV s 1 (xs.map (Value.int .i64)) U F)(hl:xs.length<=1000000000)(v:Int){R:aO}(hR:R (xs.contains v) U):Wv.c s v U R:=by
 refine Wv.o ?_;unfold Wv.v;refine W3.o ?_;unfold W3.v;have u:s.len=xs.length:=by have:=h.1;simp at this;omega
 refine Qz (a:=bO) (λ(t:Int) x=>∃i:Nat,t=(i:Int)/\i<=xs.length/\x=U/\∀j,j<i->xs[j]?≠some v) (λt _=>xs.length-t.toNat) ⟨0,rfl,O,rfl,λj d=>O⟩ ?_;rintro t x ⟨i,rfl,hi,rfl,b⟩;refine cP (λz=>?_) λy=>?_
 ·have p:i<xs.length:=by omega
  have w:xs[i]?=some xs[i]:=cW p;refine h.lL w (cO (λr=>?_) λr=>?_)
  ·have e:v=xs[i]:=by simpa using r
   have:xs.contains v=true:=by rw[e];simp
   rw[this]at hR;show R (decide ((i:Int)≥0)) _;rw[zI O];exact hR
  ·have g:¬v=xs[i]:=by simpa using r
   refine cT (m:=i+1) O O ⟨⟨i+1,rfl,O,rfl,λj d=>?_⟩,O⟩;by_cases e:j=i
   ·subst e;rw[w];intro e2;cases e2;exact g rfl
   ·exact b j O
 ·have:xs.contains v=false:=by
   simp only[tD,decide_eq_false_iff_not];intro hm;obtain⟨j,d⟩:=zP hm;have:=(cY.1 d).1;exact b j O d
  rw[this]at hR;exact hR
def JN (f:Fv)(p:Nat->Bool)(U:Hp):Prop:=∀(x:Nat) (σ':Hp) (R:aO),aF U σ'->(∀σ'',aF σ' σ''->R (p x) σ'')->VJ Tryz.prog f [.int .i64 (x:Int)] [.one .b] σ' R
theorem MS {s:Sl}{xs:List Nat}(h:cV s 1 (ints xs) U F)(hl:xs.length<=1000000){f:Fv}{pr:Nat->Bool}(hf:JN f pr U){R:aO}(hR:∀σ',aF U σ'->R (xs.any pr) σ') :
 WQ.c s f U R:=by
 refine WQ.o ?_;unfold WQ.v;refine Xh.o ?_;unfold Xh.v;have u:=h.oS;refine Qz (a:=bO) (λ(t:Int) w=>∃i:Nat,t=(i:Int)/\i<=xs.length/\aF U w/\∀j x,j<i->xs[j]?=some x->pr x=false) (λt _=>xs.length-t.toNat) ⟨0,rfl,O,Ext.refl _ _,λj x r=>O⟩ ?_;rintro t w ⟨i,rfl,hi,e,d⟩;refine cP (λz=>?_) λy=>?_
 ·have g:i<xs.length:=by omega
  have p:xs[i]?=some xs[i]:=cW g;refine(aH.bP h e).tC p (hf _ _ _ e λA e2=>?_);cases hp:pr xs[i]
  ·refine cD rfl (cT (m:=i+1) O O ⟨⟨i+1,rfl,O,e.trans e2,λj x r b=>?_⟩,O⟩);by_cases e3:j=i
   ·subst e3;rw[p]at b;cases b;exact hp
   ·exact d j x O b
  ·refine cE rfl ?_;have:xs.any pr=true:=zy.2 ⟨_,kD g,hp⟩;show R (decide ((i:Int)≥0)) _;rw[zI O,←this];exact hR _ (e.trans e2)
 ·have:xs.any pr=false:=by
   rw[my];intro x p;obtain⟨j,r⟩:=zP p;have:=(cY.1 r).1;simp[d j x O r]
  show R (decide ((-1:Int)≥0)) _;rw[show decide ((-1:Int)≥0)=false from rfl,←this];exact hR _ e
theorem No {c:Nat}{s:Sl}{fr:List Nat}{σ0:Hp}(hb:bY σ0 c [.slice s.a s.len s.cap])(hs:cV s 1 (ints fr) σ0 F)(hl:fr.length<=1000):JN ⟨305,#[],#[.pointer (some ⟨c,0,none⟩)]⟩ (λx=>!fr.contains x) σ0:=by
 intro x σ' R e hR;refine Gp (all := #[.int .i64 (x:Int),.pointer (some ⟨c,0,none⟩)]) (by kernel_rfl) aA ?_;refine YP.o ?_;unfold YP.v;refine(e.bV hb id).wg rfl ?_;exact SO (aH.bP hs e) O x (hR _ (Ext.refl _ _))
theorem IU (h:il U p q st)(a m:Int)(v:Nat){s:Sl}{fr:List Nat}(hs:cV s 1 (ints fr) U F)(hl:fr.length<=1000){R:aN}(hR:∀σ',Ext (· = q) U σ'->il σ' p q (UQ st a m v fr)->R (pS st a m fr) σ') :
 XY.c (aW p) a m v s U R:=by
 refine XY.o ?_;unfold XY.v;have n2:=h.n2;have P:=h.lt.2;refine nw (cs:=[.slice s.a s.len s.cap]) λv1 Q r M=>?_;have g:=h.bP r;have b:¬(0<=a/\1<=m/\m<=st.length-a)->R 1 v1:=λK=>by
  have d:ZH st.length a m=false:=by simp only[ZH,←vW];exact zL K
  have e1:pS st a m fr=1:=by simp[pS,d]
  have e2:UQ st a m v fr=st:=by simp[UQ,e1]
  have:=hR v1 r.to;rw[e1,e2]at this;exact this g
 refine Ef g (cD rfl (bX.intro ?_));refine cP (λN=>bX.intro (cE rfl (bX.intro (cE rfl (cE rfl (b O)))))) λN=>?_;refine bX.intro (cP (λH=>bX.intro (cE rfl (cE rfl (b O)))) λH=>?_);refine bL (g.rS λcap B=>bX.intro (cP (λw=>cE rfl (b (by simp only at *;omega))) λw=>?_));simp only at w;refine bL (g.rS λcap B=>ar aC aC (cP (λA=>b (by simp only at *;omega)) λA=>?_));simp only at A;obtain⟨x,rfl⟩:=zc (show 0<=a by omega);obtain⟨y,rfl⟩:=zc (show 0<=m by omega);have i:x+y<=st.length:=by omega
 have d:ZH st.length (x:Int) (y:Int)=true:=by simp only[ZH,zF,zV];omega
 refine bL (g.rS λcap B=>cT (m:=x+y) O O (jy O aC aC ?_));rw[zB aC];simp only[zg,add_lit,nA,zH];have J:x+y-x=y:=by omega
 rw[J];have G:=g.part (s:=⟨some ⟨q,x,none⟩,y,cap-x⟩) (n:=y) rfl rfl i;refine MS G aE (No (s:=s) M (aH.bP hs r) hl) λD e2=>?_;have C:=g.bP e2;have j:((st.drop x).take y).any (λz=>!fr.contains z) = !wc st x y fr:=by
  rw[wc,List.all_eq_not_any_not,Bool.not_not]
 rw[j];cases hA:wc st x y fr
 ·have e1:pS st (x:Int) (y:Int) fr=5:=by simp[pS,d,hA]
  have u:UQ st (x:Int) (y:Int) v fr=st:=by simp[UQ,e1]
  have:=hR D (r.to.trans e2.to);rw[e1,u]at this;exact cE rfl (this C)
 ·have e1:pS st (x:Int) (y:Int) fr=0:=by simp[pS,d,hA]
  have u:UQ st (x:Int) (y:Int) v fr=gF st x (x+y) v:=by simp[UQ,e1]
  refine cD rfl (C.jU i v λv3 L E=>?_);have:=hR v3 (r.to.trans (e2.to.trans L));rw[e1,u]at this;exact this E
theorem yQ {h:Hp}{b:Nat}{xs:List Nat}{n c:Nat}(hb:bY h b (ints xs))(hn:n=xs.length):cV ⟨some ⟨b,0,none⟩,n,c⟩ 1 (ints xs) h (· = b):=
 hb.fW (o:=0) rfl (by rw[Kn];simp[hn]) λj _=>by rw[zH]
theorem Woe (h:il U p q st)(a m:Int){R:aN}(hR:∀σ',Ext (· = q) U σ'->il σ' p q (UQ st a m 1 [2,3])->R (pS st a m [2,3]) σ'):XV.c (aW p) a m U R:=by
 refine XV.o ?_;unfold XV.v;refine nw (cs:=ints [2,3]) λv i e g=>?_;exact IU (h.bP e) a m 1 (yQ g rfl) aA λσ' b d=>hR σ' (e.to.trans b) d
theorem MC (h:il U p q st)(a m:Int){R:aN}(hR:∀σ',Ext (· = q) U σ'->il σ' p q (UQ st a m 2 [1])->R (pS st a m [1]) σ'):XN.c (aW p) a m U R:=by
 refine XN.o ?_;unfold XN.v;refine nw (cs:=ints [1]) λv i e g=>?_;exact IU (h.bP e) a m 2 (yQ g rfl) aA λσ' b d=>hR σ' (e.to.trans b) d
def yI (st:List Nat)(x:Int):Int:=if 0<=x/\x<st.length then((st.getD x.toNat 0:Nat):Int)else -1
theorem Ι (h:il U p q st)(x:Int){R:aN}(hR:R (yI st x) U):Yc.c (aW p) x U R:=by
 refine Yc.o ?_;unfold Yc.v;have n2:=h.n2;unfold yI at hR;refine Ef h (bX.intro (cD rfl (bX.intro (cP (λj=>cE rfl ?_) λj=>bL (h.rS λcap i=>cP (λb=>?_) λb=>?_)))))
 ·rw[zB O]at hR;exact hR
 ·simp only at b;rw[zB O]at hR;exact hR
 ·simp only at b;rw[zC O]at hR;obtain⟨y,rfl⟩:=zc (show 0<=x by omega);refine bL (h.rS λcap i=>?_);have d:=h.part (s:=⟨some ⟨q,0,none⟩,st.length,cap⟩) (a:=0) (n:=st.length) rfl rfl O;rw[A4,lV]at d;have g:y<st.length:=by omega
  refine d.tC (cW g) ?_;simpa[zQ,cW g]using hR
theorem H8 {s:Sl}{vs:List Value}(h:cV s 1 vs U F)(h1:∀v∈vs,dV v=true)(hl:s.len<=1000000){R:Sl->Hp->Prop}
 (hR:∀s' σ',s'.len=s.len->aF U σ'->bT s' 1 vs σ' (λb=>U.size<=b)->R s' σ'):W4.c s U R:=by
 refine W4.o ?_;unfold W4.v;exact Cs h aB rfl h1 aB hl hR
theorem TL {n:Nat}(h1:16<=n)(h2:n<=1024)(h3:n%16=0){R:Option Addr->Int->Hp->Prop}(hR:∀σ' p q,aF U σ'->U.size<=p->U.size<=q->il σ' p q (List.replicate n 0)->R (some ⟨p,0,none⟩) 0 σ'):Vk.c (n:Int) U R:=by
 refine Vk.o ?_;unfold Vk.v;refine bX.intro (fZ O (bX.intro (fZ O (nz aB ?_))));rw[Q1 O];have:(((n:Int)%16) != 0)=false:=by
  have:((n:Int)%16)=0:=by omega
  rw[this];rfl
 rw[this];refine cD rfl (mk O O λv j e b=>nw (cs:=[.slice (some ⟨U.size,0,none⟩) n n]) λi d e2 a=>?_);have g:(List.replicate n [Value.int .i64 0]).flatten=ints (List.replicate n 0):=by
  have:[Value.int .i64 0]=ints [0]:=rfl;rw[this];clear b hR
  induction n with
  | zero=>rfl
  | succ n ih=>simp[tx,ints]
 rw[g]at b;refine hR _ _ _ (e.trans e2) O (zD _) ⟨⟨n,by simp,by simpa using a⟩,⟨[],by simpa using e2.bV b id⟩,O,by simpa using h1,by simpa using h2,by simpa using h3⟩
end Go.Ar
namespace Go.Proofs
open Go.Vc
set_option maxRecDepth 100000
def Z4.h:Hn:=.q .o1 (.q (.q .o3 .aJ) (.q (.cU (.tail 10 (RI.ops 10) [.op])) .l))
def Z4.v (a:R2)(b:Hp)(c:Int->Int->Hp->Prop):Prop:=aV #[.I 0,.I 0] 268 b λd e=>YF.c a e λf g=>If (!f) (aR d 0 (.I 0) g λh=>aR d 1 (.I 0) h λi=>aQ d 0 i λj=>aQ d 1 i λk=>c j k i) (bE a 0 g λm=>bW a λn=>bN ((n.add 1).add 1) g λo=>aR d 0 (.I m) g λp=>aR d 1 (.I o) p λq=>aQ d 0 q λr=>aQ d 1 q λs=>c r s q)
theorem Z4.o {a b c}(d:Z4.v a b c):Z4.c a b c:=Wa Tryz.func198 (x:=Z4.h) (R0 d)
def YD.h:Hn:=.q .o1 (.q (.q .o3 .aK) (.q .o6 .l))
def YD.v (a:R2)(b:Hp)(c:aN):Prop:=YF.c a b λd e=>If (!d) (c 0 e) (bF a 4 e λg=>c ((g.len:Nat):Int) e)
theorem YD.o {a b c}(d:YD.v a b c):YD.c a b c:=Wa Tryz.func201 (x:=YD.h) (R0 d)
def YF.h:Hn:=.q .o1 (.q (.cU (.seq [.op,.op,.op,.cX true 6 (RI.ops 6),.op])) .l)
def YF.v (a:R2)(b:Hp)(c:aO):Prop:=bX (λd e=>c d e) λf=>If (!a.isNone) (bF a 4 b λh=>f (decide (((h.len:Nat):Int)>0)) b) (f false b)
theorem YF.o {a b c}(d:YF.v a b c):YF.c a b c:=Wa Tryz.func268 (x:=YF.h) (R0 d)
def Vi.h:Hn:=.q .o3 (.q .o7 (.q (.q (.cU (.seq [.op,.op,.op,.cX false 2 [.op,.op],.op,.cX false 5 (RI.ops 5)])) .aJ) (.q (.cU (.held true [] (.tk [0,1,2] (.all [(3,.take 4 (.all [(5,.take 6 (.take 7 (.done)))]))])))) .l)))
def Vi.v (a b c d:Int)(e:Hp)(f:Option Addr->Int->Hp->Prop):Prop:=aV #[.I b,.I c,.I d] 149 e λg h=>aQ g 0 h λi=>aQ g 1 h λj=>aQ g 2 h λk=>ZV.c i j k h λl m n=>bX (λo p=>bX (λq r=>If q (f none 1 r) (dY r λs=>aS s g 0 λt=>aS s g 1 λu=>aS s g 2 λv=>Mk l l 8 3 [.I 0] r λw x=>And (s x) <| aV #[.I a,.I t,.I u,.I v,.slice w.a w.len w.cap,.I 0] 339 x λy z=>And (s z) <| f (some y) 0 z)) λaa=>If o (aa true p) (aQ g 1 p λab=>bM (1024-ab) λac=>aa (decide (a>ac)) p)) λad=>If (m != 0) (ad true n) (ad (decide (a<0)) n)
theorem Vi.o {a b c d e f}(g:Vi.v a b c d e f):Vi.c a b c d e f:=Wa Tryz.func290 (x:=Vi.h) (R0 g)
def ZT.h:Hn:=.q .o1 (.q .o8 (.q (.k (.q .o3 (.c .aL (.q .o9 .aK)))) (.q .o4 .aM)))
def ZT.v (a:R2)(b:Int)(c:Hp)(d:aN):Prop:=Yq.c a b c λe f g=>If (f != 0) (d f g) (bF a 4 g λi=>Ix i.a i.len e 1 λj=>bN j g λk=>If (k==0) (d 9 g) (aV #[.I e] 3 g λl m=>ZC.c a 0 ⟨some l,1,1⟩ m λn=>d 0 n))
theorem ZT.o {a b c d}(e:ZT.v a b c d):ZT.c a b c d:=Wa Tryz.func311 (x:=ZT.h) (R0 e)
def ZR.h:Hn:=.q .o2 (.q (.q .o3 .aJ) (.q .o6 (.q (.q .o2 .aJ) (.q .o4 (.q .o5 .l)))))
def ZR.v (a:R2)(b:Hp)(c:Int->Int->Hp->Prop):Prop:=YF.c a b λd e=>If (!d) (c 0 5 e) (bF a 4 e λg=>W3.c g 0 e λh i=>If (h<0) (c 0 6 i) (aV #[.I h] 3 i λj k=>ZC.c a 1 ⟨some j,1,1⟩ k λl=>YM.c a h l λm n=>c m 0 n))
theorem ZR.o {a b c}(d:ZR.v a b c):ZR.c a b c:=Wa Tryz.func316 (x:=ZR.h) (R0 d)
def Yn.h:Hn:=.q .o2 (.q (.q .o3 .aJ) (.q .o5 (.q (.q (.cU (.gN false [] [(32,.one .b)] (.take 0 (.take 1 (.all [(2,.take 3 (.take 4 (.split 18 (.take 5 (.take 6 (.take 7 (.take 8 (.take 9 (.take 10 (.take 11 (.take 12 (.take 13 (.take 14 (.take 15 (.take 16 (.take 17 (.take 18 (.done))))))))))))))) (.take 5 (.take 6 (.take 7 (.take 8 (.take 11 (.take 12 (.take 13 (.take 14 (.all [(9,.take 10 (.all [(15,.take 16 (.take 17 (.take 18 (.done))))])),(15,.all [(9,.take 10 (.take 16 (.take 17 (.take 18 (.done)))))])]))))))))))))]))))) .aJ) (.q .o9 .l))))
def Yn.v (a:R2)(b:Int)(c:Hp)(d:Int->Int->Hp->Prop):Prop:=YF.c a c λe f=>If (!e) (d 0 5 f) (YM.c a 0 f λg h=>bM (b-g) λi=>Jn [.b] (λ(j:Bool) k=>If j (d 0 8 k) (bW a λl=>bN ((l.add 1).add 0) k λm=>Nz m<|bM (i.tdiv m) λn=>d n 0 k)) λo=>YM.c a 0 h λp q=>If (b<p) (o true q) (bW a λr=>bW a λs=>(aX r 4 q λt=>bN ((s.add 1).add 0) q λu=>bM (((t.len:Nat):Int)*u) λv=>o (decide (i≥v)) q) ∧ (bN ((s.add 1).add 0) q λw=>aX r 4 q λx=>bM (((x.len:Nat):Int)*w) λy=>o (decide (i≥y)) q)))
theorem Yn.o {a b c d}(e:Yn.v a b c d):Yn.c a b c d:=Wa Tryz.func322 (x:=Yn.h) (R0 e)
def YH.h:Hn:=.q .o2 (.q .o8 (.q (.q .o2 (.c (.q .o3 .l) .l)) (.q .gA .l)))
def YH.v (a:R2)(b:Int)(c:Hp)(d:Bool->Int->Hp->Prop):Prop:=Yq.c a b c λe f g=>If (f != 0) (d false f g) (bF a 4 g λi=>Ix i.a i.len e 1 λj=>bN j g λk=>d (k==1) 0 g)
theorem YH.o {a b c d}(e:YH.v a b c d):YH.c a b c d:=Wa Tryz.func324 (x:=YH.h) (R0 e)
def Yq.h:Hn:=.q .o2 (.q .o8 (.q (.q (.cU (.seq [.op,.op,.op,.cX true 5 (RI.ops 5)])) .aJ) (.q .o4 .l)))
def Yq.v (a:R2)(b:Int)(c:Hp)(d:Int->Int->Hp->Prop):Prop:=Yn.c a b c λe f g=>bX (λh i=>If h (d 0 8 i) (d e f i)) λj=>If (f==0) (YM.c a e g λk l=>j (k != b) l) (j false g)
theorem Yq.o {a b c d}(e:Yq.v a b c d):Yq.c a b c d:=Wa Tryz.func335 (x:=Yq.h) (R0 e)
def ZC.h:Hn:=.q .o3 (.k (.loop [(10,.I)] (.q .o1 (.q (.c .l .l) (.q (.k (.q .o3 (.q (.cU (.tail 16 (RI.ops 16) [.op])) .o8))) .o2)))))
def ZC.v (a:R2)(b:Int)(c:Sl)(d:Hp)(e:aP):Prop:=Yf [bO] (λf=>f 0 d) λg (h:Int) i=>If (h<((c.len:Nat):Int)) (Ix c.a c.len h 1 λj=>bN j i λk=>bE a 5 i λm=>bF a 4 i λo=>Ix o.a o.len k 1 λp=>bN p i λq=>bM (b-q) λr=>bM (m+r) λs=>bW a λt=>aR t 5 (.I s) i λu=>bF a 4 u λw=>Ix w.a w.len k 1 λx=>dQ x (.I b) u λy=>bM (h+1) λz=>g z y) (e i)
theorem ZC.o {a b c d e}(f:ZC.v a b c d e):ZC.c a b c d e:=Wa Tryz.func336 (x:=ZC.h) (R0 f)
def YM.h:Hn:=.q .o1 (.q (.oq 14) .l)
def YM.v (a:R2)(b:Int)(c:Hp)(d:aN):Prop:=bE a 0 c λf=>bM (f*256) λg=>bW a λh=>bN ((h.add 1).add 0) c λi=>bM (b*i) λj=>bM (g+j) λk=>d k c
theorem YM.o {a b c d}(e:YM.v a b c d):YM.c a b c d:=Wa Tryz.func339 (x:=YM.h) (R0 e)
end Go.Proofs
namespace Go.Ar
open Go Go.Vc Go.Proofs
variable {U:Hp}{F:Rg}{p q:Nat}{c:cA}{s:cH}
def nR (tk:List Bool):List Nat:=tk.map λb=>if b then 1 else 0
theorem x8 (tk:List Bool):(nR tk).length=tk.length:=by simp[nR]
theorem GO {tk:List Bool}{i:Nat}{b:Bool}(h:tk[i]?=some b):(nR tk)[i]?=some (if b then 1 else 0):=by simp[nR,h]
theorem SC (tk:List Bool)(i:Nat)(b:Bool):nR (tk.set i b)=(nR tk).set i (if b then 1 else 0):=by simp[nR,wz]
structure ij (U:Hp) (p q:Nat) (c:cA) (s:cH):Prop where
 hd:∃cap,c.n<=cap/\bY U p [.int .i64 (s.st:Int),.int .i64 (c.size:Int),.int .i64 (c.aG:Int),.int .i64 (c.batch:Int),.slice (some ⟨q,0,none⟩) c.n cap,.int .i64 (s.many:Int)]
 row:∃rest,bY U q (ints (nR s.tk)++rest)
 ne:p≠q
 len:s.tk.length=c.n
 ok:c.ok
 fit:s.st+c.aG<=1024
theorem ij.bS {σ':Hp}(h:ij U p q c s)(e:Ext F U σ')(hp:¬F p)(hq:¬F q):ij σ' p q c s:=
 ⟨by obtain⟨c,a,b⟩:=h.hd;exact⟨c,a,e.bV b hp⟩,by obtain⟨r,a⟩:=h.row;exact⟨r,e.bV a hq⟩,h.ne,h.len,h.ok,h.fit⟩
theorem ij.bP {σ':Hp}(h:ij U p q c s)(e:aF U σ'):ij σ' p q c s:=h.bS e id id
theorem ij.lt (h:ij U p q c s):p<U.size/\q<U.size:=by
 obtain⟨_,_,b⟩:=h.hd;obtain⟨_,a⟩:=h.row;exact⟨b.lt,a.lt⟩
theorem ij.rS (h:ij U p q c s){K:Sl->Prop}(hK:∀cap,c.n<=cap->K ⟨some ⟨q,0,none⟩,c.n,cap⟩):jH (Addr.add ⟨p,0,none⟩ 4) U K:=by
 obtain⟨a,b,d⟩:=h.hd;exact d.rS rfl (hK a b)
theorem ij.rI (h:ij U p q c s){i:Nat}{x:Int}(hx:∀a b:Value,([.int .i64 (s.st:Int),.int .i64 (c.size:Int),.int .i64 (c.aG:Int),.int .i64 (c.batch:Int),a,.int .i64 (s.many:Int)]:List Value)[0+i]?=some (.int .i64 x)){K:Int->Prop}(hK:K x):gI .i64 (Addr.add ⟨p,0,none⟩ i) U K:=by
 obtain⟨g,j,d⟩:=h.hd;exact d.rI (hx _ .nilFunc) hK
theorem ij.fD (h:ij U p q c s){i j:Nat}{x:Int}(hx:∀a b:Value,([.int .i64 (s.st:Int),.int .i64 (c.size:Int),.int .i64 (c.aG:Int),.int .i64 (c.batch:Int),a,.int .i64 (s.many:Int)]:List Value)[0+i+j]?=some (.int .i64 x)){K:Int->Prop}(hK:K x):gI .i64 (Addr.add (Addr.add ⟨p,0,none⟩ i) j) U K:=by
 obtain⟨g,m,d⟩:=h.hd;exact d.fD (hx _ .nilFunc) hK
theorem ij.lj (h:ij U p q c s)(cap:Nat):cV ⟨some ⟨q,0,none⟩,c.n,cap⟩ 1 (ints (nR s.tk)) U (· = q):=by
 obtain⟨r,b⟩:=h.row;refine b.fW (o:=0) rfl (by rw[Kn,x8,h.len];simp) λj a=>?_;rw[zH,zd a]
theorem Av (h:ij U p q c s){R:aO}(hR:R true U):YF.c (aW p) U R:=by
 refine YF.o ?_;unfold YF.v;refine bX.intro (cE rfl (bL (h.rS λcap _=>?_)));have:=h.ok.tB;rw[zI aC];exact hR
theorem PC (h:ij U p q c s){R:aN}(hR:R (c.n:Int) U):YD.c (aW p) U R:=by
 refine YD.o ?_;unfold YD.v;exact Av h (cD rfl (bL (h.rS λcap _=>hR)))
theorem Ap (h:ij U p q c s)(i:Nat)(hi:i<=1000){R:aN}(hR:R ((at_ c s i:Nat):Int) U):YM.c (aW p) (i:Int) U R:=by
 refine YM.o ?_;unfold YM.v;have a:=h.ok;unfold cA.ok at a;have:=h.fit;have b:i*c.size<=1000*512:=mu hi O;refine bL (h.rI (λ_ _=>rfl) (cT (m:=s.st*256) aA O (bL (h.fD (λ_ _=>rfl) ?_))));exact cT (m:=i*c.size) aA O (cT (m:=at_ c s i) (by simp[at_]) (by unfold at_;omega) hR)
theorem C7 (h:ij U p q c s)(x:Int)(hx2:x<=9223372036854775807){R:Int->Int->Hp->Prop}(h1:∀i,idx c s x=some i->R (i:Int) 0 U)(h0:idx c s x=none->R 0 8 U):Yn.c (aW p) x U R:=by
 refine Yn.o ?_;unfold Yn.v;have D:=h.ok;unfold cA.ok at D;have C:=h.ok.kP;have r:=h.fit;have a:=h.len;have F:c.n*c.size<=128*512:=mu C O;refine Av h (cD rfl (Ap h 0 O ?_));have w:at_ c s 0=s.st*256:=by simp[at_]
 rw[w];refine vI ?_;refine Jn.intro (Ap h 0 O ?_);rw[w];refine cP (λB=>cE rfl (h0 ?_)) λA=>?_
 ·unfold idx;rw[zC O]
 ·rw[Us O O];obtain⟨y,E⟩:=zc (show 0<=x by omega);have key:If (decide (x-((s.st*256:Nat):Int)≥((c.n*c.size:Nat):Int))) (R 0 8 U)
   (bW (some ⟨p,0,none⟩) λj=>gI .i64 ((j.add 1).add 0) U λd=>Nz d<|Ar .i64 ((x-((s.st*256:Nat):Int)).tdiv d) λg=>R g 0 U):=by
   refine cP (λu=>h0 ?_) λz=>bL (h.fD (λ_ _=>rfl) (nz O ?_))
   ·unfold idx;rw[a,zC O]
   ·have:idx c s x=some ((x-((s.st*256:Nat):Int)).toNat/c.size):=by unfold idx;rw[a,zB O]
    refine cT (m:=(x-((s.st*256:Nat):Int)).toNat/c.size) ?_ ?_ (h1 _ this)
    ·rw[Ye O];have:x-((s.st*256:Nat):Int)=(((x-((s.st*256:Nat):Int)).toNat:Nat):Int):=by omega
     rw[this];simp
    ·have:=Nat.div_le_self (x-((s.st*256:Nat):Int)).toNat c.size;omega
  refine bL (bL ⟨h.rS λcap b=>h.fD (λ_ _=>rfl) (cT (m:=c.n*c.size) aA O key),h.fD (λ_ _=>rfl) (h.rS λcap b=>cT (m:=c.n*c.size) aA O key)⟩)
theorem EK (h:ij U p q c s)(x:Int)(hx2:x<=9223372036854775807){R:Int->Int->Hp->Prop}(h1:∀i,obj c s x=some i->i<c.n->R (i:Int) 0 U)(h0:obj c s x=none->R 0 8 U):Yq.c (aW p) x U R:=by
 refine Yq.o ?_;unfold Yq.v;have d:=h.ok;unfold cA.ok at d;have g:=h.ok.kP;refine C7 h x hx2 (λi hi=>bX.intro (cE rfl ?_)) λhi=>bX.intro (cD rfl (cD rfl (h0 (by unfold obj;rw[hi]))));have a:=((Un O).1 hi).2.2;rw[h.len]at a;refine Ap h i O (cO (λb=>h0 ?_) λb=>h1 i ?_ a)
 ·have:¬x=((at_ c s i:Nat):Int):=λe=>by rw[e]at b;simp at b
  unfold obj;rw[hi];simp[this]
 ·have:x=((at_ c s i:Nat):Int):=by
   have:((at_ c s i:Nat):Int)=x:=by simpa using b
   exact this.symm
  unfold obj;rw[hi];simp[this]
def cH.is (s:cH)(i:Nat):Bool:=s.tk.getD i false
theorem cH.lD {s:cH}{i:Nat}(hi:i<s.tk.length):s.tk[i]?=some (s.is i):=by
 simp[cH.is,zQ,cW hi]
theorem Mi (h:ij U p q c s)(x:Int)(hx2:x<=9223372036854775807){R:Bool->Int->Hp->Prop}(h1:∀i,obj c s x=some i->R (s.is i) 0 U)(h0:obj c s x=none->R false 8 U):YH.c (aW p) x U R:=by
 refine YH.o ?_;unfold YH.v;refine EK h x hx2 (λi hi a=>cD rfl (bL (h.rS λcap b=>?_))) λhi=>cE rfl (h0 hi);rw[←h.len]at a;refine(h.lj cap).tC (GO (cH.lD a)) ?_;have:=h1 i hi;cases hb:s.is i<;>rw[hb]at this<;>simpa using this
theorem Af {s:cH}{i:Nat}(hi:i<s.tk.length)(v:Bool):((s.put i v).many:Int)=s.many+((if v then 1 else 0)-(if s.is i then 1 else 0)):=by
 have key:∀(l:List Bool) (i:Nat) (b:Bool),l[i]?=some b->(((l.set i v).count true:Nat):Int)=(l.count true:Nat)+((if v then 1 else 0)-(if b then 1 else 0)):=by
  intro l
  induction l with
  | nil=>intro i b h;simp at h
  | cons x l ih=>
   intro i b h;cases i with
   | zero=>
    simp at h;subst h;cases v<;>cases x<;>simp[List.count_cons]<;>omega
   | succ i=>
    have:=ih i b (by simpa using h);simp only[tI,List.count_cons]
    push_cast
    omega
 exact key s.tk i _ (cH.lD hi)
theorem D0 (s:cH):s.many<=s.tk.length:=List.count_le_length
theorem IZ (h:ij U p q c s){i:Nat}(hi:i<c.n)(v:Bool){sl:Sl}{G:Rg}(hs:cV sl 1 (ints [i]) U G){R:aP}(hR:∀σ',Ext (λb=>b=p\/b=q) U σ'->ij σ' p q c (s.put i v)->R σ') :
 ZC.c (aW p) (if v then 1 else 0) sl U R:=by
 refine ZC.o ?_;unfold ZC.v;have M:sl.len=1:=hs.oS;have S:=h.ok.kP;have H:=h.len;have Q:=D0 s;have B:i<s.tk.length:=by omega
 have g:=Af B v;refine Qz (a:=bO) (λ(t:Int) C=>t=0/\C=U\/t=1/\Ext (λb=>b=p\/b=q) U C/\ij C p q c (s.put i v)) (λt _=>1-t.toNat) (.inl ⟨rfl,rfl⟩) ?_;rintro t C (⟨rfl,rfl⟩|⟨rfl,e,J⟩)
 ·refine mr O ?_;refine hs.tC (i:=0) (x:=i) rfl (bL (h.rI (λ_ _=>rfl) (bL (h.rS λcap E=>?_))));refine(h.lj cap).tC (GO (cH.lD B)) ?_;have N:(0:Int)<=(if v then 1 else 0)/\(if v then(1:Int)else 0)<=1:=by cases v<;>simp
  have L:(0:Int)<=((if s.is i then 1 else 0:Nat):Int)/\((if s.is i then 1 else 0:Nat):Int)<=1:=by cases s.is i<;>simp
  have j:((if s.is i then 1 else 0:Nat):Int)=(if s.is i then 1 else 0):=by cases s.is i<;>rfl
  refine ar O O (ar O O (bL ?_));obtain⟨K,D,hd⟩:=h.hd;obtain⟨r,z⟩:=h.row;refine hd.s1 aA λV w u=>?_;have d:=WF w z (Ne.symm h.ne);refine bL (u.rS rfl (ix O aC ?_));rw[add_lit];refine d.s0 (by simp[Kn,x8];omega) λP y A=>?_;refine cT (m:=1) O O ⟨.inr ⟨rfl,?_,?_⟩,by decide⟩
  ·exact(Ext.eU (F:=λb=>b=p\/b=q) w (.inl rfl)).trans (Ext.eU y (.inr rfl))
  ·refine⟨⟨K,D,?_⟩,⟨r,?_⟩,h.ne,by simp[cH.put,h.len],h.ok,h.fit⟩
   ·have:=WF y u h.ne;rw[g,←j];exact this
   ·have e:(ints (nR s.tk)++r).set (0+(i:Int).toNat*1) (.int .i64 (if v then 1 else 0))=ints (nR (s.put i v).tk)++r:=by
     rw[List.set_append_left _ _ (by simp[Kn,x8];omega)]
     congr 1
     simp only[cH.put,SC,ints,wz];have:(0+(i:Int).toNat*1)=i:=by omega
     rw[this]
     congr 1
     cases v<;>rfl
    rw[e]at A;exact A
 ·exact fZ O (hR _ e J)
theorem OY (h:ij U p q c s){x:Int}{i:Nat}(hx2:x<=9223372036854775807)(ho:obj c s x=some i)(ht:s.is i=true){R:aN}(hR:∀σ',Ext (λb=>b=p\/b=q) U σ'->ij σ' p q c (s.put i false)->R 0 σ') :
 ZT.c (aW p) x U R:=by
 refine ZT.o ?_;unfold ZT.v;refine EK h x hx2 (λj m d=>cD rfl (bL (h.rS λcap r=>?_))) λg=>by rw[ho]at g;cases g
 rw[ho]at m;cases m;have a:i<s.tk.length:=by rw[h.len];exact d
 refine(h.lj cap).tC (GO (cH.lD a)) ?_;rw[ht];refine cD rfl (nw (cs:=ints [i]) λv A e y=>?_);have z:=h.lt;exact IZ (h.bP e) d false (yQ y rfl) λσ' w u=>hR σ' (e.to.trans w) u
theorem Oz (h:ij U p q c s){i:Nat}(hlow:low s=some i){R:Int->Int->Hp->Prop}(hR:∀σ',Ext (λb=>b=p\/b=q) U σ'->ij σ' p q c (s.put i true)->R ((at_ c s i:Nat):Int) 0 σ') :
 ZR.c (aW p) U R:=by
 refine ZR.o ?_;unfold ZR.v;have D:=h.ok.kP;have a:=nK.1 hlow;obtain⟨hi,A,B⟩:=a;have g:s.tk[i]=false:=by simpa using A
 refine Av h (cD rfl (bL (h.rS λcap x=>?_)));refine IL (h.lj cap) (by simp[x8,h.len];omega) 0 (λj u d=>?_) λd=>?_
 ·have m:j<s.tk.length:=by
   have:=(cY.1 u).1
   rwa [x8]at this
  have r:j=i:=by
   rcases qO j i with h1|h1|h1
   ·have:=B j h1;rw[GO (cW m)]at u;have:s.tk[j]=true:=by simpa using this
    simp[this]at u
   ·exact h1
   ·exact absurd (by rw[GO (cW hi),g];rfl) (d i h1)
  subst r;rw[h.len]at hi;refine fZ O (nw (cs:=ints [j]) λv C e w=>?_);refine IZ (h.bP e) hi true (yQ w rfl) λσ' z y=>Ap y j O (hR σ' (e.to.trans z) y)
 ·exfalso;apply d;exact zG (i:=i) (by rw[GO (cW hi),g];rfl)
theorem MD (h:ij U p q c s){R:Int->Int->Hp->Prop}(hR:∀σ',aF U σ'->R (s.st:Int) (c.aG:Int) σ'):Z4.c (aW p) U R:=by
 refine Z4.o ?_;unfold Z4.v;refine nw (cs:=[.int .i64 0,.int .i64 0]) λv u e m=>?_;have d:=h.bP e;refine Av d (cD rfl (bL (d.rI (λ_ _=>rfl) (bL (d.fD (λ_ _=>rfl) ?_)))));refine m.s1 aA λr b g=>g.s1 aA λv3 j a=>?_;refine a.rI rfl (a.rI rfl (hR _ ?_));exact Ext.fresh (Ext.fresh e (Ext.eU (F:=(· = U.size)) b rfl) λi hi=>O) (Ext.eU (F:=(· = U.size)) j rfl) λi hi=>by omega
theorem Pn (n:Nat):(List.replicate n [Value.int .i64 0]).flatten=ints (List.replicate n 0):=by
 induction n with
 | zero=>rfl
 | succ n ih=>simp only[tx,vE,ih];rfl
theorem WlS (hc:c.ok){st:Nat}(hf:st+c.aG<=1024){R:Option Addr->Int->Hp->Prop}(hR:∀σ' p q,aF U σ'->U.size<=p->U.size<=q->ij σ' p q c ⟨st,List.replicate c.n false⟩->R (some ⟨p,0,none⟩) 0 σ') :
 Vi.c (st:Int) c.size c.aG c.batch U R:=by
 refine Vi.o ?_;unfold Vi.v;have D:=hc;unfold cA.ok at D;have K:=hc.kP;refine nw (cs:=[.int .i64 c.size,.int .i64 c.aG,.int .i64 c.batch]) λv P e y=>?_;refine y.rI rfl (y.rI rfl (y.rI rfl (Fc _ _ _ (λg E e1 e2 C B A=>?_) λu=>?_)))
 case refine_2=>rw[(Ls c).2 hc]at u;cases u
 have:g=c:=by
  obtain⟨a,b,d⟩:=c;obtain⟨M,L,N⟩:=g;simp only at e1 e2 C
  congr 1<;>omega
 subst this;have i:=A.bV y id;refine bX.intro (cD rfl (bX.intro (fZ O (i.rI rfl (cT (m:=1024-g.aG) O O (fZ O ?_))))));refine⟨λx=>bY x U.size [.int .i64 g.size,.int .i64 g.aG,.int .i64 g.batch],i,⟨_,λx s=>by rw[add_lit,s.cell];rfl,⟨_,λx s=>by rw[add_lit,s.cell];rfl,⟨_,λx s=>by rw[add_lit,s.cell];rfl,?_⟩⟩⟩⟩;refine mk O O λJ G r w=>⟨r.bV i id,nw (cs:=[.int .i64 (st:Int),.int .i64 g.size,.int .i64 g.aG,.int .i64 g.batch,.slice (some ⟨B.size,0,none⟩) g.n g.n,.int .i64 0]) λv3 F j z=>⟨(r.trans j).bV i id,?_⟩⟩;rw[Pn]at w;have H:=A.1;refine hR _ _ _ (((e.trans A).trans r).trans j) O (show U.size<=B.size by omega) ⟨⟨g.n,zD _,?_⟩,⟨[],?_⟩,O,by simp,hc,hf⟩
 ·have:cH.many ⟨st,List.replicate g.n false⟩=0:=by simp[cH.many,Ao]
  rw[this];exact z
 ·have:nR (List.replicate g.n false)=List.replicate g.n 0:=by simp[nR]
  rw[this,kE];exact j.bV w id
end Go.Ar
namespace Go.Proofs
open Go.Vc
set_option maxRecDepth 100000
def X9.h:Hn:=.q .o1 (.q (.q .o3 .aK) (.q .o1 (.q .gA .aL)))
def X9.v (a:R2)(b:Hp)(c:Sl->Hp->Prop):Prop:=W8.c a b λd e=>If (!d) (c ⟨none,0,0⟩ e) (aV #[.slice none 0 0] 201 e λf g=>bF a 3 g λi=>Wi.c i ⟨248,#[],#[.pointer (some f)]⟩ g λj k=>bW a λl=>aR l 3 (.slice j.a j.len j.cap) k λm=>jH f m λn=>c n m)
theorem X9.o {a b c}(d:X9.v a b c):X9.c a b c:=Wa Tryz.func185 (x:=X9.h) (R0 d)
def W8.h:Hn:=.q .o1 (.q (.cU (.seq [.op,.op,.op,.cX true 6 (RI.ops 6),.op])) .l)
def W8.v (a:R2)(b:Hp)(c:aO):Prop:=bX (λd e=>c d e) λf=>If (!a.isNone) (bW a λg=>bN ((g.add 0).add 0) b λh=>f (decide (h>0)) b) (f false b)
theorem W8.o {a b c}(d:W8.v a b c):W8.c a b c:=Wa Tryz.func197 (x:=W8.h) (R0 d)
def QK.h:Hn:=.q .o3 (.q (.q .o7 (.q .o2 .aJ)) (.q .o5 .l))
def QK.v (a b c:Int)(d:Hp)(e:Option Addr->Int->Hp->Prop):Prop:=aV #[.I a,.I b,.I c] 149 d λf g=>aQ f 0 g λh=>aQ f 1 g λi=>aQ f 2 g λj=>ZV.c h i j g λk l m=>If (l != 0) (e none 1 m) (aQ f 0 m λn=>aQ f 1 m λo=>aQ f 2 m λp=>aV #[.I n,.I o,.I p,.slice none 0 0] 274 m λq r=>e (some q) 0 r)
theorem QK.o {a b c d e}(f:QK.v a b c d e):QK.c a b c d e:=Wa Tryz.func212 (x:=QK.h) (R0 f)
def Xu.h:Hn:=.q .o2 (.q (.k (.q .o4 (.c .aL (.q .o3 .aJ)))) (.q .o1 (.q (.k (.loop [(6,.one .s)] (.q (.q .o4 (.c .l .l)) (.k (.q .o7 (.q (.q .o2 (.c .l .l)) .o5)))))) (.q .o3 .l))))
def Xu.v (a:R2)(b:Int)(c:Hp)(d:Sl->Int->Hp->Prop):Prop:=W8.c a c λe f=>If (!e) (d ⟨none,0,0⟩ 5 f) (If (b<0) (d ⟨none,0,0⟩ 1 f) (Yf [.s] (λg=>g ⟨none,0,0⟩ f) λh (i:Sl) j=>If (((i.len:Nat):Int)<b) (Zc.c a j λk l m=>If (!l) (d i 0 m) (aV #[.I k] 3 m λn o=>App i 1 8 3 [.I 0] ⟨some n,1,1⟩ o λp q=>h p q)) (d i 0 j)))
theorem Xu.o {a b c d}(e:Xu.v a b c d):Xu.c a b c d:=Wa Tryz.func233 (x:=Xu.h) (R0 e)
def Y8.h:Hn:=.q .o1 (.q (.q .o3 .aK) (.q (.o 11) (.q (.q .o2 .aJ) (.q (.q .o6 (.k (.loop [(31,.I)] (.q .o1 (.q (.c .l .l) (.q (.k (.q .o4 (.q (.oq 17) .aK))) .o2)))))) (.q (.o 11) (.q (.o 15) .aM))))))
def Y8.v (a:R2)(b:Int)(c:Hp)(d:aN):Prop:=W8.c a c λe f=>If (!e) (d 5 f) (bW a λg=>bN ((g.add 0).add 0) f λh=>bN ((g.add 0).add 1) f λi=>bN ((g.add 0).add 2) f λj=>Vi.c b h i j f λk l m=>If (l != 0) (d l m) (bF a 3 m λo=>Yf [bO] (λp=>p 0 m) λq (r:Int) s=>If (r<((o.len:Nat):Int)) (Ix o.a o.len r 3 λt=>aQ t 0 s λu=>aQ t 1 s λv=>aY t 2 s λw=>aV #[.I 0,.I 0,.pointer none] 279 s λx y=>aR x 0 (.I u) y λz=>aR x 1 (.I v) z λaa=>aR x 2 (.pointer w) aa λab=>bN ((x.add 0).add 1) ab λac=>bN ((x.add 0).add 1) ab λad=>bM ((if b>ac then b else ac)-(if b<ad then b else ad)) λae=>bW a λaf=>bN ((af.add 0).add 1) ab λag=>If (ae<ag) (d 9 ab) (bM (r+1) λah=>q ah ab)) (bF a 3 s λaj=>Wc.c aj b ⟨292,#[],#[]⟩ s λak al am=>bF a 3 am λao=>aV #[.I 0,.I b,.pointer k] 279 am λap aq=>Wl.c ao ak ⟨some ap,1,1⟩ aq λar au=>bW a λav=>aR av 3 (.slice ar.a ar.len ar.cap) au λaw=>d 0 aw)))
theorem Y8.o {a b c d}(e:Y8.v a b c d):Y8.c a b c d:=Wa Tryz.func235 (x:=Y8.h) (R0 e)
def Yg.h:Hn:=.q .o2 (.kO [] (.q .o4 (.c (.cU (.held true [6] (.tk [0,1,2] (.all [(3,.all [(4,.all [(5,.all [(6,.done)])])])])))) .l)) (.q .o5 .l))
def Yg.v (a b:Int)(c:R2)(d:Addr)(e:Hp)(f:aO):Prop:=aV #[.I a,.I b,.pointer c] 279 e λg h=>Jn [] (λi=>bN ((g.add 0).add 0) i λj=>f (j==0) i) λk=>bN ((g.add 0).add 0) h λl=>If (l==0) (dY h λm=>gJ m .s d λ(n:Sl)=>aU m g 2 λo=>Z4.c o h λp q r=>And (m r) <| aV #[.I p,.I q] 268 r λs t=>And (m t) <| App n 2 16 268 [.I 0,.I 0] ⟨some s,1,1⟩ t λu v=>And (m v) <| dQ d (.slice u.a u.len u.cap) v λw=>k w) (k h)
theorem Yg.o {a b c d e f}(g:Yg.v a b c d e f):Yg.c a b c d e f:=Wa Tryz.func248 (x:=Yg.h) (R0 g)
def Zb.h:Hn:=.q .o2 (.q (.q .o3 .aJ) (.q .o1 (.q (.q .o3 (.k (.loop [(6,.one .b),(19,.I)] (.q .o1 (.q (.c .l .l) (.q (.k (.q .o5 (.q .o8 (.q (.q .o2 (.c (.q .o3 .l) .l)) (.cU (.seq [.op,.op,.cX false 2 [.op,.op],.op,.cX false 5 (RI.ops 5),.op])))))) .o2)))))) (.q (.q .o1 .aJ) (.q (.q .o3 (.k (.loop [(49,.I)] (.q .o1 (.q (.c .l .l) (.q (.k (.q .o3 (.q .o4 (.q .o6 .gA)))) .o2)))))) (.q .o4 .l))))))
def Zb.v (a:R2)(b:Sl)(c:Hp)(d:Sl->Int->Hp->Prop):Prop:=W8.c a c λe f=>If (!e) (d ⟨none,0,0⟩ 5 f) (Yf [.b,bO] (λg=>g false 0 f) λh (i:Bool) (j:Int) k=>If (j<((b.len:Nat):Int)) (Ix b.a b.len j 1 λl=>bN l k λm=>Xp.c a m k λn o p=>If (o != 0) (d ⟨none,0,0⟩ o p) (bX (λq r=>bX (λs t=>bM (j+1) λu=>h s u t) λv=>If q (v true r) (fH b 1 0 j (b.cap:Nat) λw=>Wv.c w m r λx y=>v x y)) λz=>If i (z true p) (z (!n) p))) (If i (d ⟨none,0,0⟩ 9 k) (Yf [bO] (λaa=>aa 0 k) λab (ac:Int) ad=>If (ac<((b.len:Nat):Int)) (Ix b.a b.len ac 1 λae=>bN ae ad λaf=>X4.c a af ad λag ah=>bG ag 2 ah λaj=>ZT.c aj af ah λak al=>bW ag λam=>bN ((am.add 0).add 0) al λan=>bM (an-1) λao=>bW ag λap=>dQ ((ap.add 0).add 0) (.I ao) al λaq=>bM (ac+1) λar=>ab ar aq) (X9.c a ad λau av=>d au 0 av))))
theorem Zb.o {a b c d}(e:Zb.v a b c d):Zb.c a b c d:=Wa Tryz.func267 (x:=Zb.h) (R0 e)
def Zc.h:Hn:=.q .o2 (.q .o1 (.q (.q .o6 (.k (.loop [(4,.one .p),(14,.I)] (.q .o1 (.q (.c .l .l) (.q (.k (.q .o2 (.q .o7 (.q (.cU (.gN true [] [(48,.one .b)] (.tk [0,1,2,3,4,5,6,7,8] (.all [(9,.take 10 (.take 11 (.split 34 (.take 12 (.take 13 (.take 14 (.split 37 (.take 15 (.take 16 (.take 17 (.take 18 (.take 19 (.take 20 (.take 21 (.take 22 (.take 23 (.take 24 (.take 25 (.done)))))))))))) (.take 15 (.take 16 (.take 17 (.take 19 (.take 20 (.take 21 (.all [(18,.all [(22,.all [(23,.take 24 (.take 25 (.done)))])]),(22,.all [(18,.all [(23,.take 24 (.take 25 (.done)))])])]))))))))))) (.take 12 (.take 13 (.take 14 (.take 15 (.take 16 (.take 17 (.take 18 (.take 19 (.take 20 (.take 21 (.take 22 (.take 23 (.take 24 (.take 25 (.done))))))))))))))))))])))) (.c .o2 .l))))) .o2)))))) (.q (.q .o2 .aJ) (.q .gA (.q .gA (.q .o3 .l))))))
def Zc.v (a:R2)(b:Hp)(c:Int->Bool->Hp->Prop):Prop:=bF a 3 b λe=>Yf [.p,bO] (λf=>f none 0 b) λg (h:R2) (i:Int) j=>If (i<((e.len:Nat):Int)) (bF a 3 j λl=>Ix l.a l.len i 3 λm=>Jn [.b] (λ(n:Bool) o=>If n (bM (i+1) λp=>g (some m) p o) (bM (i+1) λq=>g h q o)) λr=>dY j λs=>bW (some m) λt=>gJ s bO ((t.add 0).add 0) λ(u:Int)=>bW (some m) λv=>aU s v 2 λw=>YD.c w j λx y=>And (s y) <| If (u<x) (If h.isNone (r true y) (bW (some m) λz=>bW h λaa=>(bN ((z.add 0).add 0) y λab=>bN ((z.add 0).add 1) y λac=>And (s y) <| bN ((aa.add 0).add 0) y λad=>bN ((aa.add 0).add 1) y λae=>And (s y) <| Xm.c ab ac ad ae y λaf ag=>And (s ag) <| r af ag) ∧ (bN ((aa.add 0).add 0) y λah=>bN ((aa.add 0).add 1) y λai=>And (s y) <| bN ((z.add 0).add 0) y λaj=>bN ((z.add 0).add 1) y λak=>And (s y) <| Xm.c aj ak ah ai y λal am=>And (s am) <| r al am))) (r false y)) (If h.isNone (c 0 false j) (bG h 2 j λao=>ZR.c ao j λap aq ar=>bW h λau=>bN ((au.add 0).add 0) ar λav=>bM (av+1) λaw=>bW h λax=>dQ ((ax.add 0).add 0) (.I aw) ar λay=>c ap true ay))
theorem Zc.o {a b c}(d:Zc.v a b c):Zc.c a b c:=Wa Tryz.func285 (x:=Zc.h) (R0 d)
def YX.h:Hn:=.q .o2 (.q .o6 .l)
def YX.v (a b:Int)(c:R2)(d:Int)(e:Hp)(f:aN):Prop:=aV #[.I a,.I b,.pointer c] 279 e λg h=>bN ((g.add 0).add 1) h λi=>bM (i-d) λj=>f j h
theorem YX.o {a b c d e f}(g:YX.v a b c d e f):YX.c a b c d e f:=Wa Tryz.func292 (x:=YX.h) (R0 g)
def YO.h:Hn:=.q .o2 (.q (.q .o3 .aJ) (.q .o4 (.q (.q .o2 .aJ) (.q (.o 11) (.q (.oq 16) .l)))))
def YO.v (a:R2)(b:Int)(c:Hp)(d:Int->Int->Hp->Prop):Prop:=W8.c a c λe f=>If (!e) (d 0 5 f) (X4.c a b f λg h=>If g.isNone (d 0 8 h) (bG g 2 h λj=>Yn.c j b h λk l m=>bW g λn=>bN ((n.add 0).add 1) m λo=>bM (o*256) λp=>bW a λq=>bN ((q.add 0).add 0) m λr=>bM (k*r) λs=>bM (p+s) λt=>d t 0 m))
theorem YO.o {a b c d}(e:YO.v a b c d):YO.c a b c d:=Wa Tryz.func296 (x:=YO.h) (R0 e)
def Xp.h:Hn:=.q .o2 (.q (.q .o3 .aJ) (.q .o4 (.q (.q .o2 .aJ) (.q .gA .l))))
def Xp.v (a:R2)(b:Int)(c:Hp)(d:Bool->Int->Hp->Prop):Prop:=W8.c a c λe f=>If (!e) (d false 5 f) (X4.c a b f λg h=>If g.isNone (d false 8 h) (bG g 2 h λj=>YH.c j b h λk l m=>d k l m))
theorem Xp.o {a b c d}(e:Xp.v a b c d):Xp.c a b c d:=Wa Tryz.func299 (x:=Xp.h) (R0 e)
def X4.h:Hn:=.q .o1 (.q (.q .o6 (.k (.loop [(13,.I)] (.q .o1 (.q (.c .l .l) (.q (.k (.q .o2 (.q (.o 15) (.q .o2 (.c (.q .o7 .l) .l))))) .o2)))))) .aM)
def X4.v (a:R2)(b:Int)(c:Hp)(d:Option Addr->Hp->Prop):Prop:=bF a 3 c λf=>Yf [bO] (λg=>g 0 c) λh (i:Int) j=>If (i<((f.len:Nat):Int)) (bF a 3 j λl=>Ix l.a l.len i 3 λm=>aY m 2 j λn=>Yn.c n b j λo p q=>If (p==0) (bF a 3 q λs=>Ix s.a s.len i 3 λt=>d (some t) q) (bM (i+1) λu=>h u q)) (d none j)
theorem X4.o {a b c d}(e:X4.v a b c d):X4.c a b c d:=Wa Tryz.func310 (x:=X4.h) (R0 e)
def Xm.h:Hn:=.q .o3 (.q (.cU (.seq [.op,.op,.op,.op,.op,.op,.cX false 12 [.op,.op,.op,.op,.op,.op,.cX true 5 (RI.ops 5)],.op])) .l)
def Xm.v (a b c d:Int)(e:Hp)(f:aO):Prop:=aV #[.I a,.I b] 276 e λg h=>aV #[.I c,.I d] 276 h λi j=>aQ g 0 j λk=>aQ i 0 j λl=>bX (λm n=>f m n) λo=>If (k>l) (o true j) (aQ g 0 j λp=>aQ i 0 j λq=>bX (λr s=>o r s) λt=>If (p==q) (aQ g 1 j λu=>aQ i 1 j λv=>t (decide (u<v)) j) (t false j))
theorem Xm.o {a b c d e f}(g:Xm.v a b c d e f):Xm.c a b c d e f:=Wa Tryz.func315 (x:=Xm.h) (R0 g)
end Go.Proofs
namespace Go.Ar
open Go Go.Vc Go.Proofs
variable {U:Hp}{F:Rg}{p:Nat}{c:cA}{ps:List (Nat×Nat)}{ss:List cH}
def eD (ps:List (Nat×Nat)):List Nat:=ps.flatMap λx=>[x.1,x.2]
theorem HP {ps:List (Nat×Nat)}{b:Nat}:b∈eD ps↔∃x∈ps,b=x.1\/b=x.2:=by simp[eD]
def dU:List (Nat×Nat)->List cH->List Value
 | x::ps,s::ss=>.int .i64 (s.many:Int) :: .int .i64 (s.st:Int) :: .pointer (some ⟨x.1,0,none⟩)::dU ps ss
 | _,_=>[]
theorem KE:∀{ps:List (Nat×Nat)} {ss:List cH},ps.length=ss.length->(dU ps ss).length=3*ss.length
 | [],[],_=>rfl
 | x::ps,s::ss,h=>by simp only[dU,zS]at *;rw[KE O];omega
theorem Kl:∀{ps:List (Nat×Nat)} {ss:List cH} {i:Nat} {x:Nat×Nat} {s:cH},ps[i]?=some x->ss[i]?=some s →
 (dU ps ss)[3*i]?=some (.int .i64 (s.many:Int))/\(dU ps ss)[3*i+1]?=some (.int .i64 (s.st:Int))/\(dU ps ss)[3*i+2]?=some (.pointer (some ⟨x.1,0,none⟩))
 | [],_,_,_,_,h,_=>by simp at h
 | _::_,[],_,_,_,_,h=>by simp at h
 | y::ps,t::ss,0,x,s,h1,h2=>by simp at h1 h2;subst h1;subst h2;simp[dU]
 | y::ps,t::ss,i+1,x,s,h1,h2=>by
  have:=Kl (ps:=ps) (ss:=ss) (i:=i) (by simpa using h1) (by simpa using h2);simp only[dU];rw[show 3*(i+1)=3*i+3 by omega];simpa using this
theorem VR:∀{ps ps':List (Nat×Nat)} {ss ss':List cH},ps.length=ss.length->dU (ps++ps') (ss++ss')=dU ps ss++dU ps' ss'
 | [],_,[],_,_=>rfl
 | x::ps,_,s::ss,_,h=>by simp only[lN,dU,VR (ps:=ps) (ss:=ss) (by simpa using h)]
theorem LO:∀{ps:List (Nat×Nat)} {ss:List cH},∀v∈dU ps ss,dV v=true
 | [],_,v,h=>by simp[dU]at h
 | _::_,[],v,h=>by simp[dU]at h
 | x::ps,s::ss,v,h=>by
  simp only[dU,zW]at h;rcases h with rfl|rfl|rfl|h
  ·rfl
  ·rfl
  ·rfl
  ·exact LO v h
structure fI (U:Hp) (F:Rg) (p:Nat) (c:cA) (ps:List (Nat×Nat)) (ss:List cH):Prop where
 hd:∃sl:Sl,bY U p [.int .i64 (c.size:Int),.int .i64 (c.aG:Int),.int .i64 (c.batch:Int),.slice sl.a sl.len sl.cap]/\bT sl 3 (dU ps ss) U (λb=>F b/\b≠p/\b∉eD ps)
 sp:∀(i:Nat) (x:Nat×Nat) s,ps[i]?=some x->ss[i]?=some s->ij U x.1 x.2 c s
 fp:F p
 fb:∀b∈eD ps,F b
 nd:(p::eD ps).Nodup
 len:ps.length=ss.length
 ok:c.ok
 rF:ss.Pairwise (λa b=>a.st<b.st)
theorem fI.loc:dN λU F=>fI U F p c ps ss:=λU B F G h J j=>by
 obtain⟨sl,a,u⟩:=h.hd;have bS:∀b,b<U.size->F b->B[b]?=U[b]? := λb a d=>(j b a d).2;have z:∀{b:Nat} {cs:List Value},bY U b cs->F b->bY B b cs:=by
  rintro b cs ⟨e,C⟩ d;exact⟨e,(bS b (bY.lt ⟨e,C⟩) d).trans C⟩
 have lt:∀b∈eD ps,b<U.size:=by
  intro b a;obtain⟨x,m,A⟩:=HP.1 a;obtain⟨i,hi⟩:=zP m;have y:=(cY.1 hi).1;have:=(h.sp i x _ hi (cW (by rw[←h.len];exact y))).lt;rcases A with rfl|rfl
  ·exact this.1
  ·exact this.2
 refine⟨⟨sl,z a h.fp,bT.loc _ _ _ _ _ _ _ u J λb a d=>⟨⟨(j b a d.1).1,d.2⟩,(j b a d.1).2⟩⟩,λi x s m w=>?_,(j p a.lt h.fp).1,λb a=>(j b (lt b a) (h.fb b a)).1,h.nd,h.len,h.ok,h.rF⟩;have g:=h.sp i x s m w;have K:x.1∈eD ps:=HP.2 ⟨x,zG m,.inl rfl⟩;have H:x.2∈eD ps:=HP.2 ⟨x,zG m,.inr rfl⟩;obtain⟨D,E,hd⟩:=g.hd;obtain⟨r,u⟩:=g.row;exact⟨⟨D,E,z hd (h.fb _ K)⟩,⟨r,z u (h.fb _ H)⟩,g.ne,g.len,g.ok,g.fit⟩
theorem fI.bP {σ':Hp}(h:fI U F p c ps ss)(e:aF U σ'):fI σ' F p c ps ss:=dN.bP fI.loc h e
theorem fI.qt (h:fI U F p c ps ss):ss.length<=1024:=by
 have key:∀i (hi:i<ss.length),i<=ss[i].st:=by
  intro i
  induction i with
  | zero=>intro _;omega
  | succ i ih=>
   intro hi;have b:=ih O;have g:=mC.1 h.rF i (i+1) O hi O;omega
 rcases Cz ss.length with h0|h0
 ·omega
 ·have a:ss.length-1<ss.length:=by omega
  have b:=key _ a;have d:ss.length-1<ps.length:=by rw[h.len];exact a
  have g:=(h.sp _ _ _ (cW d) (cW a)).fit;have:=h.ok.2.2.2.1;omega
structure sR (U:Hp) (F:Rg) (p:Nat) (ps:List (Nat×Nat)) (ss:List cH) (sl:Sl) (rb:Nat) (cs:List Value):Prop where
 a:sl.a=some ⟨rb,0,none⟩
 bV:bY U rb cs
 fr:F rb/\rb≠p/\rb∉eD ps
 get:∀{j:Nat} {v:Value},(dU ps ss)[j]?=some v->cs[j]?=some v
 DK:3*ss.length<=cs.length
theorem fI.sl (h:fI U F p c ps ss):∃sl:Sl,bY U p [.int .i64 (c.size:Int),.int .i64 (c.aG:Int),.int .i64 (c.batch:Int),.slice sl.a sl.len sl.cap]/\sl.len=ss.length/\(ss≠[]->∃rb cs,sR U F p ps ss sl rb cs):=by
 obtain⟨sl,r,m⟩:=h.hd;have s:=m.1;rw[KE h.len]at s;refine⟨sl,r,O,λg=>?_⟩;have i:0<ss.length:=oa.2 g;rcases m.2 with⟨h0,_⟩|⟨b,cs,hq,ha,hbb,hle,hcl,ht⟩
 ·omega
 ·refine⟨b,cs,ha,hbb,hq,λ{j v} d=>?_,?_⟩
  ·rw[←ht,zm]at d;split at d
   ·exact d
   ·cases d
  ·have:=congrArg List.length ht;rw[zY,KE h.len]at this;omega
theorem fI.jO (h:fI U F p c ps ss){i:Nat}(hi:i<ss.length):∃x s,ps[i]?=some x/\ss[i]?=some s/\ij U x.1 x.2 c s:=by
 have a:i<ps.length:=by rw[h.len];exact hi
 have b:ps[i]?=some ps[i]:=cW a;exact⟨_,_,b,cW hi,h.sp i _ _ b (cW hi)⟩
theorem UA (h:fI U F p c ps ss){R:aO}(hR:R true U):W8.c (aW p) U R:=by
 refine W8.o ?_;unfold W8.v;obtain⟨sl,a,g,d⟩:=h.sl;have b:=h.ok;unfold cA.ok at b;refine bX.intro (cE rfl (bL (a.fD rfl ?_)));rw[zI O];exact hR
def iN (x:Int):Prop:=x<=9223372036854775807
theorem Dc (h:fI U F p c ps ss)(x:Int)(hx:iN x){R:Option Addr->Hp->Prop}(h0:kY c ss x=none->R none U)
 (h1:∀(i:Nat) sl rb cs,kY c ss x=some i->i<ss.length->bY U p [.int .i64 (c.size:Int),.int .i64 (c.aG:Int),.int .i64 (c.batch:Int),.slice sl.a sl.len sl.cap]->sR U F p ps ss sl rb cs->R (some ⟨rb,3*i,none⟩) U):X4.c (aW p) x U R:=by
 refine X4.o ?_;unfold X4.v;obtain⟨sl,A,Q,J⟩:=h.sl;have G:=h.qt;refine bL (A.rS rfl ?_);refine Qz (a:=bO) (λ(t:Int) D=>∃i:Nat,t=(i:Int)/\i<=ss.length/\D=U/\∀(j:Nat) s,j<i->ss[j]?=some s->idx c s x=none) (λt _=>ss.length-t.toNat) ⟨0,rfl,O,rfl,λj s z=>O⟩ ?_;rintro t D ⟨i,rfl,hi,rfl,d⟩;refine cP (λC=>?_) λB=>?_
 ·simp only at C;have b:i<ss.length:=by omega
  obtain⟨P,s,M,y,H⟩:=h.jO b;obtain⟨rb,cs,E⟩:=J (by rintro rfl;simp at b);have K:=Kl M y;refine bL (A.rS rfl ?_);rw[E.a];refine ix O O ?_;rw[add_lit];refine E.bV.rP (x:=some ⟨P.1,0,none⟩) ?_ ?_
  ·have:=E.get K.2.2;rw[show 0+(i:Int).toNat*3+2=3*i+2 by omega];exact this
  have w:∀r,idx c s x=some r->kY c ss x=some i:=by
   intro r u;refine nK.2 ⟨b,?_,λj z=>?_⟩
   ·have:ss[i]=s:=by rw[cW b]at y;simpa using y
    rw[this,u];rfl
   ·rw[d j _ z (cW O)];simp
  refine C7 H x hx (λr u=>cE rfl (bL (A.rS rfl ?_))) λN=>cD rfl ?_
  ·rw[E.a];refine ix O O ?_;rw[add_lit,show 0+(i:Int).toNat*3=3*i by omega];exact h1 i sl rb cs (w r u) b A E
  ·refine cT (m:=i+1) O O ⟨⟨i+1,rfl,O,rfl,λj L z g=>?_⟩,O⟩;by_cases e:j=i
   ·subst e;rw[y]at g;cases g;exact N
   ·exact d j L O g
 ·refine h0 ?_;refine vB.2 λs y=>?_;obtain⟨j,z⟩:=zP y;have:=(cY.1 z).1;rw[d j s (by simp only at B;omega) z];rfl
theorem Uh {x:Int}{k:Nat}{s:cH}(hk:kY c ss x=some k)(hs:ss[k]?=some s):eH c ss x=(obj c s x).map s.is:=by
 unfold eH;rw[hk];simp only[hs];rfl
theorem Di {x:Int}(hk:kY c ss x=none):eH c ss x=none:=by unfold eH;rw[hk]
theorem Ii (h:fI U F p c ps ss)(x:Int)(hx:iN x){R:Bool->Int->Hp->Prop}(h1:∀b,eH c ss x=some b->R b 0 U)(h0:eH c ss x=none->R false 8 U):Xp.c (aW p) x U R:=by
 refine Xp.o ?_;unfold Xp.v;refine UA h (cD rfl (Dc h x hx (λa=>cE rfl (h0 (Di a))) λi sl A B d hi C E=>cD rfl (bL ?_)));obtain⟨y,s,u,g,r⟩:=h.jO hi;have z:=Kl u g;refine E.bV.rP (x:=some ⟨y.1,0,none⟩) (E.get z.2.2) ?_;have m:=Uh d g;exact Mi r x hx (λj w=>h1 _ (by rw[m,w];rfl)) λa=>h0 (by rw[m,a];rfl)
theorem GJ {x:Int}{k:Nat}{s:cH}(hk:kY c ss x=some k)(hs:ss[k]?=some s):rK c ss x=(idx c s x).map (at_ c s):=by
 unfold rK;rw[hk];simp only[hs]
theorem EH {x:Int}(hk:kY c ss x=none):rK c ss x=none:=by unfold rK;rw[hk]
theorem ND {x:Int}{k:Nat}{s:cH}(hk:kY c ss x=some k)(hs:ss[k]?=some s):∃i,idx c s x=some i:=by
 obtain⟨hi,a,_⟩:=nK.1 hk;have:ss[k]=s:=by rw[cW hi]at hs;simpa using hs
 rw[this]at a;exact pc.1 a
theorem Tw (h:fI U F p c ps ss)(x:Int)(hx:iN x){R:Int->Int->Hp->Prop}(h1:∀a,rK c ss x=some a->R (a:Int) 0 U)(h0:rK c ss x=none->R 0 8 U):YO.c (aW p) x U R:=by
 refine YO.o ?_;unfold YO.v;refine UA h (cD rfl (Dc h x hx (λb=>cE rfl (h0 (EH b))) λi sl L J g hi H E=>cD rfl (bL ?_)));obtain⟨G,s,C,w,u⟩:=h.jO hi;have A:=Kl C w;obtain⟨r,j⟩:=ND g w;have B:=GJ g w;have D:=h.ok;unfold cA.ok at D;have y:=((Un O).1 j).2.2;rw[u.len]at y;have b:=h.ok.kP;have z:=u.fit;have M:r*c.size<=128*512:=mu O O;refine E.bV.rP (x:=some ⟨G.1,0,none⟩) (E.get A.2.2) ?_;refine C7 u x hx (λK d=>?_) λb=>by rw[j]at b;cases b
 rw[j]at d;cases d;refine bL (E.bV.fD (x:=s.st) (E.get A.2.1) (cT (m:=s.st*256) aA O (bL (H.fD rfl ?_))));refine cT (m:=r*c.size) aA O (cT (m:=at_ c s r) (by simp[at_]) (by unfold at_;omega) (h1 _ (by rw[B,j];rfl)))
theorem xe {h:Hp}{rb i:Nat}{cs:List Value}{x y:Int}{z:Option Addr}{e:Nat}(hb:bY h rb cs)(h0:cs[3*i]?=some (.int .i64 x))(h1:cs[3*i+1]?=some (.int .i64 y))(h2:cs[3*i+2]?=some (.pointer z))
 {K:Int->Int->Option Addr->Prop} (hK:K x y z):gI .i64 (Addr.add ⟨rb,3*i,none⟩ 0) h λu=>gI .i64 (Addr.add ⟨rb,3*i,none⟩ 1) h λv=>fX (Addr.add ⟨rb,3*i,none⟩ 2) h λw=>K u v w:=
 hb.rI h0 (hb.rI h1 (hb.rP h2 hK))
theorem I0 {h:Hp}{x y:Int}{z:Option Addr}{e:Nat}{K:Addr->Hp->Prop}(hK:∀h',aF h h'->bY h' h.size [.int .i64 x,.int .i64 y,.pointer z]->K ⟨h.size,0,none⟩ h') :
 Nw (.cells #[.int .i64 0,.int .i64 0,.pointer none] e (0,0)) h λn v=>dQ (n.add 0) (.int .i64 x) v λv1=>dQ (n.add 1) (.int .i64 y) v1 λv2=>dQ (n.add 2) (.pointer z) v2 λv3=>K n v3:=by
 refine nw (cs:=[.int .i64 0,.int .i64 0,.pointer none]) λv j e d=>d.s1 aA λv1 o1 b=>b.s1 aA λv2 o2 a=>a.s1 aA λv3 o3 g=>?_;refine hK v3 ?_ g;exact Ext.fresh (Ext.fresh (Ext.fresh e o1.ext λi hi=>O) o2.ext λi hi=>O) o3.ext λi hi=>by omega
def iP (c:cA)(l:List Nat):List Value:=l.flatMap λ(s:Nat)=>[.int .i64 (s:Int),.int .i64 (c.aG:Int)]
theorem Rr (c:cA)(l:List Nat):(iP c l).length=2*l.length:=by
 induction l with
 | nil=>rfl
 | cons x l ih=>simp only[iP,nY,zK,zS,lf]at *;omega
theorem SZ (hc:c.ok){R:Option Addr->Int->Hp->Prop}(hR:∀σ' p,aF U σ'->U.size<=p->p<σ'.size->fI σ' (· = p) p c [] []->R (some ⟨p,0,none⟩) 0 σ'):QK.c c.size c.aG c.batch U R:=by
 refine QK.o ?_;unfold QK.v;refine nw (cs:=[.int .i64 c.size,.int .i64 c.aG,.int .i64 c.batch]) λv y e d=>?_;refine d.rI rfl (d.rI rfl (d.rI rfl (Fc _ _ _ (λs r e1 e2 x w i=>?_) λb=>?_)))
 case refine_2=>rw[(Ls c).2 hc]at b;cases b
 have a:=i.bV d id;refine cD rfl (a.rI rfl (a.rI rfl (a.rI rfl (nw (cs:=[.int .i64 c.size,.int .i64 c.aG,.int .i64 c.batch,.slice none 0 0]) λu m g j=>?_))));exact hR _ _ ((e.trans i).trans g) (by have:=i.1;omega) O ⟨⟨⟨none,0,0⟩,j,bT.nil _ _ _ _⟩,by simp,rfl,by simp[eD],by simp[eD],rfl,hc,by simp⟩
theorem Py (a b a' b':Nat){R:aO}(hR:∀σ',aF U σ'->R (decide (a>a')||(a==a'&&decide (b<b'))) σ'):Xm.c (a:Int) (b:Int) (a':Int) (b':Int) U R:=by
 refine Xm.o ?_;unfold Xm.v;refine nw (cs:=[.int .i64 a,.int .i64 b]) λv s e p=>nw (cs:=[.int .i64 a',.int .i64 b']) λr m e1 i=>?_;have g:=e1.bV p id;have d:=hR _ (e.trans e1);refine g.rI rfl (i.rI rfl (bX.intro (cP (λh=>?_) λh=>?_)))
 ·have:decide (a>a')=true:=by simpa using h
  rw[this,Bool.true_or]at d;exact d
 ·have:decide (a>a')=false:=by simpa using h
  rw[this,xz]at d;refine g.rI rfl (i.rI rfl (bX.intro ?_));rw[lX];refine cO (λj=>?_) λj=>?_
  ·rw[j,qT]at d;refine g.rI rfl (i.rI rfl ?_);have:decide ((b:Int)<(b':Int))=decide (b<b'):=by rw[decide_eq_decide];omega
   rw[this];exact d
  ·rw[j,vo]at d;exact d
theorem Km:∀{i k:Nat},ZF ss i=some k->k<i/\∃s,ss[k]?=some s/\s.many<s.tk.length
 | 0,_,h=>by simp[ZF]at h
 | i+1,k,h=>by
  have up:ZF ss i=some k->k<i+1/\∃s,ss[k]?=some s/\s.many<s.tk.length:=λh=>by
   have:=Km h;exact⟨O,this.2⟩
  simp only[ZF]at h;split at h
  ·rename_i x hx;split at h
   ·rename_i hlt;have a:i<i+1/\∃s,ss[i]?=some s/\s.many<s.tk.length:=⟨O,x,hx,hlt⟩;split at h
    ·rename_i j hj;split at h
     ·split at h
      ·cases h;exact a
      ·cases h;exact up hj
     ·cases h;exact a
    ·cases h;exact a
   ·exact up h
  ·exact up h
theorem Al {s:cH}(h:s.many<s.tk.length):∃i,low s=some i/\i<s.tk.length/\s.is i=false:=by
 unfold low;cases hf:s.tk.findIdx? (· == false)with
 | some i=>
  obtain⟨hi,b,_⟩:=nK.1 hf;refine⟨i,rfl,hi,?_⟩;have:s.tk[i]=false:=by simpa using b
  simp[cH.is,zQ,cW hi,this]
 | none=>
  exfalso;have a:=vB.1 hf;have:s.many=s.tk.length:=by
   unfold cH.many;rw[List.count_eq_length];intro x hx;have:=a x hx;cases x
   ·simp at this
   ·rfl
  omega
theorem EW:∀{ps:List (Nat×Nat)} {ss:List cH} {k:Nat} {s s':cH},ps.length=ss.length->ss[k]?=some s->s'.st=s.st->dU ps (ss.set k s')=(dU ps ss).set (3*k) (.int .i64 (s'.many:Int))
 | [],[],_,_,_,_,h,_=>by simp at h
 | [],_::_,_,_,_,h,_,_=>by simp at h
 | _::_,[],_,_,_,_,h,_=>by simp at h
 | x::ps,t::ss,0,s,s',_,h,e=>by simp at h;subst h;simp[dU,e]
 | x::ps,t::ss,k+1,s,s',hl,h,e=>by
  simp only[tI,dU];rw[EW (ps:=ps) (ss:=ss) (s:=s) (by simpa using hl) (by simpa using h) e];rw[show 3*(k+1)=3*k+1+1+1 by omega];simp
theorem P8 {h:Hp}{b:Nat}{cs cs':List Value}(h1:bY h b cs)(h2:bY h b cs'):cs=cs':=by
 obtain⟨e,d⟩:=h1;obtain⟨g,a⟩:=h2;rw[d]at a;simp only[Option.some.injEq,Obj.cells.injEq]at a;simpa using congrArg Array.toList a.1
theorem Q0 {x:Nat×Nat}{i:Nat}(hx:ps[i]?=some x):x.1∈eD ps/\x.2∈eD ps:=
 ⟨HP.2 ⟨x,zG hx,.inl rfl⟩,HP.2 ⟨x,zG hx,.inr rfl⟩⟩
theorem Lj:∀{ps:List (Nat×Nat)},(eD ps).Nodup->∀{i j:Nat} {x y:Nat×Nat},ps[i]?=some x->ps[j]?=some y->i≠j->∀b,(b=x.1\/b=x.2)->¬(b=y.1\/b=y.2)
 | [],_,_,_,_,_,h,_,_=>by simp at h
 | z::ps,hn,i,j,x,y,h1,h2,hij=>by
  have hn':z.1∉eD ps/\z.2∉eD ps/\z.1≠z.2/\(eD ps).Nodup:=by
   simp only[eD,nY,lN,rH,zj,zW,not_or]at hn;exact⟨hn.1.2,hn.2.1,hn.1.1,hn.2.2⟩
  intro b hb hb'
  match i,j,hij with
  | 0,0,h=>exact h rfl
  | 0,j+1,_=>
   simp at h1;subst h1;have:=Q0 (ps:=ps) (i:=j) (by simpa using h2);rcases hb with rfl|rfl<;>rcases hb' with e|e<;>rw[e]at hn'<;>simp[this]at hn'
  | i+1,0,_=>
   simp at h2;subst h2;have:=Q0 (ps:=ps) (i:=i) (by simpa using h1);rcases hb with rfl|rfl<;>rcases hb' with e|e<;>rw[←e]at hn'<;>simp[this]at hn'
  | i+1,j+1,h=>exact Lj hn'.2.2.2 (by simpa using h1) (by simpa using h2) O b hb hb'
theorem fI.oO (h:fI U F p c ps ss){k:Nat}{x:Nat×Nat}{s s':cH}(hx:ps[k]?=some x)(hs:ss[k]?=some s)(hst:s'.st=s.st){σ1:Hp}(e1:Ext (λb=>b=x.1\/b=x.2) U σ1)(hS:ij σ1 x.1 x.2 c s')
 {sl:Sl} {rb:Nat} {cs:List Value} (hb:bY U p [.int .i64 (c.size:Int),.int .i64 (c.aG:Int),.int .i64 (c.batch:Int),.slice sl.a sl.len sl.cap]) (E:sR U F p ps ss sl rb cs)
 {K:aP} (hK:∀σ2,Ext F U σ2->fI σ2 F p c ps (ss.set k s')->K σ2):dQ ⟨rb,3*k,none⟩ (.int .i64 (s'.many:Int)) σ1 K:=by
 obtain⟨nk,G,N⟩:=h.hd;have D:nk=sl:=by
  have:=P8 G hb;simp at this;obtain⟨a,n,c⟩:=sl;obtain⟨S,V,Q⟩:=nk;simp at this ⊢;exact this
 subst D;have m:=Q0 hx;have g:=h.nd;simp only[zj]at g;have z:=(cY.1 hs).1;have C:=(bT.loc nk 3 (dU ps ss)).bS N e1 λb hb P=>λd=>P.2.2 (by rcases d with rfl|rfl;exact m.1;exact m.2);have J:=e1.bV hb λd=>g.1 (by rcases d with h|h<;>rw[h];exact m.1;exact m.2)
 refine C.st (j:=3*k) (by rw[KE h.len];omega) (λb w=>by rw[E.a]at w;cases w;rfl) λσ2 e2 B=>?_;have H:Ext F U σ2:=(e1.sub λi hi=>h.fb i (by rcases hi with rfl|rfl;exact m.1;exact m.2)).trans (e2.sub λi hi=>hi.1);refine hK σ2 H ⟨⟨nk,e2.bV J λd=>d.2.1 rfl,?_⟩,λi y t u A=>?_,h.fp,h.fb,h.nd,by simpa using h.len,h.ok,?_⟩
 ·rw[EW h.len hs hst];exact B
 ·have r:=Q0 u;have k2:ij σ1 y.1 y.2 c t:=by
   by_cases hik:i=k
   ·subst hik;rw[hx]at u;cases u;rw[zO z]at A;cases A;exact hS
   ·rw[zh (Ne.symm hik)]at A;have L:=Lj g.2 u hx hik;exact(h.sp i y t u A).bS e1 (L _ (.inl rfl)) (L _ (.inr rfl))
  exact k2.bS e2 (λd=>d.2.2 r.1) (λd=>d.2.2 r.2)
 ·have:(ss.set k s').map (·.st)=ss.map (·.st):=by
   apply zt;intro i;simp only[zZ];by_cases hik:i=k
   ·subst hik;rw[zO z,hs];simp[hst]
   ·rw[zh (Ne.symm hik)]
  have M:=h.rF;rw[←rp (f:=cH.st) (R:=(· < ·))]at M ⊢;rw[this];exact M
theorem S8 (h:fI U F p c ps ss){R:Int->Bool->Hp->Prop}(h1:∀x ss',jc c ss=some (x,ss')->∀σ',Ext F U σ'->fI σ' F p c ps ss'->R (x:Int) true σ')(h0:jc c ss=none->∀σ',aF U σ'->R 0 false σ') :
 Zc.c (aW p) U R:=by
 refine Zc.o ?_;unfold Zc.v;obtain⟨sl,Y,hl,hr⟩:=h.sl;have hfew:=h.qt;have hn:=h.ok.kP;obtain⟨d,cs,E⟩:∃d cs,ss≠[]->sR U F p ps ss sl d cs:=by
  by_cases hne:ss=[]
  ·exact⟨0,[],λh=>absurd hne h⟩
  ·obtain⟨d,cs,E⟩:=hr hne;exact⟨d,cs,λ_=>E⟩
 refine bL (Y.rS rfl ?_);refine UI (a:=.p) (bb:=bO) (λ(iR:Option Addr) (t:Int) H=>∃i:Nat,t=(i:Int)/\i<=ss.length/\aF U H/\iR=(ZF ss i).map λk=>⟨d,3*k,none⟩) (λ_ t _=>ss.length-t.toNat) ⟨0,rfl,O,Ext.refl _ _,rfl⟩ ?_;rintro iR t H ⟨i,rfl,hi,e,rfl⟩;refine cP (λhlt=>?_) λV=>?_
 ·simp only at hlt;have N:i<ss.length:=by omega
  have E:=E (by rintro rfl;simp at N);obtain⟨P,s,M,G,u⟩:=h.jO N;have A:=Kl M G;have hsl:=u.len;refine bL ((e.bV Y id).rS rfl ?_);rw[E.a];refine ix O O ?_;rw[add_lit,show 0+(i:Int).toNat*3=3*i by omega];have Eb:=e.bV E.bV id;have B:ZF ss (i+1)=if s.many<s.tk.length then(match ZF ss i with
   | some j=>match ss[j]? with
    | some y=>if xD s y then some i else some j
    | none=>some i
   | none=>some i)else ZF ss i:=by
   simp only[ZF,G];rfl
  have J:∀(r:Bool) (v:Hp),aF U v->(if r then some i else ZF ss i)=ZF ss (i+1) →
   If r (Ar .i64 ((i:Int)+1) λb=>(∃j:Nat,b=(j:Int)/\j<=ss.length/\aF U v/\some (⟨d,3*i,none⟩:Addr)=(ZF ss j).map λk=>⟨d,3*k,none⟩)/\ss.length-b.toNat<ss.length-(i:Int).toNat)
    (Ar .i64 ((i:Int)+1) λb=>(∃j:Nat,b=(j:Int)/\j<=ss.length/\aF U v/\((ZF ss i).map λk=>(⟨d,3*k,none⟩:Addr))=(ZF ss j).map λk=>⟨d,3*k,none⟩)/\ss.length-b.toNat<ss.length-(i:Int).toNat):=by
   intro r v ev hr';cases r
   ·refine cD rfl (cT (m:=i+1) O O ⟨⟨i+1,rfl,O,ev,?_⟩,O⟩);rw[←hr'];rfl
   ·refine cE rfl (cT (m:=i+1) O O ⟨⟨i+1,rfl,O,ev,?_⟩,O⟩);rw[←hr'];rfl
  refine Jn.intro ⟨λD=>bY D d cs,Eb,bL ⟨_,λD u=>by rw[add_lit,add_lit,u.cell];exact E.get A.1,bL ⟨_,λD u=>by rw[add_lit,u.cell];exact E.get A.2.2,?_⟩⟩⟩;refine PC (u.bP e) ⟨Eb,?_⟩;refine cP (λhlt2=>?_) λhge2=>?_
  ·have hm:s.many<s.tk.length:=by omega
   rw[zC hm]at B;cases hbf:ZF ss i with
   | none=>
    rw[hbf]at B J;exact cE rfl (J true H e B.symm)
   | some j=>
    rw[hbf]at B J;obtain⟨hji,y,hy,hym⟩:=Km hbf;simp only[hy]at B;have X:j<ps.length:=by rw[h.len];omega
    have z:=Kl (cW X) hy;have fin:Xm.c (s.many:Int) (s.st:Int) (y.many:Int) (y.st:Int) H λW v3=>bY v3 d cs ∧
     If W (Ar .i64 ((i:Int)+1) λb=>(∃j:Nat,b=(j:Int)/\j<=ss.length/\aF U v3/\some (⟨d,3*i,none⟩:Addr)=(ZF ss j).map λk=>⟨d,3*k,none⟩)/\ss.length-b.toNat<ss.length-(i:Int).toNat)
      (Ar .i64 ((i:Int)+1) λb=>(∃j':Nat,b=(j':Int)/\j'<=ss.length/\aF U v3/\((some j).map λk=>(⟨d,3*k,none⟩:Addr))=(ZF ss j').map λk=>⟨d,3*k,none⟩)/\ss.length-b.toNat<ss.length-(i:Int).toNat):=by
     refine Py _ _ _ _ λv3 e3=>⟨e3.bV Eb id,J _ v3 (e.trans e3) ?_⟩;rw[B];rfl
    refine cD rfl (bL (bL ⟨?_,?_⟩))
    ·exact Eb.fD (E.get A.1) (Eb.fD (E.get A.2.1) ⟨Eb,Eb.fD (E.get z.1) (Eb.fD (E.get z.2.1) ⟨Eb,fin⟩)⟩)
    ·exact Eb.fD (E.get z.1) (Eb.fD (E.get z.2.1) ⟨Eb,Eb.fD (E.get A.1) (Eb.fD (E.get A.2.1) ⟨Eb,fin⟩)⟩)
  ·have hm:¬s.many<s.tk.length:=by omega
   rw[zB hm]at B;exact J false H e B.symm
 ·have hii:i=ss.length:=by simp only at V;omega
  subst hii;cases hbf:ZF ss ss.length with
  | none=>
   refine cE rfl (h0 ?_ _ e);simp[jc,iR,hbf]
  | some k=>
   obtain⟨hk,s,G,S⟩:=Km hbf;have E:=E (by rintro rfl;simp at hk);obtain⟨P,s',M,K,u⟩:=h.jO hk;rw[G]at K;cases K;have A:=Kl M G;obtain⟨r,C,aa,Q⟩:=Al S;have H:=h.bP e;have one:jc c ss=some (at_ c s r,ss.set k (s.put r true)):=by simp[jc,iR,hbf,G,C]
   have E':sR _ F p ps ss sl d cs:=⟨E.a,e.bV E.bV id,E.fr,E.get,E.DK⟩;refine cD rfl (bL (E'.bV.rP (x:=some ⟨P.1,0,none⟩) (E.get A.2.2) ?_));refine Oz (u.bP e) C λv5 e5 ab=>bL ?_;have L:=Q0 M;have Z:¬(d=P.1\/d=P.2):=λhh=>E.fr.2.2 (by rcases hh with h|h<;>rw[h];exact L.1;exact L.2)
   have hml:=D0 s;have g:=Af aa true;rw[Q]at g;have w:(s.put r true).many=s.many+1:=by simp at g;omega
   have hsl:=u.len;refine(e5.bV E'.bV Z).fD (E.get A.1) (cT (m:=s.many+1) O O (bL ?_));rw[add_lit,add_lit,kA,kA,←w];exact H.oO (s':=s.put r true) M G rfl e5 ab (e.bV Y id) E' λv6 e6 h6=>h1 _ _ one v6 (e.to.trans e6) h6
theorem R6 {k:Nat}{s s':cH}(hs:ss[k]?=some s):pD (ss.set k s')+(s.tk.length-s.many)=pD ss+(s'.tk.length-s'.many):=by
 unfold pD
 induction ss generalizing k with
 | nil=>simp at hs
 | cons x ss ih=>
  cases k with
  | zero=>simp at hs;subst hs;simp;omega
  | succ k=>
   have:=ih (by simpa using hs);simp only[tI,zR,ox];omega
theorem Sb {x:Nat}{ss':List cH}(h:jc c ss=some (x,ss')):pD ss'+1=pD ss:=by
 unfold jc at h;split at h
 ·rename_i k hk;obtain⟨_,s,j,b⟩:=Km hk;rw[j]at h;simp only at h;split at h
  ·rename_i i hi;cases h;obtain⟨r,m,d,a⟩:=Al b;rw[hi]at m;cases m;have p:=R6 (s':=s.put i true) j;have g:=Af d true;rw[a]at g;have u:(s.put i true).tk.length=s.tk.length:=by simp[cH.put]
   simp at g;omega
  ·cases h
 ·cases h
theorem fI.room (h:fI U F p c ps ss):pD ss<=131072:=by
 have key:∀l:List cH,(∀s∈l,s.tk.length<=128)->pD l<=128*l.length:=by
  intro l
  induction l with
  | nil=>intro _;simp[pD]
  | cons x l ih=>
   intro hl;have j:=hl x aA;have m:=ih λs b=>hl s (by simp[b]);simp only[pD,zR,ox,zS]at *;omega
 have:=key ss λs b=>by
  obtain⟨i,hi⟩:=zP b;have d:=(cY.1 hi).1;obtain⟨x,r,_,a,g⟩:=h.jO d;rw[hi]at a;cases a;rw[g.len];exact h.ok.kP
 have:=h.qt;omega
theorem GM {m:Nat}{x:Nat}{ss':List cH}(h:jc c ss=some (x,ss')):KI c (m+1) ss=(x::(KI c m ss').1,(KI c m ss').2):=by
 simp[KI,h]
theorem Pq (h:fI U F p c ps ss)(m:Int)(hm:0<=m){R:Sl->Int->Hp->Prop}
 (hR:∀s σ',Ext F U σ'->bT s 1 (ints (KI c m.toNat ss).1) σ' (λb=>U.size<=b)->fI σ' (Cut F U) p c ps (KI c m.toNat ss).2->R s 0 σ'):Xu.c (aW p) m U R:=by
 refine Xu.o ?_;unfold Xu.v;have h:=fI.loc.cut h;have K:=fI.room h;refine UA h (cD rfl (fZ O ?_));refine Qz (a:=.s) (λ(out:Sl) C=>∃j d,Ext F U C/\bT out 1 (ints j) C (λb=>U.size<=b)/\fI C (Cut F U) p c ps d/\j.length<=m.toNat/\j.length+pD d=pD ss/\KI c m.toNat ss=(j++(KI c (m.toNat-j.length) d).1,(KI c (m.toNat-j.length) d).2))
  (λout _=>m.toNat-out.len) ⟨[],ss,Ext.refl _ _,bT.nil _ _ _ _,h,by simp,by simp,by simp⟩ ?_
 rintro out C ⟨j,d,e,g,E,Q,S,u⟩;have M:=g.oS;refine cP (λW=>?_) λV=>?_
 ·have r:m.toNat-j.length=(m.toNat-(j.length+1))+1:=by omega
  refine S8 E (λx J w v2 e2 H=>cD rfl ?_) λz v2 e2=>cE rfl ?_
  ·have B:Ext F U v2:=e.trans (e2.sub λi hi=>hi.1);have y:=aI.bS g e2 λb _ D N=>by have:=N.2;omega
   refine y.push (vs:=[.int .i64 (x:Int)]) (λb D=>ky B.1 D) rfl rfl (by simp[dV]) O O λs' Z Y L G=>?_;have P:=Sb w;refine⟨⟨j++[x],J,B.dW L λi hi=>.inr hi,by rw[Hv];exact G,fI.loc.bS H L λb _ D N=>(by have:=D.2;omega),by simp;omega,by simp;omega,?_⟩,O⟩;rw[u,r,GM w];simp
  ·have:KI c (m.toNat-j.length) d=([],d):=by rw[r];simp[KI,z]
   rw[this]at u;have A:=hR out v2 (e.trans e2.to);rw[u,kE]at A;exact A (aI.bP g e2) (E.bP e2)
 ·have X:m.toNat-j.length=0:=by omega
  rw[X]at u;have A:=hR out C e;rw[u]at A;simp only[KI,kE]at A;exact A g E
theorem Pk (h:fI U F p c ps ss)(m:Int)(hm:m<0){R:Sl->Int->Hp->Prop}(hR:R ⟨none,0,0⟩ 1 U):Xu.c (aW p) m U R:=by
 refine Xu.o ?_;unfold Xu.v;exact UA h (cD rfl (mr O hR))
def iY:List (Nat×Nat)->List cH->List (Nat×Nat)
 | x::ps,s::ss=>if s.many != 0 then x::iY ps ss else iY ps ss
 | _,_=>[]
theorem GQ:∀{ps:List (Nat×Nat)} {ss:List cH},ps.length=ss.length->(iY ps ss).length=(cK ss).length
 | [],[],_=>rfl
 | x::ps,s::ss,h=>by
  have ih:=GQ (ps:=ps) (ss:=ss) (by simpa using h);simp only[iY,cK,tL]at *;split<;>simp[ih]
theorem DV:∀{ps:List (Nat×Nat)} {ss:List cH},(iY ps ss).Sublist ps
 | [],_=>by simp[iY]
 | _::_,[]=>by simp[iY]
 | x::ps,s::ss=>by
  simp only[iY];split
  ·exact DV.cons_cons x
  ·exact DV.cons x
theorem LB:∀{ps ps':List (Nat×Nat)} {ss ss':List cH},ps.length=ss.length->iY (ps++ps') (ss++ss')=iY ps ss++iY ps' ss'
 | [],_,[],_,_=>rfl
 | x::ps,_,s::ss,_,h=>by
  simp only[lN,iY,LB (ps:=ps) (ss:=ss) (by simpa using h)];split<;>rfl
theorem JR:∀{ps:List (Nat×Nat)} {ss:List cH} {i:Nat} {x:Nat×Nat} {s:cH},ps.length=ss.length->(iY ps ss)[i]?=some x->(cK ss)[i]?=some s->∃j:Nat,ps[j]?=some x/\ss[j]?=some s
 | [],[],_,_,_,_,h,_=>by simp[iY]at h
 | y::ps,t::ss,i,x,s,hl,h1,h2=>by
  have ih:=λi=>JR (ps:=ps) (ss:=ss) (i:=i) (x:=x) (s:=s) (by simpa using hl);simp only[iY,cK,tL]at h1 h2;cases hm:(t.many != 0)
  ·rw[hm]at h1 h2;obtain⟨j,a,b⟩:=ih i h1 h2;exact⟨j+1,by simpa using a,by simpa using b⟩
  ·rw[hm]at h1 h2;cases i with
   | zero=>simp at h1 h2;exact⟨0,by simp[h1],by simp[h2]⟩
   | succ i=>
    obtain⟨j,a,b⟩:=ih i (by simpa using h1) (by simpa[cK]using h2);exact⟨j+1,by simpa using a,by simpa using b⟩
theorem SR (a b:List cH):cK (a++b)=cK a++cK b:=by simp[cK]
theorem Rc (a b:List cH):QX (a++b)=QX a++QX b:=by simp[QX]
theorem MP (c:cA)(a b:List Nat):iP c (a++b)=iP c a++iP c b:=by simp[iP]
theorem Wd6 {a b:List (Nat×Nat)}(h:a.Sublist b):(eD a).Sublist (eD b):=by
 induction h with
 | slnil=>exact List.Sublist.refl _
 | cons x _ ih=>exact(ih.cons _).cons _
 | cons_cons x _ ih=>exact(ih.cons_cons _).cons_cons _
theorem ET {h:Hp}{Q:Rg}{n3:Nat}{o:Sl}{l:List Nat}{x1 x2:Nat}{s:cH}(hb:bY h n3 [.slice o.a o.len o.cap])(hrow:bT o 2 (iP c l) h Q)(hQ:∀b,Q b->n3<b)(hl:l.length<=2000)(hS:ij h x1 x2 c s){R:aO}
 (hR:∀h' o',Ext (λb=>b=n3\/Q b) h h'->bY h' n3 [.slice (Sl.a o') o'.len o'.cap]->bT o' 2 (iP c (l++if s.many=0 then[s.st]else[])) h' (Grow Q h)->R (s.many==0) h') :
 VJ Tryz.prog ⟨248,#[],#[.pointer (some ⟨n3,0,none⟩)]⟩ [.agg #[.int .i64 (s.many:Int),.int .i64 (s.st:Int),.pointer (some ⟨x1,0,none⟩)]] [.one .b] h R:=by
 refine Gp (all := #[.agg #[.int .i64 (s.many:Int),.int .i64 (s.st:Int),.pointer (some ⟨x1,0,none⟩)],.pointer (some ⟨n3,0,none⟩)]) (by kernel_rfl) aA ?_;refine Yg.o ?_;unfold Yg.v;refine nw (cs:=[.int .i64 (s.many:Int),.int .i64 (s.st:Int),.pointer (some ⟨x1,0,none⟩)]) λv Z e d=>?_;have W:=hb.lt;have m:=e.bV hb id;have hrow:=(bT.loc o 2 (iP c l)).mono hrow (G:=λb=>Q b/\b<h.size) λb hb z=>⟨z,hb⟩;refine Jn.intro (d.fD rfl ?_);rw[yp];refine cO (λC=>?_) λC=>?_
 ·have p:s.many=0:=by simpa using C
  rw[zC p]at hR;refine⟨λh'=>bY h' h.size [.int .i64 (s.many:Int),.int .i64 (s.st:Int),.pointer (some ⟨x1,0,none⟩)]/\bY h' n3 [.slice o.a o.len o.cap],⟨d,m⟩,⟨o,λh' hS=>by rw[hS.2.cell];rfl,⟨some ⟨x1,0,none⟩,λh' hS=>by rw[add_lit,hS.1.cell];rfl,?_⟩⟩⟩;refine MD (hS.bP e) λX e2=>⟨⟨e2.bV d id,e2.bV m id⟩,?_⟩;have x:=e.trans e2;have g:=aI.bP hrow x;have y:=g.1;rw[Rr]at y;refine nw (cs:=[.int .i64 (s.st:Int),.int .i64 (c.aG:Int)]) λv3 S w B=>⟨⟨(e2.trans w).bV d id,(e2.trans w).bV m id⟩,?_⟩;have r:=aI.bP g w;have V:=x.1;refine r.app (ys:=[.int .i64 (s.st:Int),.int .i64 (c.aG:Int)]) rfl rfl ?_ (by simp[dV]) ?_ ?_ nh λL H P A D=>?_
  ·intro j u hu;rw[add_lit,zH,B.cell];exact hu
  ·simp only;have:(o.len+1)*16<=2001*16:=mu O O;omega
  ·simp only;omega
  ·have K:bY H h.size [.int .i64 (s.many:Int),.int .i64 (s.st:Int),.pointer (some ⟨x1,0,none⟩)]:=A.bV ((e2.trans w).bV d id) λF=>by have:=F.2;omega
   have J:bY H n3 [.slice o.a o.len o.cap]:=A.bV ((e2.trans w).bV m id) λF=>by have:=hQ _ F.1;omega
   refine⟨⟨K,J⟩,J.s0 aA λv5 o5 M=>(WF o5 K O).fD rfl ?_⟩;have E:Ext (λb=>b=n3\/Q b) h v5:=(aF.to ((e.trans e2).trans w)).trans (A.sub λi hi=>.inr hi.1)|>.trans (o5.ext.sub λi hi=>.inl hi);rw[yp];refine hR v5 L E M ?_;rw[MP];have:iP c [s.st]=[.int .i64 (s.st:Int),.int .i64 (c.aG:Int)]:=rfl;rw[this];have U:=aI.mono D (G:=Grow Q h) λb _ N=>by
    rcases N with h|h
    ·exact .inl h.1
    ·exact .inr O
   exact aI.bS U o5.ext λb _ z Y=>by
    rcases z with h|h
    ·have:=hQ _ h;omega
    ·omega
 ·have p:¬s.many=0:=by simpa using C
  rw[zB p,kE]at hR;refine d.fD rfl ?_;rw[yp];exact hR v o e.to m (aI.bP (aI.mono hrow λb _ z=>.inl z.1) e)
def yO (n3:Nat)(c:cA)(l:List Nat)(h:Hp):Prop:=∃o:Sl,bY h n3 [.slice o.a o.len o.cap]/\bT o 2 (iP c l) h (λb=>n3<b)
theorem BL {A D:List Value}{x y z:Value}{k:Nat}(hk:k=A.length)(hD:3<=D.length):(((A++D).set k x).set (k+1) y).set (k+2) z=A++[x,y,z]++D.drop 3:=by
 subst hk
 match D,hD with
 | d0::d1::d2::D,_=>simp[List.set_append]
theorem GN {i:Nat}{s:cH}(hs:ss[i]?=some s):QX (ss.take (i+1))=QX (ss.take i)++(if s.many=0 then[s.st]else[]):=by
 rw[kC,hs,Rc]
 congr 1
 by_cases hm:s.many=0<;>simp[QX,hm]
theorem GK {i:Nat}{s:cH}(hs:ss[i]?=some s):cK (ss.take (i+1))=cK (ss.take i)++(if s.many=0 then[]else[s]):=by
 rw[kC,hs,SR]
 congr 1
 by_cases hm:s.many=0<;>simp[cK,hm]
theorem Cu {i:Nat}{x:Nat×Nat}{s:cH}(hl:ps.length=ss.length)(hx:ps[i]?=some x)(hs:ss[i]?=some s):iY (ps.take (i+1)) (ss.take (i+1))=iY (ps.take i) (ss.take i)++(if s.many=0 then[]else[x]):=by
 rw[kC,kC,hs,hx,LB (by simp[hl])]
 congr 1
 by_cases hm:s.many=0<;>simp[iY,hm]
theorem RZ (l:List cH):(QX l).length<=l.length:=by unfold QX;rw[zk];exact pM _ _
theorem Whi (l:List cH):(cK l).length<=l.length:=pM _ _
theorem OI (h:fI U F p c ps ss){sl:Sl}{rb n3:Nat}{cs:List Value}{σ1:Hp}(e1:aF U σ1)(hlen:sl.len=ss.length)(hn3:U.size<=n3)(hE:ss≠[]->sR U F p ps ss sl rb cs/\sl.len<=sl.cap/\cs.length=sl.cap*3)(h0:yO n3 c [] σ1){R:Sl->Hp->Prop}
 (hR:∀h' nk,Ext (λb=>F b/\b≠p/\b∉eD ps\/n3<=b) σ1 h'->yO n3 c (QX ss) h'->(nk=sl/\QX ss=[]/\cK ss=ss/\iY ps ss=ps/\Ext (λb=>n3<=b) σ1 h'\/(bT nk 3 (dU (iY ps ss) (cK ss)) h' (λb=>F b/\b≠p/\b∉eD ps)))->R nk h') :
 Wi.c sl ⟨248,#[],#[.pointer (some ⟨n3,0,none⟩)]⟩ σ1 R:=by
 refine Wi.o ?_;unfold Wi.v;refine Wn.o ?_;unfold Wn.v;have hfew:=h.qt;have r:=h.len;refine Qz (a:=bO) (λ(t:Int) h'=>∃i:Nat,t=(i:Int)/\i<=ss.length/\Ext (λb=>n3<=b) σ1 h'/\yO n3 c [] h'/\QX (ss.take i)=[]/\cK (ss.take i)=ss.take i/\iY (ps.take i) (ss.take i)=ps.take i) (λt _=>ss.length-t.toNat) ⟨0,rfl,O,Ext.refl _ _,h0,by simp[QX],by simp[cK],by simp[iY]⟩ ?_;rintro t h' ⟨i,rfl,hi,e,⟨o,W,ah⟩,q1,q2,q3⟩;have eo:∀{v:Hp},Ext (λb=>n3<=b) σ1 v->Ext (λb=>n3<=b) U v:=λe=>e1.to.trans e;refine cP (λhlt=>?_) λhge=>?_
 ·have af:i<ss.length:=by omega
  obtain⟨E,hcap,hcl⟩:=hE (by rintro rfl;simp at af);obtain⟨xx,s,hp,L,hS⟩:=h.jO af;have eg:=Kl hp L;have hrl:=E.bV.lt;have hSl:=hS.lt;rw[E.a];refine ix O O ?_;rw[add_lit,show 0+(i:Int).toNat*3=3*i by omega];refine xe (e:=0) ((eo e).bV E.bV O) (E.get eg.1) (E.get eg.2.1) (E.get eg.2.2) ?_;have hn3h:n3<h'.size:=W.lt;refine ET W ah (λb h=>h) aA (hS.bS (eo e) O O) λh2 o2 e2 aa A=>?_;have e2:Ext (λb=>n3<=b) h' h2:=e2.sub λb g=>by omega
  have A:=aI.mono A (G:=λb=>n3<b) λb _ g=>by
   rcases g with h|h
   ·exact h
   ·omega
  refine cO (λhm=>?_) λhm=>?_
  ·-- the first that goes
   have x:s.many=0:=by simpa using hm
   rw[zC x,rH]at A;have D:((i:Int)==(-1))=false:=by rw[mP];omega
   show If ((i:Int)==(-1)) _ _;refine cD D (cT (m:=i+1) O O ?_);have q1':QX (ss.take (i+1))=[s.st]:=by rw[GN L,q1,zC x];rfl
   have N:cK (ss.take (i+1))=ss.take i:=by rw[GK L,q2,zC x,kE]
   have q3':iY (ps.take (i+1)) (ss.take (i+1))=ps.take i:=by rw[Cu r hp L,q3,zC x,kE]
   have hke:∀k,k<=ss.length->(dU (iY (ps.take k) (ss.take k)) (cK (ss.take k))).length=3*(cK (ss.take k)).length:=λk _=>KE (GQ (by simp[r]));have Eb2:bY h2 rb cs:=(eo (e.trans e2)).bV E.bV O;refine UI (a:=bO) (bb:=bO) (λ(i1 j1:Int) v=>∃j:Nat,j1=(j:Int)/\i<j/\j<=ss.length/\i1=((cK (ss.take j)).length:Int)/\(cK (ss.take j)).length<j/\Ext (λb=>b=rb\/n3<=b) σ1 v/\yO n3 c (QX (ss.take j)) v ∧
    bY v rb (dU (iY (ps.take j) (ss.take j)) (cK (ss.take j))++cs.drop (3*(cK (ss.take j)).length))) (λ_ j1 _=>ss.length-j1.toNat) ?_ ?_
   ·refine⟨i+1,rfl,O,O,?_,?_,(e.trans e2).sub λb g=>.inr g,?_,?_⟩
    ·rw[N,zY];omega
    ·rw[N,zY];omega
    ·rw[q1'];exact⟨o2,aa,A⟩
    ·rw[N,q3',zY,qI O];have:dU (ps.take i) (ss.take i)++cs.drop (3*i)=cs:=by
      have h1:(dU (ps.take i) (ss.take i)).length=3*i:=by rw[KE (by simp[r]),zY];omega
      apply zt;intro k;rcases kv k (3*i)with hk|hk
      ·rw[zd O];have h2:(dU ps ss)[k]?=(dU (ps.take i) (ss.take i))[k]? := by
        conv=>lhs;rw[←ot i ps,←ot i ss,VR (by simp[r])]
        rw[zd O]
       rw[←h2];have h3:k<(dU ps ss).length:=by rw[KE r];omega
       rw[cW h3];exact(E.get (cW h3)).symm
      ·rw[zr O,lB,h1]
       congr 1;omega
     rw[this];exact Eb2
   ·rintro i1 j1 v ⟨j,rfl,hij,hj,rfl,hKj,ev,⟨o3,C,M⟩,z⟩;have y:=hke j hj;have evo:Ext (λb=>b=rb\/n3<=b) U v:=e1.to.trans ev;refine cP (λhlt2=>?_) λhge2=>?_
    ·have hj':j<ss.length:=by omega
     obtain⟨yy,u,S,H,Y⟩:=h.jO hj';have V:=Kl S H;have hSul:=Y.lt;have ag:=Q0 S;refine ix O O ?_;rw[add_lit,show 0+(j:Int).toNat*3=3*j by omega];have get:∀d,d<3->∀w,(dU ps ss)[3*j+d]?=some w->(dU (iY (ps.take j) (ss.take j)) (cK (ss.take j))++cs.drop (3*(cK (ss.take j)).length))[3*j+d]?=some w:=by
      intro d hd w hw;rw[zr O,lB,y,show 3*(cK (ss.take j)).length+(3*j+d-3*(cK (ss.take j)).length)=3*j+d by omega];exact E.get hw
     refine xe (e:=0) z (get 0 O _ V.1) (get 1 O _ V.2.1) (get 2 O _ V.2.2) (I0 λv5 X b5=>b5.rI rfl (b5.rI rfl (b5.rP rfl ?_)));have hn3v:n3<v.size:=C.lt;have ac:=aI.mono M (G:=λb=>n3<b/\b<v.size) λb g hf=>⟨hf,g⟩;have K:=RZ (ss.take j);rw[zY]at K;refine ET (X.bV C id) (aI.bP ac X) (λb g=>g.1) O ((Y.bS evo (λP=>by rcases P with h|h;exact E.fr.2.2 (h▸ag.1);omega) (λP=>by rcases P with h|h;exact E.fr.2.2 (h▸ag.2);omega)).bP X) λv6 o6 e6 Z B=>?_;have hsz5:=X.1;have B:=aI.mono B (G:=λb=>n3<b) λb _ g=>by
      rcases g with h|h
      ·exact h.1
      ·omega
     have b6:bY v6 v.size [.int .i64 (u.many:Int),.int .i64 (u.st:Int),.pointer (some ⟨yy.1,0,none⟩)]:=e6.bV b5 λP=>by rcases P with h|h;omega;have:=h.2;omega
     have hrb:rb<U.size:=E.bV.lt;have J:=e6.bV (X.bV z id) λP=>by rcases P with h|h;omega;have:=h.1;omega
     have ae:Ext (λb=>b=rb\/n3<=b) σ1 v6:=(ev.trans X.to).trans (e6.sub λb g=>by rcases g with h|h;omega;have:=h.1;omega);rw[←GN H]at B;have st:=GK H;have kt:=Cu r S H;by_cases hum:u.many=0
     ·rw[zC hum,kE]at st kt;have:(u.many==0)=true:=by simp[hum]
      rw[this];refine cD rfl (cT (m:=j+1) O O ⟨⟨j+1,rfl,O,O,?_,?_,ae,⟨o6,Z,B⟩,?_⟩,O⟩)
      ·rw[st]
      ·rw[st];omega
      ·rw[st,kt];exact J
     ·rw[zB hum]at st kt;have:(u.many==0)=false:=by simp[hum]
      rw[this];refine cE rfl (b6.rI rfl (b6.rI rfl (b6.rP rfl (ix O O ?_))));rw[add_lit,show 0+((cK (ss.take j)).length:Int).toNat*3=3*(cK (ss.take j)).length by omega];have hlen6:(dU (iY (ps.take j) (ss.take j)) (cK (ss.take j))++cs.drop (3*(cK (ss.take j)).length)).length=cs.length:=by
       rw[zK,y,kB];omega
      refine J.s1 O λv7 o7 b7=>b7.s1 aE λv8 o8 b8=>b8.s1 aE λv9 o9 b9=>?_;rw[kA,BL y.symm (by rw[kB];omega),List.drop_drop]at b9;have ev9:Ext (λb=>b=rb\/n3<=b) σ1 v9:=((ae.trans (o7.ext.sub λb g=>.inl g)).trans (o8.ext.sub λb g=>.inl g)).trans (o9.ext.sub λb g=>.inl g);have ab:Ext (· = rb) v6 v9:=(o7.ext.trans o8.ext).trans o9.ext;refine cT (m:=(cK (ss.take j)).length+1) O O (cT (m:=j+1) O O ⟨⟨j+1,rfl,O,O,?_,?_,ev9,⟨o6,ab.bV Z O,aI.bS B ab λb _ g he=>O⟩,?_⟩,O⟩)
      ·rw[st];simp
      ·rw[st];simp;omega
      ·rw[st,kt,VR (GQ (by simp[r]))];simp only[zK,zS,lf,dU];rw[show 3*((cK (ss.take j)).length+(0+1))=3*(cK (ss.take j)).length+3 by omega];exact b9
    ·have hjj:j=ss.length:=by omega
     subst hjj;rw[lV]at *;have Q:ps.take ss.length=ps:=by rw[←r,lV]
     rw[Q]at z y;have K:=Whi ss;refine jy O O O ?_;have hK3:3*(cK ss).length<=cs.length:=by omega
     have hlt3:(cK ss).length<ss.length:=hKj;rw[zB O];simp only[E.a,zg,add_lit,zH];refine⟨by simp[dV],?_⟩;simp only;have hz:(List.replicate (sl.len-(cK ss).length) [Value.int .i64 0,.int .i64 0,.pointer none]).flatten.length=3*(sl.len-(cK ss).length):=by
      rw[xm,vY,wQ];simp;omega
     refine V4 (o:=(cK ss).length*3) (i:=0) z (by rw[hz,zK,y,kB];omega) λv10 gA b10=>?_;refine jy (lo:=0) O O O ?_;have ad:Ext (λb=>b=rb\/n3<=b) σ1 v10:=ev.trans (gA.ext.sub λb g=>.inl g);refine hR v10 _ (ad.sub λb g=>?_) ⟨o3,WF gA C (by have:=E.bV.lt;omega),aI.bS M gA.ext λb _ g he=>by have:=E.bV.lt;omega⟩ (.inr ?_)
     ·rcases g with rfl|h
      ·exact .inl E.fr
      ·exact .inr h
     ·refine⟨by rw[KE (GQ r)];simp;omega,.inr ⟨rb,_,E.fr,?_,b10,?_,?_,?_⟩⟩
      ·simp only[E.a];split<;>simp[add_lit]
      ·simp only;omega
      ·simp only[zK,zY,kB,hz,y];omega
      ·rw[KE (GQ r),kA,show(cK ss).length*3=3*(cK ss).length by omega];rw[zl,qg (by rw[zY,zK,y];omega),yN,Nat.min_self];rw[qg O,lI O]
  ·have x:¬s.many=0:=by simpa using hm
   rw[zB x,kE]at A;refine cT (m:=i+1) O O ⟨⟨i+1,rfl,O,e.trans e2,⟨o2,aa,A⟩,?_,?_,?_⟩,O⟩
   ·rw[GN L,q1,zB x];rfl
   ·rw[GK L,q2,zB x,kC,L];rfl
   ·rw[Cu r hp L,q3,zB x,kC,hp];rfl
 ·have hii:i=ss.length:=by omega
  subst hii;rw[lV]at *;have Q:ps.take ss.length=ps:=by rw[←r,lV]
  rw[Q]at q3;have D:((-1:Int)==(-1))=true:=rfl;refine cE D (hR h' sl (e.sub λb g=>.inr g) ?_ (.inl ⟨rfl,q1,q2,q3,e⟩));rw[q1];exact⟨o,W,ah⟩
theorem fI.nk (h:fI U F p c ps ss):∃sl:Sl,bY U p [.int .i64 (c.size:Int),.int .i64 (c.aG:Int),.int .i64 (c.batch:Int),.slice sl.a sl.len sl.cap]/\sl.len=ss.length/\bT sl 3 (dU ps ss) U (λb=>F b/\b≠p/\b∉eD ps) ∧
 ∃rb cs,(ss≠[]->sR U F p ps ss sl rb cs/\sl.len<=sl.cap/\cs.length=sl.cap*3):=by
 obtain⟨sl,m,g⟩:=h.hd;have r:=g.1;rw[KE h.len]at r;refine⟨sl,m,O,g,?_⟩;rcases g.2 with⟨h0,_⟩|⟨b,cs,hq,ha,hbb,hle,hcl,ht⟩
 ·exact⟨0,[],λi=>by have:=oa.2 i;omega⟩
 ·refine⟨b,cs,λ_=>⟨⟨ha,hbb,hq,λ{j v} d=>?_,?_⟩,hle,hcl⟩⟩
  ·rw[←ht,zm]at d;split at d
   ·exact d
   ·cases d
  ·have:=congrArg List.length ht;rw[zY,KE h.len]at this;omega
theorem WjH (h:fI U F p c ps ss){R:Sl->Hp->Prop}
 (hR:∀o σ',Ext F U σ'->bT o 2 (iP c (QX ss)) σ' (λb=>U.size<=b)->fI σ' (Cut F U) p c (iY ps ss) (cK ss)->R o σ'):X9.c (aW p) U R:=by
 refine X9.o ?_;unfold X9.v;have h:=fI.loc.cut h;obtain⟨sl,a,C,B,W,cs,Q⟩:=h.nk;refine UA h (cD rfl (nw (cs:=[.slice none 0 0]) λX P e1 E=>bL ((e1.bV a id).rS rfl ?_)));refine OI h e1 C (zD _) Q ⟨⟨none,0,0⟩,E,bT.nil _ _ _ _⟩ λV nk e2 ⟨o,A,H⟩ u=>bL ?_;have L:=a.lt;have g:=h.nd;have d:=Wd6 (DV (ps:=ps) (ss:=ss));simp only[zj]at g;refine(e2.bV (e1.bV a id) λJ=>by rcases J with h|h;exact h.2.1 rfl;omega).s1 aA λv3 o3 D=>?_;have z:=WF o3 A (by have:=A.lt;omega);refine z.wg rfl (hR o v3 ?_ (aI.bS (aI.mono H λb _ a=>O) o3.ext λb _ a m=>O) ?_)
 ·refine(e1.to.dW e2 λb a=>?_).dW o3.ext λb a=>?_
  ·rcases a with h|h
   ·exact .inl h.1.1
   ·exact .inr h
  ·subst a;exact .inl h.fp.1
 ·have w:∀b,b∈eD ps->b<U.size->¬(Cut F U b/\b≠p/\b∉eD ps\/U.size<=b):=λb a S J=>by
   rcases J with h|h
   ·exact h.2.2 a
   ·omega
  refine⟨⟨nk,D,?_⟩,λi x s N M=>?_,h.fp,λb a=>h.fb b (d.subset a),?_,GQ h.len,h.ok,h.rF.sublist u6⟩
  ·rcases u with⟨rfl,_,q2,q3,ex⟩|hr
   ·rw[q2,q3];exact aI.bS (aI.bS (aI.bP B e1) ex λb _ a m=>by have:=a.1.2;omega) o3.ext λb _ a m=>a.2.1 m
   ·exact aI.bS (aI.mono hr λb _ a=>⟨a.1,a.2.1,λr=>a.2.2 (d.subset r)⟩) o3.ext λb _ a m=>a.2.1 m
  ·obtain⟨j,y,G⟩:=JR h.len N M;have K:=h.sp j x s y G;have r:=Q0 y;have C:=K.lt;exact((K.bP e1).bS e2 (w _ r.1 C.1) (w _ r.2 C.2)).bS o3.ext (λm=>g.1 (m▸r.1)) (λm=>g.1 (m▸r.2))
  ·simp only[zj];exact⟨λr=>g.1 (d.subset r),g.2.sublist d⟩
theorem Su {x:Int}{k i:Nat}{s:cH}(hc:0<c.size)(hk:kY c ss x=some k)(hs:ss[k]?=some s)(v:Bool)(y:Int):kY c (ss.set k (s.put i v)) y=kY c ss y:=by
 have a:∀t:cH,∀j w z,idx c (t.put j w) z=idx c t z:=λt j w z=>by unfold idx cH.put;simp only[oW]
 unfold kY;have b:=(cY.1 hs).1;have:(ss.set k (s.put i v)).map (λs=>(idx c s y).isSome)=ss.map (λs=>(idx c s y).isSome):=by
  apply zt;intro j;simp only[zZ];by_cases hjk:j=k
  ·subst hjk;rw[zO b,hs];simp[a]
  ·rw[zh (Ne.symm hjk)]
 have d:∀l:List cH,l.findIdx? (λs=>(idx c s y).isSome)=(l.map λs=>(idx c s y).isSome).findIdx? id:=λl=>by rw[List.findIdx?_map];rfl
 rw[d,d,this]
def kT (c:cA)(ss:List cH)(xs:List Int):Prop:=(∀x∈xs,eH c ss x=some true)/\xs.Nodup
theorem Au {x:Int}{b:Bool}(h:eH c ss x=some b):∃k s i,kY c ss x=some k/\ss[k]?=some s/\obj c s x=some i/\s.is i=b:=by
 unfold eH at h;split at h
 ·rename_i k hk;split at h
  ·rename_i s hs;cases ho:obj c s x with
   | none=>rw[ho]at h;cases h
   | some i=>rw[ho]at h;exact⟨k,s,i,hk,hs,ho,by simpa[cH.is]using h⟩
  ·cases h
 ·cases h
theorem yP {x:Int}{k i:Nat}{s:cH}(hk:kY c ss x=some k)(hs:ss[k]?=some s)(ho:obj c s x=some i):fK c ss x=ss.set k (s.put i false):=by
 simp[fK,hk,hs,ho]
theorem OL {x y:Int}(hc:0<c.size)(hx:eH c ss x=some true)(hne:y≠x):eH c (fK c ss x) y=eH c ss y:=by
 obtain⟨k,s,i,A,d,u,_⟩:=Au hx;rw[yP A d u];have p:=(cY.1 d).1;have a:=Su hc A d false (i:=i) y;have r:∀t:cH,∀j w z,obj c (t.put j w) z=obj c t z:=λt j w z=>by unfold obj idx at_ cH.put;simp only[oW]
 cases hy:kY c ss y with
 | none=>rw[Di (a.trans hy),Di hy]
 | some m=>
  by_cases hmk:m=k
  ·subst hmk;rw[Uh (a.trans hy) (zO p),Uh hy d,r];cases hoy:obj c s y with
   | none=>rfl
   | some j=>
    simp only[zg,Option.some.injEq];have g:i≠j:=λe=>by
     subst e;exact hne (((Hh hc).1 hoy).1.trans ((Hh hc).1 u).1.symm)
    simp[cH.is,cH.put,zQ,zh g]
  ·have b:m<ss.length:=(nK.1 hy).1;rw[Uh (a.trans hy) ((zh (Ne.symm hmk)).trans (cW b)),Uh hy (cW b)]
theorem kT.next {x:Int}{xs:List Int}(hc:0<c.size)(h:kT c ss (x::xs)):kT c (fK c ss x) xs:=by
 have b:=zj.1 h.2;refine⟨λy a=>?_,b.2⟩;rw[OL hc (h.1 x aA) λe=>b.1 (e▸a)];exact h.1 y (by simp[a])
theorem IH {xs:List Int}(h:iJ c ss xs=0):kT c ss xs:=by
 unfold iJ at h;split at h
 ·cases h
 ·rename_i h1;split at h
  ·cases h
  ·rename_i h2;simp only[nB,not_or,rY,my,Bool.not_eq_false',zV,zU]at h1 h2;refine⟨λx d=>?_,h2.2⟩;have a:=h1 x d;have b:=h2.1 x d;cases ht:eH c ss x with
   | none=>rw[ht]at a;simp at a
   | some v=>
    cases v
    ·rw[ht]at b;exact absurd rfl b
    ·rfl
theorem Tj {sl:Sl}{xs:List Int}{X:Rg}(h:fI U F p c ps ss)(hs:cV sl 1 (xs.map (Value.int .i64)) U X)(hX:∀b,X b->¬F b)(hi:∀x∈xs,iN x)(hA:kT c ss xs)(hl:xs.length<=1000000){K:aP}
 (hK:∀σ',Ext F U σ'->fI σ' F p c ps (xs.foldl (fK c) ss)->K σ') :
 Yf [bO] (λI1=>I1 0 U) λJ3 (t49:Int) v6=>If (decide (t49<((sl.len:Nat):Int))) (Ix sl.a sl.len t49 1 λa51=>gI .i64 a51 v6 λaddr1=>
  X4.c (aW p) addr1 v6 λvx v7=>bW vx λa57=>fX (a57.add 2) v7 λt59=>ZT.c t59 addr1 v7 λt61 v8=>bW vx λa63=>gI .i64 ((a63.add 0).add 0) v8 λt66=>
  Ar .i64 (t66-1) λt67=>bW vx λa68=>dQ ((a68.add 0).add 0) (.int .i64 t67) v8 λv9=>Ar .i64 (t49+1) λt71=>J3 t71 v9) (K v6):=by
 have aa:sl.len=xs.length:=by have:=hs.1;simp at this;omega
 have z:0<c.size:=by have:=h.ok.1;omega
 refine Qz (a:=bO) (λ(t:Int) N=>∃(i:Nat) (u:List cH),t=(i:Int)/\i<=xs.length/\Ext F U N/\fI N F p c ps u/\kT c u (xs.drop i)/\(xs.drop i).foldl (fK c) u=xs.foldl (fK c) ss) (λt _=>xs.length-t.toNat) ⟨0,ss,rfl,O,Ext.refl _ _,h,by simpa using hA,by simp⟩ ?_;rintro t N ⟨i,u,rfl,hil,e,L,w,H⟩;refine cP (λhlt=>?_) λhge=>?_
 ·have y:i<xs.length:=by omega
  have hx:xs[i]?=some xs[i]:=cW y;have hd:xs.drop i=xs[i]::xs.drop (i+1):=xK y;rw[hd]at w H;refine(aH.bS hs e λb _ S hF=>hX b S hF).lL hx ?_;obtain⟨k,s,j,J,d,M,D⟩:=Au (w.1 xs[i] lW);have A:=hi xs[i] (kD y);refine Dc L xs[i] A (λhn=>by rw[J]at hn;cases hn) λk' nk rb cs B W S E=>bL ?_;rw[J]at B;cases B;obtain⟨Q,s',Y,C,P⟩:=L.jO W;rw[d]at C;cases C;have eg:=Kl Y d;have hj:=((Hh z).1 M).2;refine E.bV.rP (x:=some ⟨Q.1,0,none⟩) (E.get eg.2.2) ?_;refine OY P A M D λv8 e8 Z=>bL ?_;have G:=Q0 Y;have V:¬(rb=Q.1\/rb=Q.2):=λhh=>E.fr.2.2 (by rcases hh with h|h<;>rw[h];exact G.1;exact G.2)
  have hml:=D0 s;have g:=Af hj false;rw[D]at g;have hsl:=P.len;have hnl:=P.ok.kP;have r:((s.put j false).many:Int)=s.many-1:=by simp at g;omega
  refine(e8.bV E.bV V).fD (E.get eg.1) (ar O O (bL ?_));simp only[add_lit,kA];rw[←r];refine L.oO (s':=s.put j false) Y d rfl e8 Z S E λv9 e9 R=>?_;refine cT (m:=i+1) O O ⟨⟨i+1,_,rfl,O,e.trans e9,R,?_,?_⟩,O⟩
  ·have:=kT.next z w
   rwa [yP J d M]at this
  ·rw[ru,yP J d M]at H;exact H
 ·have:i=xs.length:=by omega
  subst this;rw[List.drop_length,List.foldl_nil]at H;subst H;exact hK N e L
theorem OW (h:fI U F p c ps ss){sl:Sl}{xs:List Int}{X:Rg}(hs:cV sl 1 (xs.map (Value.int .i64)) U X)(hX:∀b,X b->¬F b)(hi:∀x∈xs,iN x)(hl:xs.length<=1000000)(hcap:sl.len<=sl.cap){R:Sl->Int->Hp->Prop}
 (h0:iJ c ss xs≠0->R ⟨none,0,0⟩ (iJ c ss xs) U)
 (h1:iJ c ss xs=0->∀o σ',Ext F U σ'->bT o 2 (iP c (QX (xs.foldl (fK c) ss))) σ' (λb=>U.size<=b)->fI σ' (Cut F U) p c (iY ps (xs.foldl (fK c) ss)) (cK (xs.foldl (fK c) ss))->R o 0 σ') :
 Zb.c (aW p) sl U R:=by
 refine Zb.o ?_;unfold Zb.v;have hlen:sl.len=xs.length:=by have:=hs.1;simp at this;omega
 refine UA h (cD rfl ?_);have Y:∀i,(xs.take i).any (λx=>eH c ss x==some false)=true\/¬(xs.take i).Nodup->(∀x∈xs,(eH c ss x).isSome=true)->iJ c ss xs=9:=by
  intro i d hall;unfold iJ;rw[zB,zC]
  ·rcases d with d|d
   ·rw[zy]at d;obtain⟨x,u,Q⟩:=d;have:xs.any (λx=>eH c ss x==some false)=true:=zy.2 ⟨x,vV u,Q⟩;rw[this];rfl
   ·have:¬xs.Nodup:=λE=>d (E.sublist (D9 _ _));simp[this]
  ·simp only[rY,my];intro x u;have:=hall x u;cases ht:eH c ss x
   ·rw[ht]at this;cases this
   ·simp
 refine UI (a:=.b) (bb:=bO) (λ(Y:Bool) (t:Int) B=>∃i:Nat,t=(i:Int)/\i<=xs.length/\B=U/\(∀x∈xs.take i,(eH c ss x).isSome=true)/\(Y=true↔(xs.take i).any (λx=>eH c ss x==some false)=true\/¬(xs.take i).Nodup)) (λ_ t _=>xs.length-t.toNat)
  ⟨0,rfl,O,rfl,by simp,by simp⟩ ?_
 rintro A t B ⟨i,rfl,hil,rfl,g,C⟩;refine cP (λhlt=>?_) λhge=>?_
 ·have D:i<xs.length:=by omega
  have u:xs[i]?=some xs[i]:=cW D;have W:=hi xs[i] (kD D);have L:xs.take (i+1)=xs.take i++[xs[i]]:=by rw[kC,u];rfl
  refine hs.lL u (Ii h xs[i] W (λb d=>cD rfl ?_) λE=>cE rfl ?_)
  ·have w:∀x∈xs.take (i+1),(eH c ss x).isSome=true:=by
    rw[L];intro x u;rcases zM.1 u with h1|h1
    ·exact g x h1
    ·simp at h1;subst h1;rw[d];rfl
   have fin:∀J:Bool,(J=true↔(xs.take (i+1)).any (λx=>eH c ss x==some false)=true\/¬(xs.take (i+1)).Nodup)->Ar .i64 ((i:Int)+1) λs=>
    (∃j:Nat,s=(j:Int)/\j<=xs.length/\B=B/\(∀x∈xs.take j,(eH c ss x).isSome=true)/\(J=true↔(xs.take j).any (λx=>eH c ss x==some false)=true\/¬(xs.take j).Nodup))/\xs.length-s.toNat<xs.length-(i:Int).toNat:=
    λJ P=>cT (m:=i+1) O O ⟨⟨i+1,rfl,O,rfl,w,P⟩,O⟩
   have hnd:∀y:Int,(xs.take i++[y]).Nodup↔(xs.take i).Nodup/\y∉xs.take i:=λy=>by
    rw[nf];constructor
    ·exact λh=>⟨h.1,λM=>h.2.2 y M y aA rfl⟩
    ·exact λh=>⟨h.1,by simp,λa ha z hz e=>by simp at hz;subst hz;exact h.2 (e▸ha)⟩
   have ex:(xs.take (i+1)).any (λx=>eH c ss x==some false)=true\/¬(xs.take (i+1)).Nodup↔(A=true\/b=false)\/xs[i]∈xs.take i:=by
    rw[L,hnd,List.any_append,C];simp only[List.any_cons,List.any_nil,Bool.or_false,nB,d];have N:((some b==some false)=true)↔b=false:=by cases b<;>simp
    rw[N];constructor
    ·rintro((h|h)|h)
     ·exact .inl (.inl (.inl h))
     ·exact .inl (.inr h)
     ·by_cases E:(xs.take i).Nodup
      ·by_cases M:xs[i]∈xs.take i
       ·exact .inr M
       ·exact absurd ⟨E,M⟩ h
      ·exact .inl (.inl (.inr E))
    ·rintro(((h|h)|h)|h)
     ·exact .inl (.inl h)
     ·exact .inr λK=>h K.1
     ·exact .inl (.inr h)
     ·exact .inr λK=>K.2 h
   have J1:∀r:Bool,(r=true↔A=true\/b=false)->bX (λJ v4=>Ar .i64 ((i:Int)+1) λs=>
    (∃j:Nat,s=(j:Int)/\j<=xs.length/\v4=B/\(∀x∈xs.take j,(eH c ss x).isSome=true)/\(J=true↔(xs.take j).any (λx=>eH c ss x==some false)=true\/¬(xs.take j).Nodup))/\xs.length-s.toNat<xs.length-(i:Int).toNat) λJ2=>
    If r (J2 true B) (fH sl 1 0 (i:Int) (sl.cap:Nat) λS=>Wv.c S xs[i] B λab v5=>J2 ab v5):=by
    intro r hr;refine bX.intro ?_;cases r
    ·refine cD rfl ?_;refine jy (lo:=0) O O O ?_;have G:cV ⟨if sl.cap=0 then sl.a else sl.a.map (·.add (0*1)),i-0,sl.cap-0⟩ 1 ((xs.take i).map (Value.int .i64)) B X:=by
      refine⟨by simp;omega,?_⟩;rcases hs.2 with h0|⟨b',o',cs',hf',ha',hb',hc'⟩
      ·left;have:xs=[]:=by simpa using h0
       simp[this]
      ·refine .inr ⟨b',o',cs',hf',?_,hb',λj hj=>?_⟩
       ·rw[zB O,ha'];simp[add_lit]
       ·simp only[zk,zY]at hj;rw[hc' j aE,List.map_take,zm,zC O]
     refine G3 G aE _ (fin _ ?_);rw[ex,←hr];simp
    ·refine cE rfl (fin true ?_);rw[ex,←hr];simp
   refine bX.intro ?_;cases A
   ·refine cD rfl (J1 _ ?_);cases b<;>simp
   ·exact cE rfl (J1 _ aA)
  ·have:iJ c ss xs=8:=by
    unfold iJ;rw[zC];exact zy.2 ⟨xs[i],kD D,by rw[E];rfl⟩
   have h0:=h0 (by rw[this];decide);rw[this]at h0;exact h0
 ·have:i=xs.length:=by omega
  subst this;rw[lV]at *;cases A
  ·refine cD rfl ?_;have hE:iJ c ss xs=0:=by
    unfold iJ;have h2:¬(xs.any (λx=>eH c ss x==some false)=true\/¬xs.Nodup):=λK=>by have:=C.2 K;cases this
    rw[zB,zB]
    ·simp only[not_or,rY,Decidable.not_not]at h2;rw[h2.1];simp[h2.2]
    ·simp only[rY,my];intro x u;have:=g x u;cases ht:eH c ss x
     ·rw[ht]at this;cases this
     ·simp
   refine Tj (fI.loc.cut h) hs (λb d hf=>hX b d hf.1) hi (IH hE) hl λv6 e6 V=>?_;refine WjH V λo aa Z ac H=>?_;exact h1 hE o aa ((e6.trans Z).sub λb d=>d.1) (aI.mono ac λb _ d=>ky e6.1 d) (fI.loc.mono H λb _ d=>d.1)
  ·refine cE rfl ?_;have h9:=Y xs.length (by rw[lV];exact C.1 rfl) g;have h0:=h0 (by rw[h9];decide);rw[h9]at h0;exact h0
theorem Pv {x y:Sl}{a o b o':Nat}{cs ds:List Value}(hx:x.a=some ⟨a,o,none⟩)(hy:y.a=some ⟨b,o',none⟩)(ha:bY U a cs)(hb:bY U b ds)(hne:a≠b)(hd:ds≠[]){K:aO}(hK:K false U) :
 uY Tryz.prog 320 [.slice x.a x.len x.cap,.slice y.a y.len y.cap] U K:=by
 rintro w rfl;obtain⟨d,ha⟩:=ha;obtain⟨g,hb⟩:=hb;refine⟨false,w,?_,.refl _,hK⟩;rw[hx,hy,run_callFunc_extern Tryz.func320 (by kernel_rfl) (by kernel_rfl) (by kernel_rfl) (e:=Extern.SlicesOverlaps.overlaps #[272,272] #[4]) (by kernel_rfl)];have:=Lib.run_overlaps_apart (P:=Tryz.prog) w 272 4 279 Tryz.underlying272 3 Tryz.sizeOf279
  ⟨a,o,none⟩ ⟨b,o',none⟩ x.len x.cap y.len y.cap hne d g cs.length ds.length (by simp[World.shape?,ha]) (by simp[World.shape?,hb]) (by simpa using hd) (by simp[World.frozen?,ha]) (by simp[World.frozen?,ha])
 rw[this];rfl
theorem WiH {Q:Rg}{s:Sl}{xs:List Value}{i m vb:Nat}{x y z:Value}(h:bT s 3 xs U Q)(hlen:s.len=m)(hm:m<=2000)(hi:i<=m)(hv:bY U vb [x,y,z])(hvb:¬Q vb)(h1:∀v∈xs,dV v=true)(h2:dV x=true/\dV y=true/\dV z=true)
 {R:Sl->Hp->Prop} (hR:∀s' σ',Ext Q U σ'->bT s' 3 (xs.take (3*i)++[x,y,z]++xs.drop (3*i)) σ' (Grow Q U)->R s' σ') :
 Wl.c s (i:Int) ⟨some ⟨vb,0,none⟩,1,1⟩ U R:=by
 refine Wl.o ?_;unfold Wl.v;have hxl:=h.1;have hcap:s.len<=s.cap:=by
  rcases h.2 with⟨h0,h0'⟩|⟨b,cs,_,_,_,J,_⟩
  ·omega
  ·exact J
 have W:Rd U (some ⟨vb,0,none⟩) [x,y,z]:=by
  intro j u hu;rw[add_lit,zH,hv.cell];exact hu
 have ho:∀v∈[x,y,z],dV v=true:=by simp[h2]
 refine jy O O O (cD rfl (cO (λX=>?_) λX=>?_))
 ·have aa:i=m:=by
   have:(i:Int)=((s.len:Nat):Int):=by simpa using X
   omega
  refine h.app (ys:=[x,y,z]) rfl rfl W ho aD aD nh λs' h' hl' e' ac=>hR s' h' e' ?_
  rw[lI O,CU O,kE];exact ac
 ·have aa:i<m:=by
   have:¬(i:Int)=((s.len:Nat):Int):=by simpa using X
   omega
  obtain⟨b,cs,S,Z,E,J,H,ht⟩:∃b cs,Q b/\s.a=some ⟨b,0,none⟩/\bY U b cs/\s.len<=s.cap/\cs.length=s.cap*3/\cs.take xs.length=xs:=by
   rcases h.2 with⟨h0,_⟩|h
   ·omega
   ·exact h
  have G:vb≠b:=λe=>hvb (e▸S);have w:∀j v,xs[j]?=some v->cs[j]?=some v:=λj v p=>by
   rw[←ht,zm]at p;split at p
   ·exact p
   ·cases p
  refine cT (m:=m+1) aD O (cP (λhgt=>?_) λhle2=>?_)
  ·-- no room: a new row
   refine jy (lo:=0) O O O (cT (m:=m+1) aD O (cT (m:=m+1-i) O O ?_))
   have D:¬s.cap=0:=by omega
   rw[zB D];simp only[Z,zg,add_lit,vO,kA,Nat.sub_zero];refine⟨O,xs.take (3*i),by rw[zY];simp only;omega,?_,by simp[dV],by simp only;omega,by simp only;omega,O,λY=>by simp only at Y;omega,λ_ cc K=>?_⟩
   ·intro j v p;rw[add_lit,zH,E.cell];rw[zm]at p;split at p
    ·exact w j v p
    ·cases p
   simp only[dH]at K ⊢;have ab:i+(m+1-i)=m+1:=by omega
   rw[ab]at K ⊢;refine nw λv2 hz2 e2 hb2=>?_;have A:∀k,(List.replicate k [Value.int .i64 0,.int .i64 0,.pointer none]).flatten.length=3*k:=λk=>by
    rw[xm,vY,wQ];simp;omega
   have g:(xs.take (3*i)).length=3*i:=by rw[zY];omega
   refine jy aD aD aD ?_
   have hv2:=e2.bV hv id;have n1:(if cc=i then(some ⟨U.size,0,none⟩:Option Addr)else(some ⟨U.size,0,none⟩:Option Addr).map (·.add (i*3)))=some ⟨U.size,i*3,none⟩:=by
    have:¬cc=i:=by omega
    rw[zB this];simp[add_lit]
   rw[n1];refine⟨[x,y,z],by simp only;rw[qI O];rfl,?_,ho,?_⟩
   ·intro j u hu;rw[add_lit,zH,hv2.cell];exact hu
   simp only;refine V4 (o:=i*3) (i:=0) hb2 (by simp only[zK,g,A,zS,lf];omega) λv3 o3 P=>?_;refine cT (m:=i+1) aD O (jy aD aD aD (jy O O O ?_))
   have N:bY v3 b cs:=WF o3 (e2.bV E id) (by have:=E.lt;omega);have d:(xs.drop (3*i)).length=3*(m-i):=by rw[kB];omega
   refine⟨xs.drop (3*i),by simp only;rw[qI O,d];omega,?_,λv hv=>h1 v (tW hv),?_⟩
   ·have r:¬s.cap=i:=by omega
    rw[zB r];simp only[Z,zg,add_lit];intro j v p;rw[add_lit,N.cell];rw[lB]at p;have:=w _ _ p;rw[show 0+i*3+j=3*i+j by omega];exact this
   have hbig:(xs.take (3*i)++(List.replicate (m+1-i) [Value.int .i64 0,.int .i64 0,.pointer none]).flatten++(List.replicate (cc-(m+1)) [Value.int .i64 0,.int .i64 0,.pointer none]).flatten).length=3*cc:=by
    simp only[zK,g,A];omega
   have tk:∀L:List Value,((xs.take (3*i)++(List.replicate (m+1-i) [Value.int .i64 0,.int .i64 0,.pointer none]).flatten++(List.replicate (cc-(m+1)) [Value.int .i64 0,.int .i64 0,.pointer none]).flatten).take (3*i))=xs.take (3*i):=λ_=>by
    rw[zl,qg O,lI O]
   have fin:∀v4,Kb v3 v4 U.size->bY v4 U.size ((xs.take (3*i)++[x,y,z])++xs.drop (3*i)++((xs.take (3*i)++(List.replicate (m+1-i) [Value.int .i64 0,.int .i64 0,.pointer none]).flatten++(List.replicate (cc-(m+1)) [Value.int .i64 0,.int .i64 0,.pointer none]).flatten).drop (3*i+3)).drop (3*(m-i)))->R ⟨some ⟨U.size,0,none⟩,m+1,cc⟩ v4:=by
    intro v4 o4 b4;refine hR _ v4 ?_ ⟨?_,.inr ⟨U.size,_,.inr (zD _),rfl,b4,by simp only;omega,?_,?_⟩⟩
    ·exact((e2.to.dW o3.ext λi hi=>by subst hi;exact .inr (zD _)).dW o4.ext λi hi=>by subst hi;exact .inr (zD _))
    ·simp only[zK,g,d,zS,lf];omega
    ·simp only[zK,g,d,zS,lf,kB,A];omega
    ·rw[zl (xs.take (3*i)++[x,y,z]),←zl,Bi];rfl
   have e3:(xs.take (3*i)++(List.replicate (m+1-i) [Value.int .i64 0,.int .i64 0,.pointer none]).flatten++(List.replicate (cc-(m+1)) [Value.int .i64 0,.int .i64 0,.pointer none]).flatten).take (i*3+0)=xs.take (3*i):=by
    rw[show i*3+0=3*i by omega];exact tk []
   rw[e3]at P;have C:(xs.take (3*i)++[x,y,z]++(xs.take (3*i)++(List.replicate (m+1-i) [Value.int .i64 0,.int .i64 0,.pointer none]).flatten++(List.replicate (cc-(m+1)) [Value.int .i64 0,.int .i64 0,.pointer none]).flatten).drop (i*3+0 + [x,y,z].length)).length=3*cc:=by
    simp only[zK,kB,g,A,zS,lf];omega
   by_cases r:cc=i+1
   ·exfalso;omega
   ·rw[zB r];simp only[zg,add_lit,zH];refine V4 (o:=(i+1)*3) (i:=0) P (by rw[C,d];omega) λv4 o4 b4=>fin v4 o4 ?_;have q1:(i+1)*3+0=(xs.take (3*i)++[x,y,z]).length:=by rw[zK,g];simp;omega
    have q2:(i+1)*3+0+(xs.drop (3*i)).length=(xs.take (3*i)++[x,y,z]).length+3*(m-i):=by rw[d,q1]
    rw[q2,q1,Bi,List.drop_append]at b4
    ·rw[CU (show(xs.take (3*i)++[x,y,z]).length<=(xs.take (3*i)++[x,y,z]).length+3*(m-i) by omega),rH]at b4;have q3:i*3+0 + [x,y,z].length=3*i+3:=by simp;omega
     rw[q3]at b4;have q4:(xs.take (3*i)++[x,y,z]).length+3*(m-i)-(xs.take (3*i)++[x,y,z]).length=3*(m-i):=by omega
     rw[q4]at b4;exact b4
    ·rfl
  ·-- room: the rest moves
   have hle3:m+1<=s.cap:=by omega
   have D:¬s.cap=0:=by omega
   have r:¬s.cap=i:=by omega
   refine cT (m:=m+1) aD O (jy (lo:=0) O O O ?_)
   rw[zB D];simp only[Z,zg,add_lit,vO,kA,Nat.sub_zero];refine cT (m:=i+1) aD O (jy aD aD aD ?_)
   have B:cs.take (3*m)=xs:=by rw[←hlen,show 3*s.len=xs.length by omega];exact ht
   have V:∃o',(if s.cap=i+1 then(some ⟨b,0,none⟩:Option Addr)else(some ⟨b,0,none⟩:Option Addr).map (·.add ((i+1)*3)))=some ⟨b,o',none⟩:=by
    split
    ·exact⟨0,rfl⟩
    ·exact⟨_,by simp[add_lit];rfl⟩
   obtain⟨o',V⟩:=V;refine Pv (x:=⟨some ⟨vb,0,none⟩,1,1⟩) (a:=vb) (o:=0) (b:=b) rfl V hv E G (λe=>by rw[e]at H;simp at H;omega) (cE rfl ?_);refine cT (m:=i+1) aD O (jy aD aD aD (jy aD aD aD ?_))
   have M:¬s.cap=i+1:=by omega
   rw[zB M,zB r];simp only[zg,add_lit,zH];have d:(xs.drop (3*i)).length=3*(m-i):=by rw[kB];omega
   refine⟨xs.drop (3*i),by simp only;rw[Nat.min_eq_right O,d];omega,?_,λv hv=>h1 v (tW hv),?_⟩
   ·intro j v p;rw[add_lit,E.cell];rw[lB]at p;have:=w _ _ p;rw[show i*3+j=3*i+j by omega];exact this
   refine V4 (o:=(i+1)*3) (i:=0) E (by rw[d];omega) λv3 o3 P=>?_;refine jy aD aD aD ?_
   rw[zB r];simp only[zg,add_lit,zH];have hv3:=WF o3 hv G;refine⟨[x,y,z],by simp only;rw[qI O];rfl,?_,ho,?_⟩
   ·intro j u hu;rw[add_lit,zH,hv3.cell];exact hu
   have hl3:(cs.take ((i+1)*3+0)++xs.drop (3*i)++cs.drop ((i+1)*3+0+(xs.drop (3*i)).length)).length=cs.length:=by
    simp only[zK,zY,kB,d];omega
   refine V4 (o:=i*3) (i:=0) P (by rw[hl3];simp;omega) λv4 o4 b4=>?_;have a1:(cs.take ((i+1)*3+0)).length=3*i+3:=by rw[zY];omega
   have g:(xs.take (3*i)).length=3*i:=by rw[zY];omega
   have p1:(cs.take ((i+1)*3+0)++xs.drop (3*i)++cs.drop ((i+1)*3+0+(xs.drop (3*i)).length)).take (i*3+0)=xs.take (3*i):=by
    rw[zl,qg O,yN,qI O,←B,yN,qI O]
    congr 1;omega
   have p2:(cs.take ((i+1)*3+0)++xs.drop (3*i)++cs.drop ((i+1)*3+0+(xs.drop (3*i)).length)).drop (i*3+0 + [x,y,z].length)=xs.drop (3*i)++cs.drop ((i+1)*3+0+(xs.drop (3*i)).length):=by
    rw[zl,List.drop_left'];rw[a1];simp;omega
   rw[p1,p2,←zl]at b4;refine hR _ v4 ((Ext.eU (F:=Q) o3 S).trans (Ext.eU o4 S)) ⟨?_,.inr ⟨b,_,.inl S,rfl,b4,aD,?_,?_⟩⟩
   ·simp only[zK,g,zS,lf,d];omega
   ·simp only[zK,g,kB,zS,lf,d];omega
   ·rw[Bi];rfl
def ZL (ss:List cH)(st:Nat):Nat:=(ss.takeWhile (λs=>s.st<st)).length
theorem Gx (l:List cH)(P:cH->Bool):l.takeWhile P=l.take (l.takeWhile P).length/\l.dropWhile P=l.drop (l.takeWhile P).length:=by
 induction l with
 | nil=>simp
 | cons x l ih=>
  simp only[List.takeWhile_cons,List.dropWhile_cons];cases P x
  ·simp
  ·simp only[zT,zS,wm,vD];exact⟨by rw[←ih.1],ih.2⟩
theorem wY (c:cA)(ss:List cH)(st:Nat):iv c ss st=ss.take (ZL ss st)++⟨st,List.replicate c.n false⟩::ss.drop (ZL ss st):=by
 have:=Gx ss (λs=>decide (s.st<st));unfold iv ZL;rw[this.2,←this.1]
theorem Gs (hs:ss.Pairwise (λa b=>a.st<b.st))(st:Nat):ZL ss st<=ss.length/\∀(i:Nat) s,ss[i]?=some s->(s.st<st↔i<ZL ss st):=by
 unfold ZL
 induction ss with
 | nil=>simp
 | cons x ss ih=>
  have d:=td.1 hs;obtain⟨j,g⟩:=ih d.2;simp only[List.takeWhile_cons];by_cases hx:x.st<st
  ·simp only[hx,decide_true,zT,zS];refine⟨O,λi s hi=>?_⟩;cases i with
   | zero=>simp at hi;subst hi;simp[hx]
   | succ i=>have:=g i s (by simpa using hi);omega
  ·simp only[hx,decide_false,za,jX,lf,Nat.zero_le,Nat.not_lt_zero,iff_false,uA];intro i s hi;cases i with
   | zero=>simp at hi;subst hi;exact hx
   | succ i=>
    have:=d.1 s (zG (i:=i) (by simpa using hi));omega
theorem Oc (h:fI U F p c ps ss){σ1:Hp}(e1:aF U σ1){sl:Sl}{rb:Nat}{cs:List Value}(hl:sl.len=ss.length)(hE:ss≠[]->sR U F p ps ss sl rb cs)(st:Nat)(hst:st<=1024){R:Int->Bool->Hp->Prop}(hR:∀σ' b,aF σ1 σ'->R (ZL ss st:Int) b σ') :
 Wc.c sl (st:Int) ⟨292,#[],#[]⟩ σ1 R:=by
 refine Wc.o ?_;unfold Wc.v;have P:=h.qt;obtain⟨J,kr⟩:=Gs h.rF st;have z:∀(k:Nat) (x:Nat×Nat) s (v:Hp) (K:aN),ps[k]?=some x->ss[k]?=some s->aF σ1 v->(∀B,aF v B->K ((s.st:Int)-(st:Int)) B) →
  VJ Tryz.prog ⟨292,#[],#[]⟩ [.agg #[.int .i64 (s.many:Int),.int .i64 (s.st:Int),.pointer (some ⟨x.1,0,none⟩)],.int .i64 (st:Int)] [.one bO] v K:=by
  intro k x s v K w g ev hK;refine Gp (all := #[.agg #[.int .i64 (s.many:Int),.int .i64 (s.st:Int),.pointer (some ⟨x.1,0,none⟩)],.int .i64 (st:Int)]) (by kernel_rfl) aA ?_;refine YX.o ?_;unfold YX.v;have hf:=(h.sp k x s w g).fit;refine nw (cs:=[.int .i64 (s.many:Int),.int .i64 (s.st:Int),.pointer (some ⟨x.1,0,none⟩)]) λv1 hz e M=>M.fD rfl (ar O O (hK v1 e))
 refine UI (a:=bO) (bb:=bO) (λ(i j:Int) v=>∃a b:Nat,i=(a:Int)/\j=(b:Int)/\a<=ZL ss st/\ZL ss st<=b/\b<=ss.length/\aF σ1 v) (λi j _=>j.toNat-i.toNat) ⟨0,ss.length,rfl,by rw[hl],O,J,O,Ext.refl _ _⟩ ?_;rintro i j v ⟨a,b,rfl,rfl,Y,M,D,ev⟩;have A:aF U v:=e1.trans ev;refine cP (λaa=>?_) λZ=>?_
 ·have u:ss≠[]:=by rintro rfl;simp at D;omega
  have E:=hE u;refine cT (m:=a+b) O O ?_;have X:IntKind.u64.wrap ((a+b:Nat):Int)=((a+b:Nat):Int):=by
   unfold IntKind.wrap;simp[IntKind.bits,IntKind.signed];omega
  refine vI ?_;rw[X];refine nn O ?_;have L:min (1:Int).toNat IntKind.u64.bits=1:=by decide
  rw[L,B9];have C:(((a+b:Nat):Int)/2^1)=(((a+b)/2:Nat):Int):=by omega
  refine cT (m:=(a+b)/2) C O ?_;have d:(a+b)/2<ss.length:=by omega
  obtain⟨x,s,w,g,W⟩:=h.jO d;have y:=Kl w g;rw[E.a];refine ix O O ?_;rw[add_lit,show 0+(((a+b)/2:Nat):Int).toNat*3=3*((a+b)/2) by omega];refine xe (e:=0) (A.bV E.bV id) (E.get y.1) (E.get y.2.1) (E.get y.2.2) (z _ x s v _ w g ev λB G=>?_);have r:=kr _ s g;show If (decide (((s.st:Int)-(st:Int))<0)) _ _;refine cP (λQ=>?_) λN=>?_
  ·exact cT (m:=(a+b)/2+1) O O ⟨⟨_,b,rfl,rfl,by have:=r.1 O;omega,M,D,ev.trans G⟩,O⟩
  ·exact⟨⟨a,_,rfl,rfl,Y,by
    apply Classical.byContradiction;intro hc;have:=r.2 O;omega,O,ev.trans G⟩,O⟩
 ·have H:a=ZL ss st:=by omega
  subst H;refine bX.intro (cP (λV=>?_) λS=>hR v _ ev);have d:ZL ss st<ss.length:=by omega
  have u:ss≠[]:=by rintro rfl;simp at d
  have E:=hE u;obtain⟨x,s,w,g,W⟩:=h.jO d;have y:=Kl w g;rw[E.a];refine ix O O ?_;rw[add_lit,show 0+(ZL ss st:Int).toNat*3=3*ZL ss st by omega];refine xe (e:=0) (A.bV E.bV id) (E.get y.1) (E.get y.2.1) (E.get y.2.2) (z _ x s v _ w g ev λB G=>hR B _ (ev.trans G))
theorem WmO (h:fI U F p c ps ss){st:Nat}(hf:st+c.aG<=1024){R:aN}(h9:oe c ss st=9->∀σ',aF U σ'->R 9 σ')
 (h0:oe c ss st=0->∀σ' ps',Ext F U σ'->fI σ' (Grow F U) p c ps' (iv c ss st)->R 0 σ'):Y8.c (aW p) (st:Int) U R:=by
 refine Y8.o ?_;unfold Y8.v;have h:=fI.loc.cut h;obtain⟨sl,d,hl,ab,rb,cs,hE⟩:=h.nk;have hfew:=h.qt;have hc:=h.ok;have hck:=hc;unfold cA.ok at hck;refine UA h (cD rfl (bL (d.fD rfl (d.fD rfl (d.fD rfl ?_)))));refine WlS hc hf λv1 C K e1 hpn hqn Y=>cD rfl (bL ((e1.bV d id).rS rfl ?_));have hplt:=d.lt;refine Qz (a:=bO) (λ(t:Int) v=>∃i:Nat,t=(i:Int)/\i<=ss.length/\aF v1 v/\∀(j:Nat) s,j<i->ss[j]?=some s->¬max s.st st-min s.st st<c.aG) (λt _=>ss.length-t.toNat) ⟨0,rfl,O,Ext.refl _ _,λj s y=>O⟩ ?_;rintro t v ⟨i,rfl,hi,ev,Q⟩;have w:=e1.trans ev;refine cP (λhlt=>?_) λhge=>?_
 ·simp only at hlt;have hi':i<ss.length:=by omega
  obtain⟨E,hcap,hcl⟩:=hE (by rintro rfl;simp at hi');obtain⟨x,s,z,g,hS⟩:=h.jO hi';have eg:=Kl z g;have hsf:=hS.fit;rw[E.a];refine ix O O ?_;rw[add_lit,show 0+(i:Int).toNat*3=3*i by omega];refine xe (e:=0) (w.bV E.bV id) (E.get eg.1) (E.get eg.2.1) (E.get eg.2.2) (I0 λv6 e6 b6=>b6.fD rfl (b6.fD rfl ?_));have hd:(if(st:Int)>(s.st:Int)then(st:Int)else(s.st:Int))-(if(st:Int)<(s.st:Int)then(st:Int)else(s.st:Int))=((max s.st st-min s.st st:Nat):Int):=by
   split<;>split<;>omega
  refine cT (m:=max s.st st-min s.st st) hd O (bL (((w.trans e6).bV d id).fD rfl ?_));refine cP (λhlt2=>h9 ?_ _ (w.trans e6)) λhge2=>?_
  ·unfold oe;rw[zC];exact zy.2 ⟨s,zG g,by simpa using(by omega:max s.st st-min s.st st<c.aG)⟩
  ·refine cT (m:=i+1) O O ⟨⟨i+1,rfl,O,ev.trans e6,λj s' y W=>?_⟩,O⟩;by_cases e:j=i
   ·subst e;rw[g]at W;cases W;omega
   ·exact Q j s' O W
 ·have hii:i=ss.length:=by simp only at hge;omega
  subst hii;have hE0:oe c ss st=0:=by
   unfold oe;rw[zB];simp only[rY,my,zV];intro s g;obtain⟨j,y⟩:=zP g;exact Q j s (cY.1 y).1 y
  refine bL ((w.bV d id).rS rfl ?_);refine Oc h w hl (λV=>(hE V).1) st O λv7 bb e7=>bL (((w.trans e7).bV d id).rS rfl ?_);have e07:=w.trans e7;obtain⟨hp1,kr⟩:=Gs h.rF st;refine nw (cs:=[.int .i64 0,.int .i64 st,.pointer (some ⟨C,0,none⟩)]) λv8 hz8 e8 hb8=>?_;have H:=e07.trans e8;have X:=aI.bP ab H;have hsz7:=e07.1;refine WiH X hl O hp1 hb8 (λu=>by have:=u.1.2;omega) LO ⟨rfl,rfl,rfl⟩ λs' v9 e9 hr9=>bL ?_;have hb9:=e9.bV (H.bV d id) λu=>u.2.1 rfl;refine hb9.s1 aA λN gA hb10=>?_;have J:=h.len;have D:=h.nd;simp only[zj]at D;have hlt:=Y.lt;have hsz1:=(ev.trans e7).trans e8 |>.1;have B:∀b∈eD ps,b<U.size:=λb d=>(h.fb b d).2;have hS9:∀{a b s'},ij v8 a b c s'->¬(Cut F U a/\a≠p/\a∉eD ps)->¬(Cut F U b/\b≠p/\b∉eD ps)->a≠p->b≠p->ij N a b c s':=λhS n1 n2 m1 m2=>(hS.bS e9 n1 n2).bS gA.ext m1 m2;have hnew:=((Y.bP ev).bP e7).bP e8;have aa:dU (ps.take (ZL ss st)++(C,K)::ps.drop (ZL ss st)) (ss.take (ZL ss st)++⟨st,List.replicate c.n false⟩::ss.drop (ZL ss st)) =
   (dU ps ss).take (3*ZL ss st)++[.int .i64 0,.int .i64 st,.pointer (some ⟨C,0,none⟩)]++(dU ps ss).drop (3*ZL ss st):=by
   rw[VR (by simp[J])];have r:dU ps ss=dU (ps.take (ZL ss st)) (ss.take (ZL ss st))++dU (ps.drop (ZL ss st)) (ss.drop (ZL ss st)):=by
    rw[←VR (by simp[J]),ot,ot]
   have h2:(dU (ps.take (ZL ss st)) (ss.take (ZL ss st))).length=3*ZL ss st:=by rw[KE (by simp[J]),zY];omega
   rw[r,Bi h2,List.drop_left' h2,zl];have:cH.many ⟨st,List.replicate c.n false⟩=0:=by simp[cH.many,Ao]
   simp[dU,this]
  refine h0 hE0 N (ps.take (ZL ss st)++(C,K)::ps.drop (ZL ss st)) ?_ ?_
  ·refine(((aF.to H).trans (e9.sub λb d=>d.1.1))).trans (gA.ext.sub λb d=>d▸h.fp.1)
  ·have A:(eD (ps.take (ZL ss st)++(C,K)::ps.drop (ZL ss st))).Perm (C::K::eD ps):=by
    have:eD ps=eD (ps.take (ZL ss st))++eD (ps.drop (ZL ss st)):=by
     conv=>lhs;rw[←ot (ZL ss st) ps]
     simp only[eD,List.flatMap_append]
    rw[this];have h3:eD (ps.take (ZL ss st)++(C,K)::ps.drop (ZL ss st))=eD (ps.take (ZL ss st))++C::K::eD (ps.drop (ZL ss st)):=by simp[eD]
    rw[h3];exact List.perm_middle.trans ((List.perm_middle).cons C)
   have S:∀b,b∈eD (ps.take (ZL ss st)++(C,K)::ps.drop (ZL ss st))↔b=C\/b=K\/b∈eD ps:=by
    intro b;rw[A.mem_iff];simp
   refine⟨⟨s',hb10,?_⟩,λi x s z g=>?_,.inl h.fp.1,λb d=>?_,?_,?_,hc,?_⟩
   ·rw[wY,aa];refine aI.bS (aI.mono hr9 λb _ d=>?_) gA.ext λb _ d he=>d.2.1 he;rw[S];rcases d with d|d
    ·exact⟨.inl d.1.1,d.2.1,λu=>by
      rcases u with h|h|h
      ·have:=d.1.2;omega
      ·have:=d.1.2;omega
      ·exact d.2.2 h⟩
    ·exact⟨.inr O,O,λu=>by
      rcases u with h|h|h
      ·omega
      ·omega
      ·have:=B b h;omega⟩
   ·rw[wY]at g;have M:(ps.take (ZL ss st)).length=ZL ss st:=by rw[zY];omega
    have L:(ss.take (ZL ss st)).length=ZL ss st:=by rw[zY];omega
    have Z:∀j:Nat,ps[j]?=some x->ss[j]?=some s->ij N x.1 x.2 c s:=λj r h2=>by
     have G:=Q0 r;exact hS9 ((h.sp j x s r h2).bP H) (λu=>u.2.2 G.1) (λu=>u.2.2 G.2) (λe=>D.1 (e▸G.1)) (λe=>D.1 (e▸G.2))
    rcases qO i (ZL ss st)with hlt'|heq|hgt
    ·rw[zd O,zm,zC hlt']at z g;exact Z i z g
    ·rw[zr O]at z g;rw[M,heq,pK]at z;rw[L,heq,pK]at g;simp at z g;subst z;subst g;exact hS9 hnew (λu=>by have:=u.1.2;simp only at this;omega) (λu=>by have:=u.1.2;simp only at this;omega) aC aC
    ·rw[zr O]at z g;rw[M]at z;rw[L]at g;obtain⟨k,hk⟩:∃k,i-ZL ss st=k+1:=⟨i-ZL ss st-1,O⟩;rw[hk,AD,lB]at z g;exact Z _ z g
   ·rcases(S b).1 d with r|r|r
    ·subst r;exact .inr hpn
    ·subst r;exact .inr hqn
    ·exact .inl (h.fb b r).1
   ·simp only[zj];refine⟨λG=>?_,?_⟩
    ·rcases(S p).1 G with r|r|r
     ·omega
     ·omega
     ·exact D.1 r
    ·rw[A.nodup_iff];simp only[zj,zW,not_or];have V:=Y.ne;exact⟨⟨V,λG=>by have:=B _ G;omega⟩,λG=>by have:=B _ G;omega,D.2⟩
   ·rw[wY];simp[J]
   ·rw[wY];rw[qP];have P:=h.rF;refine⟨P.sublist (D9 _ _),td.2 ⟨λs g=>?_,P.sublist (List.drop_sublist _ _)⟩,λa ha b d=>?_⟩
    ·obtain⟨j,y⟩:=zP g;rw[lB]at y;have r:=kr _ s y;have h2:s.st≠st:=λe=>by
      have:=Q (ZL ss st+j) s (cY.1 y).1 y;rw[e]at this;simp at this;omega
     show st<s.st;omega
    ·obtain⟨i,hi⟩:=zP ha;rw[zm]at hi;split at hi
     ·rename_i hlt';have hat:=(kr i a hi).2 hlt';rcases zW.1 d with rfl|d
      ·exact hat
      ·obtain⟨j,y⟩:=zP d;rw[lB]at y;obtain⟨hi1,hi2⟩:=cY.1 hi;obtain⟨hj1,hj2⟩:=cY.1 y;have:=mC.1 P i (ZL ss st+j) hi1 hj1 O;rw[hi2,hj2]at this;exact this
     ·cases hi
end Go.Ar
namespace Go.Proofs
open Go.Vc
set_option maxRecDepth 100000
def Xy.h:Hn:=.q .o1 (.q (.cU (.seq [.op,.op,.op,.cX true 5 (RI.ops 5),.op])) .l)
def Xy.v (a:R2)(b:Hp)(c:aO):Prop:=bX (λd e=>c d e) λf=>If (!a.isNone) (bE a 0 b λh=>f (decide (h>0)) b) (f false b)
theorem Xy.o {a b c}(d:Xy.v a b c):Xy.c a b c:=Wa Tryz.func199 (x:=Xy.h) (R0 d)
def Qp.h:Hn:=.q .o2 (.q (.q (.cU (.seq [.op,.op,.op,.cX false 2 [.op,.op],.op,.cX false 2 [.op,.op],.op,.cX false 2 [.op,.op]])) .aJ) (.q .o6 .l))
def Qp.v (a b:Int)(c:Hp)(d:Option Addr->Int->Hp->Prop):Prop:=bX (λe f=>bX (λg h=>bX (λi j=>If i (d none 1 j) (aV #[.I a,.I b,.I 0,.slice none 0 0] 283 j λk l=>d (some k) 0 l)) λm=>If g (m true h) (m (decide (b>8)) h)) λn=>If e (n true f) (n (decide (b<0)) f)) λo=>If (a<1) (o true c) (o (decide (a>32)) c)
theorem Qp.o {a b c d}(e:Qp.v a b c d):Qp.c a b c d:=Wa Tryz.func213 (x:=Qp.h) (R0 e)
def WU.h:Hn:=.q .o2 (.q (.k (.q .o4 (.c .aL (.q .o7 .aJ)))) (.q .o7 (.q .o8 (.q .gA (.q .gA (.q .o3 .l))))))
def WU.v (a:R2)(b:Hp)(c:Sl->Int->Hp->Prop):Prop:=Xy.c a b λd e=>If (!d) (c ⟨none,0,0⟩ 5 e) (bF a 3 e λg=>If (((g.len:Nat):Int)==0) (c ⟨none,0,0⟩ 4 e) (bF a 3 e λi=>bM (((i.len:Nat):Int)-1) λj=>bF a 3 e λl=>Ix l.a l.len j 1 λm=>jH m e λn=>bF a 3 e λp=>fH p 1 0 j (p.cap:Nat) λq=>bW a λr=>aR r 3 (.slice q.a q.len q.cap) e λs=>bE a 2 s λu=>bW a λv=>aR v 2 (.I (if j<u then j else u)) s λw=>c n 0 w))
theorem WU.o {a b c}(d:WU.v a b c):WU.c a b c:=Wa Tryz.func232 (x:=WU.h) (R0 d)
def Xs.h:Hn:=.q .o2 (.q (.k (.q .o4 (.c .aL (.q .o8 (.c .aL (.q (.oq 11) .aJ)))))) (.q (.cU (.held true [8,11] (.tk [0,1,2,3,4,5] (.all [(6,.all [(7,.all [(8,.take 9 (.take 10 (.all [(11,.done)])))])])])))) .aL))
def Xs.v (a:R2)(b:Sl)(c:Hp)(d:Bool->Int->Hp->Prop):Prop:=Xy.c a c λe f=>If (!e) (d false 5 f) (bE a 0 f λh=>If (((b.len:Nat):Int) != h) (d false 1 f) (bF a 3 f λj=>bE a 1 f λl=>If (((j.len:Nat):Int)≥l) (d false 0 f) (dY f λm=>bW a λn=>aT m n 3 λo=>W4.c b f λp q=>And (m q) <| aV #[.slice p.a p.len p.cap] 31 q λr s=>And (m s) <| App o 1 24 31 [.slice none 0 0] ⟨some r,1,1⟩ s λt u=>bW a λv=>aR v 3 (.slice t.a t.len t.cap) u λw=>d true 0 w)))
theorem Xs.o {a b c d}(e:Xs.v a b c d):Xs.c a b c d:=Wa Tryz.func300 (x:=Xs.h) (R0 e)
end Go.Proofs
namespace Go.Ar
open Go Go.Vc Go.Proofs
variable {U:Hp}{F:Rg}{p batch room:Nat}{t:gR}
def qN (s:Sl):Value:=.slice s.a s.len s.cap
def Wy (xs:List Int):List Value:=xs.map (Value.int .i64)
theorem Ug {l:List Int}:∀v∈Wy l,dV v=true:=by
 intro v hv;simp only[Wy,zE]at hv;obtain⟨x,_,rfl⟩:=hv;rfl
def qU (sls:List Sl)(bs:List (List Int))(U:Hp)(D:Rg):Prop:=sls.length=bs.length/\∀(i:Nat) s xs,sls[i]?=some s->bs[i]?=some xs->cV s 1 (Wy xs) U D/\s.len<=s.cap
theorem qU.loc (sls:List Sl)(bs:List (List Int)):dN (qU sls bs):=λU m F G h j g=>⟨h.1,λi s a b d=>⟨cV.loc _ _ _ _ _ _ _ (h.2 i s a b d).1 j g,(h.2 i s a b d).2⟩⟩
def Dj (sls:List Sl):Prop:=sls.Pairwise λs t=>∀a a',s.a=some a->t.a=some a'->a.block≠a'.block
def kV (s:Sl)(b:Nat):Prop:=∃a,s.a=some a/\a.block=b
theorem _root_.Go.Vc.cV.lU {s:Sl}{sz:Nat}{xs:List Value}{D:Rg}(h:cV s sz xs U D):cV s sz xs U λb=>D b/\kV s b:=
 ⟨h.1,h.2.imp id λ⟨b,o,d,g,a,r⟩=>⟨b,o,d,⟨g,_,a,rfl⟩,a,r⟩⟩
theorem _root_.Go.Vc.cV.bV {s:Sl}{sz:Nat}{xs:List Value}{D:Rg}(h:cV s sz xs U D)(hx:xs≠[]){b:Nat}(hb:kV s b):D b/\b<U.size:=by
 rcases h.2 with h0|⟨b',o,cs,hq,ha,hc,_⟩
 ·exact absurd h0 hx
 ·obtain⟨a,d,rfl⟩:=hb;rw[ha]at d;cases d;exact⟨hq,hc.lt⟩
theorem Dj.snoc {sls:List Sl}{bs:List (List Int)}{D:Rg}{z:Nat}{s':Sl}{xs:List Value}{v:Hp}(h:Dj sls)(hB:qU sls bs U D)(hne:∀xs∈bs,xs≠[])(hz:∀b,D b->b<z)(hs:bT s' 1 xs v λb=>z<=b)(hx:xs≠[]):Dj (sls++[s']):=by
 refine qP.2 ⟨h,List.pairwise_singleton _ _,λs g u m a w p r=>?_⟩;rw[zN]at m;subst m;obtain⟨i,hi⟩:=zP g;have j:=(cY.1 hi).1;have d:bs[i]?=some (bs[i]'(by rw[←hB.1];exact j)):=cW _;have x:=((hB.2 i s _ hi d).1.bV (by simp only[Wy,ne_eq,yU];exact hne _ (zG d)) ⟨a,p,rfl⟩).1;have y:=(hs.fW.bV hx ⟨w,r,rfl⟩).1;have:=hz _ x;omega
structure iU (U:Hp) (F:Rg) (p batch room:Nat) (t:gR):Prop where
 mem:∃(sl:Sl) (sls:List Sl) (D:Rg),bY U p [.int .i64 (batch:Int),.int .i64 (room:Int),.int .i64 (t.low:Int),.slice sl.a sl.len sl.cap]/\bT sl 1 (sls.map qN) U (λb=>F b/\b≠p/\¬D b)/\qU sls t.bs U D/\(∀b,D b->F b/\b≠p)/\Dj sls
 fp:F p
 b1:1<=batch/\batch<=32
 r1:room<=8
 qt:t.bs.length<=room
 low:t.low<=t.bs.length
 all:∀xs∈t.bs,xs.length=batch
theorem iU.loc:dN λU F=>iU U F p batch room t:=λU x F G h r d=>by
 obtain⟨sl,j,D,a,u,w,i,s⟩:=h.mem;refine⟨⟨sl,j,λb=>D b/\b<U.size,?_,?_,?_,λb a=>⟨(d b a.2 (i b a.1).1).1,(i b a.1).2⟩,s⟩,(d p a.lt h.fp).1,h.b1,h.r1,h.qt,h.low,h.all⟩
 ·obtain⟨e,m⟩:=a;exact⟨e,(d p (bY.lt ⟨e,m⟩) h.fp).2.trans m⟩
 ·exact bT.loc _ _ _ _ _ _ _ u r λb a g=>⟨⟨(d b a g.1).1,g.2.1,λhd=>g.2.2 hd.1⟩,(d b a g.1).2⟩
 ·exact qU.loc _ _ _ _ _ _ w r λb a hd=>⟨⟨hd,a⟩,(d b a (i b hd).1).2⟩
theorem iU.bP {σ':Hp}(h:iU U F p batch room t)(e:aF U σ'):iU σ' F p batch room t:=dN.bP iU.loc h e
theorem DM (h:iU U F p batch room t){R:aO}(hR:R true U):Xy.c (aW p) U R:=by
 refine Xy.o ?_;unfold Xy.v;obtain⟨sl,b,D,a,_⟩:=h.mem;have:=h.b1;refine bX.intro (cE rfl (bL (a.rI rfl ?_)));rw[zI O];exact hR
theorem _root_.Go.Vc.cV.ixS {s:Sl}{F:Rg}{sls:List Sl}(h:cV s 1 (sls.map qN) U F){i:Nat}{x:Sl}(hx:sls[i]?=some x){K:Sl->Prop}(hK:K x):Ix s.a s.len (i:Int) 1 λa=>jH a U K:=by
 have hi:=(cY.1 hx).1;obtain⟨b,o,m,d⟩:=h.cell (j:=i) (v:=qN x) (by simp[hx]);have g:=h.1;rw[zk]at g;rw[m];refine ix O O ?_;rw[add_lit];exact oB (by simpa[qN]using d) hK
theorem LY (h1:1<=batch)(h2:batch<=32)(h3:room<=8){R:Option Addr->Int->Hp->Prop}(hR:∀σ' p,aF U σ'->U.size<=p->p<σ'.size->iU σ' (· = p) p batch room ⟨0,[]⟩->R (some ⟨p,0,none⟩) 0 σ'):Qp.c batch room U R:=by
 refine Qp.o ?_;unfold Qp.v;refine bX.intro (fZ O (bX.intro (fZ O (bX.intro (fZ O (fZ O ?_))))));refine nw (cs:=[.int .i64 batch,.int .i64 room,.int .i64 0,.slice none 0 0]) λv g e a=>?_;exact hR v _ e (zD _) O ⟨⟨⟨none,0,0⟩,[],λ_=>False,a,bT.nil _ _ _ _,⟨rfl,λi s d h=>by simp at h⟩,λb h=>h.elim,List.Pairwise.nil⟩,rfl,⟨h1,h2⟩,h3,by simp,by simp,by simp⟩
theorem M8 (h:iU U F p batch room t){sl:Sl}{xs:List Int}{X:Rg}(hs:cV sl 1 (Wy xs) U X)(hl:xs.length<=1000000){R:Bool->Int->Hp->Prop}(h1:xs.length≠batch->R false 1 U)(h2:xs.length=batch->room<=t.bs.length->R false 0 U)
 (h3:xs.length=batch->t.bs.length<room->∀σ',Ext F U σ'->iU σ' (Grow F U) p batch room {t with bs:=t.bs++[xs]}->R true 0 σ'):Xs.c (aW p) sl U R:=by
 refine Xs.o ?_;unfold Xs.v;have h:=iU.loc.cut h;obtain⟨B,A,D,d,hr,z,J,hJ⟩:=h.mem;have r:sl.len=xs.length:=by have:=hs.1;simp[Wy]at this;omega
 have hso:B.len=t.bs.length:=by have:=hr.1;rw[zk,z.1]at this;omega
 have hr8:=h.r1;have hb1:=h.b1;refine DM h (cD rfl (bL (d.rI rfl ?_)));rw[sv];refine cO (λy=>h1 (by rw[←r];simpa using y)) λW=>?_;have g:xs.length=batch:=by rw[←r];simpa using W
 refine bL (d.rS rfl (bL (d.rI rfl (cP (λQ=>h2 g (by simp only at Q;omega)) λY=>?_))));simp only at Y;refine⟨λh'=>bY h' p [.int .i64 (batch:Int),.int .i64 (room:Int),.int .i64 (t.low:Int),.slice B.a B.len B.cap],d,bL ⟨B,λh' K=>by rw[add_lit,K.cell];rfl,?_⟩⟩;refine H8 hs Ug O λx v1 hl1 e1 w=>⟨e1.bV d id,?_⟩;refine nw (cs:=[.slice x.a x.len x.cap]) λv2 hz2 e2 S=>⟨(e1.trans e2).bV d id,?_⟩;have L:=aI.bP (aI.bP hr e1) e2;refine L.app (ys:=[qN x]) rfl rfl ?_ (by simp[dV,qN]) ?_ ?_ nh λs2 v3 hl3 V Z=>bL ?_
 ·intro j u hu;rw[add_lit,zH,S.cell];exact hu
 ·simp only;have:(B.len+1)*24<=9*24:=mu O O;omega
 ·simp only;omega
 ·have M:=V.bV ((e1.trans e2).bV d id) λE=>E.2.1 rfl;have hplt:=d.lt;have hs1:=e1.1;refine M.s1 aA λv4 o4 P=>h3 g O v4 ?_ ?_
  ·exact((aF.to (e1.trans e2)).trans (V.sub λb d=>d.1.1)).trans (o4.ext.sub λb d=>d▸h.fp.1)
  ·refine⟨⟨s2,A++[x],λb=>D b/\b<U.size\/U.size<=b/\b<v1.size,P,?_,⟨by simp[z.1],λi s ys hi m=>?_⟩,λb d=>?_,?_⟩,.inl h.fp.1,h.b1,h.r1,by simp;omega,by have:=h.low;simp;omega,λys m=>?_⟩
   ·rw[zo];refine aI.bS (aI.mono Z λb _ d=>?_) o4.ext λb _ d N=>d.2.1 N;rcases d with d|d
    ·exact⟨.inl d.1.1,d.2.1,λhd=>by
      rcases hd with hd|hd
      ·exact d.2.2 hd.1
      ·have:=d.1.2;omega⟩
    ·exact⟨.inr O,O,λhd=>by rcases hd with hd|hd<;>omega⟩
   ·have mv:∀{s:Sl} {ys:List Int} {G:Rg},cV s 1 (Wy ys) v2 G->(∀b,G b->b≠p/\¬(Cut F U b/\b≠p/\¬D b))->cV s 1 (Wy ys) v4 G:=λK hn=>
     aH.bS (aH.bS K V λb _ d=>(hn b d).2) o4.ext λb _ d N=>(hn b d).1 N
    rcases kv i A.length with hi'|hi'
    ·rw[zd hi']at hi;rw[zd (by rw[←z.1];exact hi')]at m;obtain⟨k1,k2⟩:=z.2 i s ys hi m;refine⟨aH.mono (mv (aH.bP (aH.bP (aH.mono k1 (G:=λb=>D b/\b<U.size) λb d hd=>⟨hd,d⟩) e1) e2) λb hd=>⟨(J b hd.1).2,λE=>E.2.2 hd.1⟩) λb _ hd=>.inl hd,k2⟩
    ·rw[zr hi']at hi;rw[zr (by rw[←z.1];exact hi')]at m;have H:i-A.length=0:=by
      have:=(cY.1 hi).1;simp at this;omega
     rw[H]at hi;rw[show i-t.bs.length=0 by rw[←z.1];exact H]at m;simp at hi m;subst hi;subst m;have C:x.len<=x.cap:=by
      rcases w.2 with⟨q1,q2⟩|⟨_,_,_,_,_,q,_⟩
      ·omega
      ·exact q
     refine⟨aH.mono (mv (aH.bP (aH.mono w.fW (G:=λb=>U.size<=b/\b<v1.size) λb d hd=>⟨hd,d⟩) e2) λb hd=>⟨O,λE=>by have:=E.1.2;omega⟩) λb _ hd=>.inr hd,C⟩
   ·rcases d with hd|hd
    ·exact⟨.inl (J b hd.1).1.1,(J b hd.1).2⟩
    ·exact⟨.inr hd.1,O⟩
   ·have y:∀ys∈t.bs,ys≠[]:=λys m e=>by have:=iU.all ‹_› ys m;rw[e]at this;simp at this;omega
    exact hJ.snoc z y (λb hd=>(J b hd).1.2) w (by simp only[Wy,ne_eq,yU];intro e;rw[e]at g;simp at g;omega)
   ·rcases zM.1 m with h|h
    ·exact iU.all ‹_› ys h
    ·simp at h;subst h;exact g
theorem WeN (h:iU U F p batch room t)(h0:t.bs=[]){R:Sl->Int->Hp->Prop}(hR:R ⟨none,0,0⟩ 4 U):WU.c (aW p) U R:=by
 refine WU.o ?_;unfold WU.v;obtain⟨g,b,D,i,d,j,m,r⟩:=h.mem;have a:g.len=t.bs.length:=by have:=d.1;rw[zk,j.1]at this;omega
 refine DM h (cD rfl (bL (i.rS rfl (cE ?_ hR))));simp[a,h0]
theorem Wh1 (h:iU U F p batch room t)(h0:t.bs≠[]){R:Sl->Int->Hp->Prop}(hR:∀out σ',Ext F U σ'->(∀b,kV out b->F b)->cV out 1 (Wy (t.bs.getLast?.getD [])) σ' (kV out)->out.len<=out.cap->iU σ' (λb=>F b/\¬kV out b) p batch room t.rem->R out 0 σ'):WU.c (aW p) U R:=by
 refine WU.o ?_;unfold WU.v;obtain⟨S,g,D,d,H,A,B,Y⟩:=h.mem;have ab:S.len=t.bs.length:=by have:=H.1;rw[zk,A.1]at this;omega
 have W:=oa.2 h0;have hr8:=h.r1;have hfw:=h.qt;have aa:=h.low;have Q:t.bs.length-1<g.length:=by rw[A.1];omega
 obtain⟨o,M⟩:∃o,g[t.bs.length-1]?=some o:=⟨_,cW Q⟩;have j:t.bs[t.bs.length-1]?=some (t.bs.getLast?.getD []):=by
  rw[List.getLast?_eq_getElem?,cW O];rfl
 obtain⟨X,k2⟩:=A.2 _ o _ M j;refine DM h (cD rfl (bL (d.rS rfl (cD ?_ ?_))))
 ·simp only[mP];omega
 refine bL (d.rS rfl (cT (m:=t.bs.length-1) aC O (bL (d.rS rfl ?_))));refine H.fW.ixS M (bL (d.rS rfl ?_));have V:S.len<=S.cap:=by
  rcases H.2 with⟨q1,q2⟩|⟨_,_,_,_,_,q,_⟩
  ·omega
  ·exact q
 refine jy (lo:=0) O aD aD (bL (d.s1 aA λv1 o1 G=>bL (G.rI rfl (bL ?_))))
 refine G.s1 aA λv2 o2 r=>?_;have u:Ext (· = p) U v2:=o1.ext.trans o2.ext;have C:(if((t.bs.length-1:Nat):Int)<(t.low:Int)then((t.bs.length-1:Nat):Int)else(t.low:Int))=((min t.low (t.bs.length-1):Nat):Int):=by split<;>omega
 rw[C]at r;have J:∀x∈t.bs,x≠[]:=λx w e=>by have Z:=h.all x w;have h2:=h.b1;rw[e]at Z;simp at Z;omega
 have y:∀b,kV o b->D b:=λb d=>(X.bV (by simp only[Wy,ne_eq,yU];exact J _ (zG j)) d).1;refine hR o v2 (u.sub λb d=>d▸h.fp) (λb d=>(B b (y b d)).1) (aH.mono (aH.bS X u λb _ d E=>(B b d).2 E).lU λb _ hd=>hd.2) k2 ⟨⟨_,g.dropLast,λb=>D b/\¬kV o b,r,?_,⟨by simp[A.1,gR.rem],λi s x hi w=>?_⟩,λb hd=>⟨⟨(B b hd.1).1,hd.2⟩,(B b hd.1).2⟩,List.Pairwise.sublist (List.dropLast_sublist _) Y⟩,⟨h.fp,λd=>(B p (y p d)).2 rfl⟩,h.b1,h.r1,by simp[gR.rem];omega,by simp[gR.rem];omega,λx w=>h.all x (List.dropLast_subset _ w)⟩
 ·refine aI.bS ?_ u λb _ d E=>d.2.1 E;refine⟨by simp[A.1],?_⟩;rcases H.2 with⟨q1,q2⟩|⟨b,cs,hq,L,hbb,hle,hcl,ht⟩
  ·omega
  ·refine .inr ⟨b,cs,⟨⟨hq.1,λd=>hq.2.2 (y b d)⟩,hq.2.1,λhd=>hq.2.2 hd.1⟩,?_,hbb,by simp only;omega,by simp only;omega,?_⟩
   ·simp only[L];split<;>simp[add_lit]
   ·simp only[zk]at ht ⊢;have hd:g.dropLast.map qN=(g.map qN).take (g.length-1):=by rw[yC,List.map_take]
    rw[hd,←ht,yN,Ce]
    congr 1;omega
 ·have z:i<t.bs.length-1:=by
   have:=(cY.1 w).1;simpa[gR.rem]using this
  rw[yC,zm]at hi;simp only[gR.rem,yC,zm]at w;rw[zC (by rw[A.1];exact z)]at hi;rw[zC z]at w;obtain⟨m1,m2⟩:=A.2 i s x hi w;refine⟨aH.mono (aH.bS m1 u λb _ d E=>(B b d).2 E).lU λb _ d=>⟨d.1,λr=>?_⟩,m2⟩;obtain⟨a,L,e1⟩:=d.2;obtain⟨a',P,e2⟩:=r;obtain⟨K,rfl⟩:=cY.1 hi;obtain⟨N,rfl⟩:=cY.1 M;exact mC.1 Y i _ K N z a a' L P (e1.trans e2.symm)
def xX (out:Sl)(bs:List (List Int))(U:Hp)(G:Rg):Prop:=∃sls:List Sl,cV out 1 (sls.map qN) U G/\qU sls bs U G
theorem xX.loc (out:Sl)(bs:List (List Int)):dN (xX out bs):=λU j F G ⟨a,g,i⟩ d b=>⟨a,cV.loc _ _ _ _ _ _ _ g d b,qU.loc _ _ _ _ _ _ i d b⟩
end Go.Ar
namespace Go.Ar
open Go Go.Vc Go.Proofs
open Go.Bu (ZH)
variable {U:Hp}{F:Rg}{p:Nat}{ow:Nat->Nat}
def vn (ow:Nat->Nat)(x:Nat)(l:List (Nat×Nat×Nat)):Prop:=
 l.length<=x/\(∀r∈l,1<=r.2.1/\r.1+r.2.1<=x/\∀y,r.1<=y->y<r.1+r.2.1->ow y=r.2.2)/\∀y,y<x->ow y≠0->∃r∈l,r.1<=y/\y<r.1+r.2.1
theorem vn.new {x:Nat}{l:List (Nat×Nat×Nat)}(h:vn ow x l):vn ow (x+1) (l++[(x,1,ow x)]):=by
 refine⟨by simp;exact h.1,λr d=>?_,λy i g=>?_⟩
 ·rcases zM.1 d with a|a
  ·exact⟨(h.2.1 r a).1,by have:=(h.2.1 r a).2.1;omega,(h.2.1 r a).2.2⟩
  ·simp at a;subst a;exact⟨zD _,zD _,λy a b=>by simp only at a b ⊢;rw[show y=x by omega]⟩
 ·rcases kv y x with a|a
  ·obtain⟨r,d,b⟩:=h.2.2 y a g;exact⟨r,kM _ d,b⟩
  ·exact⟨(x,1,ow x),by simp,by simp only;omega⟩
theorem vn.more {x a m no:Nat}{l:List (Nat×Nat×Nat)}(h:vn ow x (l++[(a,m,no)]))(he:a+m=x)(hno:ow x=no):vn ow (x+1) (l++[(a,m+1,no)]):=by
 refine⟨by have:=h.1;simp at this ⊢;omega,λr g=>?_,λy j i=>?_⟩
 ·rcases zM.1 g with b|b
  ·have:=h.2.1 r (kM _ b);exact⟨this.1,O,this.2.2⟩
  ·simp at b;subst b;have:=h.2.1 (a,m,no) aA;refine⟨by simp only;omega,by simp only;omega,λy b d=>?_⟩;simp only at b d ⊢;rcases kv y (a+m)with h3|h3
   ·exact this.2.2 y b h3
   ·rw[show y=x by omega];exact hno
 ·rcases kv y x with b|b
  ·obtain⟨r,g,d⟩:=h.2.2 y b i;rcases zM.1 g with h3|h3
   ·exact⟨r,kM _ h3,d⟩
   ·simp at h3;subst h3;exact⟨(a,m+1,no),by simp,by simp only at d ⊢;omega⟩
  ·exact⟨(a,m+1,no),by simp,by simp only;have:=h.2.1 (a,m,no) aA;simp only at this;omega⟩
end Go.Ar
namespace Go.Proofs
open Go.Vc
set_option maxRecDepth 100000
def YJ.h:Hn:=.q .o1 (.q (.q .o4 (.q .o2 .aJ)) (.q .o5 .aM))
def YJ.v (a:R2)(b c:Int)(d:Hp)(e:aN):Prop:=XJ.c a b 1 d λf g=>If (f != 0) (e f g) (Nz 8<|bM (b.tdiv 8) λh=>Zv.c a h c g λi=>e 0 i)
theorem YJ.o {a b c d e}(f:YJ.v a b c d e):YJ.c a b c d e:=Wa Tryz.func62 (x:=YJ.h) (R0 f)
def Zj.h:Hn:=.q .o2 (.q (.q .o4 (.q .o2 (.c (.q .o3 .l) .l))) (.q .o6 .l))
def Zj.v (a:R2)(b:Int)(c:Hp)(d:Int->Int->Hp->Prop):Prop:=XJ.c a b 1 c λe f=>If (e != 0) (d 0 e f) (Nz 8<|bM (b.tdiv 8) λg=>Zy.c a g f λh i=>d h 0 i)
theorem Zj.o {a b c d}(e:Zj.v a b c d):Zj.c a b c d:=Wa Tryz.func65 (x:=Zj.h) (R0 e)
def XJ.h:Hn:=.q .o1 (.q (.k (.q .o4 (.c .aM (.q .o3 (.c .aM (.q (.cU (.seq [.op,.op,.op,.cX false 3 (RI.ops 3),.op])) .aK)))))) (.q .gA (.q (.q (.cU (.gN true [] [(50,.one .b)] (.tk [0,1,2,3,4,5,6,7] (.split 39 (.tk [8,9,10,11,12,13,14,15,16,17,18] (.done)) (.tk [8,9,10,11,12,13,14,15,16] (.all [(17,.take 18 (.done))])))))) .aK) .aM)))
def XJ.v (a:R2)(b c:Int)(d:Hp)(e:aN):Prop:=XT.c a d λf g=>If (!f) (e 5 g) (If (c==0) (e 0 g) (bX (λh i=>If h (e 7 i) (Nz 256<|bM (b.tdiv 256) λj=>Nz 8<|bM (b.tdiv 8) λk=>bM (k+c) λl=>bM (l-1) λm=>Nz 32<|bM (m.tdiv 32) λn=>Jn [.b] (λ(o:Bool) p=>If o (e 7 p) (e 0 p)) λq=>dY i λr=>bW a λs=>aT r s 0 λt=>If (n≥((t.len:Nat):Int)) (q true i) (bW a λu=>aT r u 0 λv=>bM (n+1) λw=>fH v 2 j w (v.cap:Nat) λx=>gJ r .b ((Addr.mk 0 0 none).add 0) λ(y:Bool)=>gJ r .b ((Addr.mk 0 0 none).add 1) λ(z:Bool)=>Wq.c x y z i λaa ab=>And (r ab) <| q aa ab))) λac=>If (b<0) (ac true g) (Nz 8 <| ac ((b.tmod 8) != 0) g)))
theorem XJ.o {a b c d e}(f:XJ.v a b c d e):XJ.c a b c d e:=Wa Tryz.func104 (x:=XJ.h) (R0 f)
def Zv.h:Hn:=.q .o3 (.kO [] (.q (.oq 9) (.c (.q (.cU (.tail 7 (RI.ops 7) [.op])) (.q (.cU (.held true [6] (.tk [0,1,2,3,4] (.all [(5,.all [(6,.done)])])))) (.cU (.tail 13 (RI.ops 13) [.op])))) .l)) (.o 11))
def Zv.v (a:R2)(b c:Int)(d:Hp)(e:aP):Prop:=Nz 32<|bM (b.tdiv 32) λf=>Jn [] (λg=>bJ a 1 g λi=>Lk .i64 .s i f g λj=>Nz 32 <| Ix (j.getD ⟨none,0,0⟩).a (j.getD ⟨none,0,0⟩).len (b.tmod 32) 1 λk=>dQ k (.I c) g λl=>e l) λm=>bF a 0 d λo=>Ix o.a o.len f 2 λp=>aZ p 0 d λq=>aZ p 1 d λr=>lR ((Addr.mk 1 0 none).add 0) d λs=>lR ((Addr.mk 1 0 none).add 1) d λt=>If (!((q==s)&&((r==t)&&true))) (bF a 0 d λv=>lR ((Addr.mk 1 0 none).add 0) d λw=>lR ((Addr.mk 1 0 none).add 1) d λx=>Ix v.a v.len f 2 λy=>aR y 0 (.bool w) d λz=>aR y 1 (.bool x) z λaa=>dY aa λab=>bW a λac=>gJ ab .m (ac.add 1) λ(ad:Option Nat)=>Mk 32 32 8 3 [.I 0] aa λae af=>And (ab af) <| kQ .i64 .s ad f ae af λag=>bE a 2 ag λai=>bJ a 1 ag λak=>re .i64 .s ak ag λal=>bW a λam=>aR am 2 (.I (if al>ai then al else ai)) ag λan=>m an) (m d)
theorem Zv.o {a b c d e}(f:Zv.v a b c d e):Zv.c a b c d e:=Wa Tryz.func105 (x:=Zv.h) (R0 f)
def Zy.h:Hn:=.q .o1 (.q (.q (.o 12) (.q .o1 (.c (.q .o6 .l) .l))) .aM)
def Zy.v (a:R2)(b:Int)(c:Hp)(d:aN):Prop:=bJ a 1 c λf=>Nz 32<|bM (b.tdiv 32) λg=>Lk .i64 .s f g c λh=>If h.isSome (Nz 32 <| Ix (h.getD ⟨none,0,0⟩).a (h.getD ⟨none,0,0⟩).len (b.tmod 32) 1 λi=>bN i c λj=>d j c) (d 0 c)
theorem Zy.o {a b c d}(e:Zy.v a b c d):Zy.c a b c d:=Wa Tryz.func110 (x:=Zy.h) (R0 e)
def X5.h:Hn:=.q .o1 (.q (.q .o3 .aK) (.q .o6 .l))
def X5.v (a:R2)(b:Hp)(c:aN):Prop:=XT.c a b λd e=>If (!d) (c 0 e) (bF a 0 e λg=>c ((g.len:Nat):Int) e)
theorem X5.o {a b c}(d:X5.v a b c):X5.c a b c:=Wa Tryz.func130 (x:=X5.h) (R0 d)
def XT.h:Hn:=.q .o1 (.q (.cU (.seq [.op,.op,.op,.cX true 6 (RI.ops 6),.op])) .l)
def XT.v (a:R2)(b:Hp)(c:aO):Prop:=bX (λd e=>c d e) λf=>If (!a.isNone) (bF a 0 b λh=>f (decide (((h.len:Nat):Int)>0)) b) (f false b)
theorem XT.o {a b c}(d:XT.v a b c):XT.c a b c:=Wa Tryz.func131 (x:=XT.h) (R0 d)
def KA.h:Hn:=.q .o2 (.q (.q (.cU (.seq [.op,.op,.op,.cX false 2 [.op,.op]])) .aJ) (.q .o7 .l))
def KA.v (a:Int)(b:Hp)(c:Option Addr->Int->Hp->Prop):Prop:=bX (λd e=>If d (c none 1 e) (Mk a a 2 181 [.bool false,.bool false] e λf g=>Nw (.map #[] 0) g λh i=>aV #[.slice f.a f.len f.cap,.map (some h.block),.I 0] 185 i λj k=>c (some j) 0 k)) λl=>If (a<1) (l true b) (l (decide (a>1024)) b)
theorem KA.o {a b c}(d:KA.v a b c):KA.c a b c:=Wa Tryz.func153 (x:=KA.h) (R0 d)
def Zw.h:Hn:=.q .o2 (.q (.k (.q .o4 (.c .aL (.q (.cU (.seq [.op,.op,.op,.cX false 2 [.op,.op],.op,.cX false 7 (RI.ops 7),.op,.cX false 9 (RI.ops 9),.op])) .aJ)))) (.q (.o 11) .l))
def Zw.v (a:R2)(b c:Int)(d:Hp)(e:Sl->Int->Hp->Prop):Prop:=XT.c a d λf g=>If (!f) (e ⟨none,0,0⟩ 5 g) (bX (λh i=>bX (λj k=>bX (λl m=>If l (e ⟨none,0,0⟩ 1 m) (bF a 0 m λo=>bM (b+c) λp=>fH o 2 b p (o.cap:Nat) λq=>e q 0 m)) λr=>If j (r true k) (bF a 0 k λt=>bM (((t.len:Nat):Int)-b) λu=>r (decide (c>u)) k)) λv=>If h (v true i) (bF a 0 i λx=>v (decide (b>((x.len:Nat):Int))) i)) λy=>If (b<0) (y true g) (y (decide (c<1)) g))
theorem Zw.o {a b c d e}(f:Zw.v a b c d e):Zw.c a b c d e:=Wa Tryz.func306 (x:=Zw.h) (R0 f)
def Zx.h:Hn:=.q .o1 (.q .o2 (.k (.loop [(8,.I)] (.q (.q .o5 (.c .l .l)) (.q (.k (.q (.cU (.tail 7 (RI.ops 7) [.op])) .o6)) .o3)))))
def Zx.v (a:R2)(b c:Int)(d e:Bool)(f:Hp)(g:aP):Prop:=aV #[.bool d,.bool e] 181 f λh i=>Yf [bO] (λj=>j b i) λk (l:Int) m=>bM (b+c) λn=>If (l<n) (bF a 0 m λp=>aZ h 0 m λq=>aZ h 1 m λr=>Ix p.a p.len l 2 λs=>aR s 0 (.bool q) m λt=>aR s 1 (.bool r) t λu=>bJ a 1 u λw=>mj .i64 .s w l u λx=>bM (l+1) λy=>k y x) (g m)
theorem Zx.o {a b c d e f g}(h:Zx.v a b c d e f g):Zx.c a b c d e f g:=Wa Tryz.func307 (x:=Zx.h) (R0 h)
def ZA.h:Hn:=.q .o1 (.q .o9 (.q (.k (.q .o3 (.c .aL (.q .o3 .aK)))) (.q .o5 .aM)))
def ZA.v (a:R2)(b c:Int)(d:Hp)(e:aN):Prop:=Zw.c a b c d λf g h=>If (g != 0) (e g h) (Wk.c f ⟨342,#[],#[]⟩ h λi j=>If i (e 5 j) (lR ((Addr.mk 2 0 none).add 0) j λk=>lR ((Addr.mk 2 0 none).add 1) j λl=>Zx.c a b c k l j λm=>e 0 m))
theorem ZA.o {a b c d e}(f:ZA.v a b c d e):ZA.c a b c d e:=Wa Tryz.func318 (x:=ZA.h) (R0 f)
def YS.h:Hn:=.q .o2 (.q .o4 .l)
def YS.v (a b:Bool)(c:Hp)(d:aO):Prop:=aV #[.bool a,.bool b] 181 c λe f=>aZ e 0 f λg=>aZ e 1 f λh=>lR ((Addr.mk 0 0 none).add 0) f λi=>lR ((Addr.mk 0 0 none).add 1) f λj=>d (!((g==i)&&((h==j)&&true))) f
theorem YS.o {a b c d}(e:YS.v a b c d):YS.c a b c d:=Wa Tryz.func342 (x:=YS.h) (R0 e)
end Go.Proofs
namespace Go.Ar
open Go Go.Vc Go.Proofs
open Go.Bu (ZH)
variable {U:Hp}{F:Rg}{p q r:Nat}{sp:Sp}
structure Gl (U:Hp):Prop where
 c0:cell U ⟨2,0,none⟩=some (.bool true)
 c1:cell U ⟨2,1,none⟩=some (.bool false)
 u0:cell U ⟨0,0,none⟩=some (.bool false)
 u1:cell U ⟨0,1,none⟩=some (.bool false)
structure Gc (U:Hp):Prop where
 d0:cell U ⟨1,0,none⟩=some (.bool true)
 d1:cell U ⟨1,1,none⟩=some (.bool true)
structure Gd (U:Hp):Prop where
 lt:1<U.size
def jd (F:Rg):Prop:=∀b,F b->b≠2/\b≠0
theorem KY {h:Hp}{b o:Nat}{v:Value}(hc:cell h ⟨b,o,none⟩=some v):b<h.size:=(FJ hc).1
theorem Gl.bS {σ':Hp}(g:Gl U)(e:Ext F U σ')(hF:jd F):Gl σ':=by
 have a:¬F 2:=λh=>(hF _ h).1 rfl;have b:¬F 0:=λh=>(hF _ h).2 rfl;exact⟨(KX e (KY g.c0) a).trans g.c0,(KX e (KY g.c1) a).trans g.c1,(KX e (KY g.u0) b).trans g.u0,(KX e (KY g.u1) b).trans g.u1⟩
theorem Gc.bS {σ':Hp}(g:Gc U)(e:Ext F U σ')(hF:¬F 1):Gc σ':=⟨(KX e (KY g.d0) hF).trans g.d0,(KX e (KY g.d1) hF).trans g.d1⟩
theorem Gc.bP {σ':Hp}(g:Gc U)(e:aF U σ'):Gc σ':=g.bS e id
theorem Gd.bS {σ':Hp}(g:Gd U)(e:Ext F U σ')(hF:¬F 1):Gd σ':=⟨wy g.lt e.1⟩
theorem Gd.bP {σ':Hp}(g:Gd U)(e:aF U σ'):Gd σ':=g.bS e id
theorem Gc.gd (g:Gc U):Gd U:=⟨KY g.d0⟩
theorem Gl.bP {σ':Hp}(g:Gl U)(e:aF U σ'):Gl σ':=g.bS e λ_ h=>h.elim
theorem jd.grow (hF:jd F)(g:Gl U):jd (Grow F U):=λb a=>by
 rcases a with h|h
 ·exact hF b h
 ·have d:=KY g.c0;have i:=KY g.u0;exact⟨O,O⟩
theorem jd.sub {G:Rg}(hF:jd F)(h:∀b,G b->F b):jd G:=λb a=>hF b (h b a)
def gD:Nat->Bool×Bool
 | 0=>(false,false)
 | 1=>(true,false)
 | _=>(true,true)
def hO (st:List Nat):List Value:=st.flatMap λx=>[.bool (gD x).1,.bool (gD x).2]
theorem V8 (l:List Nat):(hO l).length=2*l.length:=by
 induction l with
 | nil=>rfl
 | cons x l ih=>simp only[hO,nY,zK,zS,lf]at *;omega
theorem Lm {l:List Nat}{i x:Nat}(h:l[i]?=some x):(hO l)[2*i]?=some (.bool (gD x).1)/\(hO l)[2*i+1]?=some (.bool (gD x).2):=by
 induction l generalizing i with
 | nil=>simp at h
 | cons y l ih=>
  have e:hO (y::l)=[.bool (gD y).1,.bool (gD y).2]++hO l:=by simp[hO]
  rw[e];cases i with
  | zero=>simp at h;subst h;simp
  | succ i=>
   have:=ih (i:=i) (by simpa using h);rw[show 2*(i+1)=2*i+2 by omega];simpa using this
theorem Jq {l:List Nat}{i v:Nat}(h:i<l.length)(rest:List Value):((hO l++rest).set (2*i) (.bool (gD v).1)).set (2*i+1) (.bool (gD v).2)=hO (l.set i v)++rest:=by
 induction l generalizing i with
 | nil=>simp at h
 | cons y l ih=>
  have e:∀z m,hO (z::m)=.bool (gD z).1 :: .bool (gD z).2::hO m:=λz m=>by simp[hO]
  cases i with
  | zero=>simp[e]
  | succ i=>
   have:=ih (i:=i) (by simpa using h);rw[tI,e,e,show 2*(i+1)=2*i+1+1 by omega];simp only[lN,tI];rw[this]
theorem CA {x y:Nat}(hx:x<=2)(hy:y<=2):(((gD x).1==(gD y).1)&&(((gD x).2==(gD y).2)&&true))=(x==y):=by
 match x,y,hx,hy with
 | 0,0,_,_=>rfl
 | 1,1,_,_=>rfl
 | 2,2,_,_=>rfl
 | 0,1,_,_=>rfl
 | 0,2,_,_=>rfl
 | 1,0,_,_=>rfl
 | 1,2,_,_=>rfl
 | 2,0,_,_=>rfl
 | 2,1,_,_=>rfl
theorem KT {α:Type}(x:Int×α)(l:List (Int×α))(k:Int):bU (x::l) k=if x.1=k then some x.2 else bU l k:=by
 unfold bU;rw[vR];by_cases h:x.1=k
 ·simp[h]
 ·have:(x.1==k)=false:=by simpa using h
  rw[this,zB h]
theorem Ψ {α:Type}(l:List (Int×α))(n k:Int)(v:α):bU (l.map λx=>if x.1==n then(n,v)else x) k=if k=n then(if l.any (λx=>x.1==n)then some v else none)else bU l k:=by
 induction l with
 | nil=>simp[bU]
 | cons x l ih=>
  rw[zR,KT,ih,KT,List.any_cons];by_cases hx:x.1=n
  ·by_cases hk:k=n
   ·subst hk;simp[hx]
   ·have:¬n=k:=λe=>hk e.symm;simp[hx,hk,this]
  ·have a:(x.1==n)=false:=by simpa using hx
   simp only[a,za,jX,xz];by_cases hk:k=n
   ·subst hk;simp[hx]
   ·simp[hk]
theorem PF {α:Type}(l:List (Int×α))(n k:Int)(v:α)(h:l.any (λx=>x.1==n)=false):bU (l++[(n,v)]) k=if k=n then some v else bU l k:=by
 induction l with
 | nil=>
  rw[rH,KT];by_cases hk:k=n
  ·simp[hk]
  ·have:¬n=k:=λe=>hk e.symm;simp[hk,this,bU]
 | cons x l ih=>
  rw[List.any_cons,AN]at h;rw[lN,KT,ih h.2,KT];have a:¬x.1=n:=by simpa using h.1
  by_cases hk:k=n
  ·subst hk;simp[a]
  ·simp[hk]
theorem UW {α:Type}(l:List (Int×α))(n k:Int)(v:α):bU (dA l n v) k=if k=n then some v else bU l k:=by
 unfold dA;cases h:l.any (λx=>x.1==n)
 ·rw[zB aA,PF l n k v h]
 ·rw[zC rfl,Ψ,h];simp
theorem C5 {α:Type}(l:List (Int×α))(n k:Int):bU (cN l n) k=if k=n then none else bU l k:=by
 unfold cN
 induction l with
 | nil=>simp[bU]
 | cons x l ih=>
  rw[tL,KT];by_cases hx:x.1=n
  ·have:(!(x.1==n))=false:=by simp[hx]
   rw[this];simp only[za,jX,ih];by_cases hk:k=n
   ·simp[hk]
   ·have:¬x.1=k:=λe=>hk (e.symm.trans hx);simp[hk,this]
  ·have:(!(x.1==n))=true:=by simpa using hx
   rw[this,zC rfl,KT,ih];by_cases hk:k=n
   ·subst hk;simp[hx]
   ·simp[hk]
theorem ZY {α:Type}{l:List (Int×α)}{k:Int}{v:α}(h:bU l k=some v):(k,v)∈l:=by
 unfold bU at h;cases hf:l.find? (λx=>x.1==k)with
 | none=>rw[hf]at h;cases h
 | some x=>
  rw[hf]at h;have a:=uR hf;have b:=uu hf;have d:x.1=k:=by simpa using a
  have g:x.2=v:=by simpa using h
  rw[←d,←g];exact b
theorem Wes {α:Type}{l:List (Int×α)}{k:Int}:(bU l k).isSome=true↔k∈l.map (·.1):=by
 unfold bU;rw[Option.isSome_map,Bs];simp
def IT (U:Hp)(s:Sl)(b:Nat)(f:Nat->Int):Prop:=s.a=some ⟨b,0,none⟩/\s.len=32/\32<=s.cap/\∃cs,bY U b cs/\32<=cs.length/\∀j,j<32->cs[j]?=some (.int .i64 (f j))
structure fJ (U:Hp) (F:Rg) (p q r:Nat) (l:List (Int×Sl)) (B:Nat->Nat) (sp:Sp):Prop where
 hd:∃cap,sp.st.length<=cap/\bY U p [.slice (some ⟨q,0,none⟩) sp.st.length cap,.map (some r),.int .i64 (sp.pk:Int)]
 row:∃rest,bY U q (hO sp.st++rest)
 map:dK U r .i64 .s l
 keys:∀x:Int,(bU l x).isSome=true↔∃k:Nat,x=k/\sp.st[k]?=some 2
 wd:∀(k:Nat) s,bU l (k:Int)=some s->IT U s (B k) λj=>sp.wd (32*k+j)
 inj:∀k k':Nat,sp.st[k]?=some 2->sp.st[k']?=some 2->B k=B k'->k=k'
 out:∀k:Nat,sp.st[k]?=some 2->F (B k)/\B k≠p/\B k≠q/\B k≠r
 fs:F p/\F q/\F r/\p≠q/\p≠r/\q≠r
 zero:∀w:Nat,sp.st[w/32]?≠some 2->sp.wd w=0
 n1:1<=sp.st.length
 n2:sp.st.length<=1024
 sy:∀x∈sp.st,x<=2
 pk:sp.pk<=1024
def dO (U:Hp)(F:Rg)(p:Nat)(sp:Sp):Prop:=∃q r l B,fJ U F p q r l B sp
theorem fJ.entry {l:List (Int×Sl)}{B:Nat->Nat}(h:fJ U F p q r l B sp){k:Nat}(hk:sp.st[k]?=some 2):∃s,bU l (k:Int)=some s/\IT U s (B k) λj=>sp.wd (32*k+j):=by
 have:=(h.keys (k:Int)).2 ⟨k,rfl,hk⟩;obtain⟨s,a⟩:=pc.1 this;exact⟨s,a,h.wd k s a⟩
theorem fJ.mg {l:List (Int×Sl)}{B:Nat->Nat}(h:fJ U F p q r l B sp){k:Nat}{s:Sl}(hs:bU l (k:Int)=some s):sp.st[k]?=some 2:=by
 obtain⟨k',e,a⟩:=(h.keys (k:Int)).1 (by rw[hs];rfl);have:k=k':=by omega
 subst this;exact a
theorem dO.loc:dN λU F=>dO U F p sp:=λU H F G ⟨q,r,l,B,h⟩ P x=>by
 have g:∀{b:Nat} {i:List Value},bY U b i->F b->bY H b i/\G b:=by
  rintro b i ⟨e,z⟩ N;have:=x b (bY.lt ⟨e,z⟩) N;exact⟨⟨e,this.2.trans z⟩,this.1⟩
 obtain⟨c,M,hd⟩:=h.hd;obtain⟨m,a⟩:=h.row;obtain⟨K,u,y,L⟩:=h.map;have j:=x r (kg.1 y).1 h.fs.2.2.1;refine⟨q,r,l,B,⟨c,M,(g hd h.fs.1).1⟩,⟨m,(g a h.fs.2.1).1⟩,⟨K,u,j.2.trans y,L⟩,h.keys,λk s d=>?_,h.inj,λk d=>?_,⟨(g hd h.fs.1).2,(g a h.fs.2.1).2,j.1,h.fs.2.2.2⟩,h.zero,h.n1,h.n2,h.sy,h.pk⟩
 ·obtain⟨E,A,D,i,w,C⟩:=h.wd k s d;exact⟨E,A,D,i,(g w (h.out k (h.mg d)).1).1,C⟩
 ·obtain⟨s,J,E,A,D,i,w,C⟩:=h.entry d;exact⟨(g w (h.out k d).1).2,(h.out k d).2⟩
theorem dO.bP {σ':Hp}(h:dO U F p sp)(e:aF U σ'):dO σ' F p sp:=dN.bP dO.loc h e
variable {l:List (Int×Sl)}{B:Nat->Nat}
theorem fJ.rS (h:fJ U F p q r l B sp){K:Sl->Prop}(hK:∀cap,sp.st.length<=cap->K ⟨some ⟨q,0,none⟩,sp.st.length,cap⟩):jH (Addr.add ⟨p,0,none⟩ 0) U K:=by
 obtain⟨c,a,hd⟩:=h.hd;exact hd.rS rfl (hK c a)
theorem fJ.rM (h:fJ U F p q r l B sp){K:Option Nat->Prop}(hK:K (some r)):lJ (Addr.add ⟨p,0,none⟩ 1) U K:=by
 obtain⟨c,a,hd⟩:=h.hd;exact hd.rM rfl hK
theorem fJ.yG (h:fJ U F p q r l B sp){i x:Nat}(hx:sp.st[i]?=some x){K:Bool->Bool->Prop}(hK:K (gD x).1 (gD x).2):lR (Addr.add ⟨q,2*i,none⟩ 0) U λa=>lR (Addr.add ⟨q,2*i,none⟩ 1) U λb=>K a b:=by
 obtain⟨g,d⟩:=h.row;have hi:=(cY.1 hx).1;have j:=Lm hx;refine d.rB (x:=(gD x).1) ?_ (d.rB (x:=(gD x).2) ?_ hK)
 ·rw[kA,zd (by rw[V8];omega)];exact j.1
 ·rw[zd (by rw[V8];omega)];exact j.2
theorem DQ (h:dO U F p sp){R:aO}(hR:R true U):XT.c (aW p) U R:=by
 refine XT.o ?_;unfold XT.v;obtain⟨q,r,l,B,h⟩:=h;have:=h.n1;refine bX.intro (cE rfl (bL (h.rS λcap _=>?_)));rw[zI aC];exact hR
theorem Lr (h:dO U F p sp){R:aN}(hR:R (sp.st.length:Int) U):X5.c (aW p) U R:=by
 refine X5.o ?_;unfold X5.v;have a:=h;obtain⟨q,r,l,B,h⟩:=h;exact DQ a (cD rfl (bL (h.rS λcap _=>hR)))
theorem fJ.xk (h:fJ U F p q r l B sp):l.length=sp.st.count 2:=by
 have s:=h.map.nodup;have m:(l.map (·.1)).Perm (((List.range sp.st.length).filter λk=>sp.st[k]?==some 2).map λk=>((k:Nat):Int)):=by
  rw[Bm s]
  ·intro x;rw[←Wes,h.keys];simp only[zE,zJ,ze,zU];constructor
   ·rintro⟨k,rfl,hk⟩;exact⟨k,⟨(cY.1 hk).1,hk⟩,rfl⟩
   ·rintro⟨k,⟨_,hk⟩,rfl⟩;exact⟨k,rfl,hk⟩
  ·have i:((List.range sp.st.length).filter λk=>sp.st[k]?==some 2).Pairwise (· ≠ ·):=List.Pairwise.sublist u6 List.nodup_range;exact List.Pairwise.map _ (λa b (g:a≠b) d=>g (by exact_mod_cast d)) i
 have j:=m.length_eq;simp only[zk]at j;rw[j,←Bb];have key:∀st:List Nat,(List.range st.length).countP (λk=>st[k]?==some 2)=st.count 2:=by
  intro st
  induction st with
  | nil=>rfl
  | cons x st ih=>
   rw[zS,List.range_succ_eq_map,xy,List.countP_map,List.count_cons,←ih]
   congr 1
 exact key sp.st
end Go.Ar
namespace Go.Ar
open Go Go.Vc Go.Proofs
open Go.Bu (ZH)
variable {U:Hp}{F:Rg}{p q r:Nat}{sp:Sp}{l:List (Int×Sl)}{B:Nat->Nat}
theorem Ο (l:List Nat)(n:Nat):hO (l.take n)=(hO l).take (2*n):=by
 induction l generalizing n with
 | nil=>simp[hO]
 | cons y l ih=>
  have e:∀z m,hO (z::m)=.bool (gD z).1 :: .bool (gD z).2::hO m:=λz m=>by simp[hO]
  cases n with
  | zero=>simp[hO]
  | succ n=>
   rw[wm,e,e,ih,show 2*(n+1)=2*n+1+1 by omega];simp
theorem Rs (l:List Nat)(n:Nat):hO (l.drop n)=(hO l).drop (2*n):=by
 induction l generalizing n with
 | nil=>simp[hO]
 | cons y l ih=>
  have e:∀z m,hO (z::m)=.bool (gD z).1 :: .bool (gD z).2::hO m:=λz m=>by simp[hO]
  cases n with
  | zero=>simp[hO]
  | succ n=>
   rw[vD,e,ih,show 2*(n+1)=2*n+1+1 by omega];simp
theorem Sw (n v:Nat):hO (List.replicate n v)=(List.replicate n [Value.bool (gD v).1,.bool (gD v).2]).flatten:=by
 induction n with
 | zero=>rfl
 | succ n ih=>rw[tx,tx,vE,←ih];simp[hO]
theorem _root_.Go.Vc.cV.yG {s:Sl}{l:List Nat}(h:cV s 2 (hO l) U F){i x:Nat}(hx:l[i]?=some x){K:Bool->Bool->Prop}(hK:K (gD x).1 (gD x).2) :
 Ix s.a s.len (i:Int) 2 λa=>lR (a.add 0) U λu=>lR (a.add 1) U λw=>K u w:=by
 have hi:=(cY.1 hx).1;have j:=Lm hx;obtain⟨b,o,m,p⟩:=h.cell j.1;obtain⟨y,o1,d,g⟩:=h.cell j.2;rw[m]at d;cases d;have r:=h.1;rw[V8]at r;rw[m];refine ix O O ?_;rw[add_lit];refine nF ?_ (nF ?_ hK)<;>rw[add_lit]
 ·rw[show o+(i:Int).toNat*2+0=o+2*i by omega];exact p
 ·rw[show o+(i:Int).toNat*2+1=o+(2*i+1) by omega];exact g
theorem _root_.Go.Vc.cV.wI {s:Sl}{l:List Nat}(h:cV s 2 (hO l) U F):s.len=l.length:=by
 have:=h.1;rw[V8]at this;omega
theorem Tg {s:Sl}{xs:List Nat}(h:cV s 2 (hO xs) U F)(hl:xs.length<=1000000)(h2:∀x∈xs,x<=2){v:Nat}(hv:v<=2){R:aN}
 (hR:∀(t:Int) σ',aF U σ'->decide (t≥0)=xs.contains v->R t σ'):Wu.c s (gD v).1 (gD v).2 U R:=by
 refine Wu.o ?_;unfold Wu.v;have u:=h.wI;refine nw (cs:=[.bool (gD v).1,.bool (gD v).2]) λw E e A=>?_;have h:=aH.bP h e;refine Qz (a:=bO) (λ(t:Int) z=>∃i:Nat,t=(i:Int)/\i<=xs.length/\z=w/\∀j,j<i->xs[j]?≠some v) (λt _=>xs.length-t.toNat) ⟨0,rfl,O,rfl,λj g=>O⟩ ?_;rintro t z ⟨i,rfl,hi,rfl,b⟩;refine cP (λC=>?_) λB=>?_
 ·have d:i<xs.length:=by omega
  have y:xs[i]?=some xs[i]:=cW d;refine A.rB rfl (A.rB rfl (h.yG y ?_));rw[CA hv (h2 _ (kD d))];refine cO (λr=>?_) λr=>?_
  ·have:v=xs[i]:=by simpa using r
   refine hR _ _ e ?_;have D:xs.contains v=true:=by rw[this];simp
   rw[D,zI O]
  ·have p:¬v=xs[i]:=by simpa using r
   refine cT (m:=i+1) O O ⟨⟨i+1,rfl,O,rfl,λj g=>?_⟩,O⟩;by_cases e:j=i
   ·subst e;rw[y];intro e2;cases e2;exact p rfl
   ·exact b j O
 ·refine hR _ _ e ?_;have:xs.contains v=false:=by
   simp only[tD,decide_eq_false_iff_not];intro hm;obtain⟨j,g⟩:=zP hm;have:=(cY.1 g).1;exact b j O g
  rw[this];rfl
theorem Wdv {s:Sl}{xs:List Nat}(h:cV s 2 (hO xs) U F)(hl:xs.length<=1000000)(h2:∀x∈xs,x<=2){v:Nat}(hv:v<=2){R:aO}
 (hR:∀σ',aF U σ'->R (xs.contains v) σ'):Wq.c s (gD v).1 (gD v).2 U R:=by
 refine Wq.o ?_;unfold Wq.v;refine nw (cs:=[.bool (gD v).1,.bool (gD v).2]) λw g e a=>a.rB rfl (a.rB rfl ?_);refine Tg (aH.bP h e) hl h2 hv λt σ' d b=>?_;rw[b];exact hR σ' (Ext.trans e d)
theorem Rl (g:Gl U){x:Nat}(hx:x<=2){R:aO}(hR:∀σ',aF U σ'->R (x != 0) σ'):YS.c (gD x).1 (gD x).2 U R:=by
 refine YS.o ?_;unfold YS.v;refine nw (cs:=[.bool (gD x).1,.bool (gD x).2]) λv d e a=>a.rB rfl (a.rB rfl ?_);have g:=g.bP e;refine nF (by rw[←g.u0];rfl) (nF (by rw[←g.u1];rfl) ?_);have b:(((gD x).1==false)&&(((gD x).2==false)&&true))=(x==0):=CA hx (y:=0) O;rw[b];exact hR v e
theorem OV {s:Sl}{xs:List Nat}(h:cV s 2 (hO xs) U F)(g:Gl U)(hl:xs.length<=1000000)(h2:∀x∈xs,x<=2){R:aO}
 (hR:∀σ',aF U σ'->R (xs.any (· != 0)) σ'):Wk.c s ⟨342,#[],#[]⟩ U R:=by
 refine Wk.o ?_;unfold Wk.v;refine Wt.o ?_;unfold Wt.v;have z:=h.wI;refine Qz (a:=bO) (λ(t:Int) E=>∃i:Nat,t=(i:Int)/\i<=xs.length/\aF U E/\∀(j x:Nat),j<i->xs[j]?=some x->x=0) (λt _=>xs.length-t.toNat) ⟨0,rfl,O,Ext.refl _ _,λj x r=>O⟩ ?_;rintro t w ⟨i,rfl,hi,e,p⟩;refine cP (λD=>?_) λC=>?_
 ·have b:i<xs.length:=by omega
  have B:xs[i]?=some xs[i]:=cW b;refine(aH.bP h e).yG B ?_;refine Gp (all := #[.agg #[.bool (gD xs[i]).1,.bool (gD xs[i]).2]]) (by kernel_rfl) aA ?_;refine Rl (g.bP e) (h2 _ (kD b)) λG A=>?_;refine cO (λy=>?_) λy=>?_
  ·have:xs.any (· != 0)=true:=zy.2 ⟨_,kD b,y⟩;have:=hR G (Ext.trans e A);rw[‹xs.any (· != 0)=true›]at this;show R (decide ((i:Int)≥0)) _;rw[zI O];exact this
  ·have u:xs[i]=0:=by simpa using y
   refine cT (m:=i+1) O O ⟨⟨i+1,rfl,O,Ext.trans e A,λj x r d=>?_⟩,O⟩;by_cases e:j=i
   ·subst e;rw[B]at d;cases d;exact u
   ·exact p j x O d
 ·have:xs.any (· != 0)=false:=by
   rw[my];intro x hm;obtain⟨j,r⟩:=zP hm;have:=(cY.1 r).1;simpa using p j x O r
  have:=hR w e;rw[‹xs.any (· != 0)=false›]at this;exact this
theorem fJ.part (h:fJ U F p q r l B sp){x y c:Nat}(hl:x+y<=sp.st.length):cV ⟨some ⟨q,2*x,none⟩,y,c⟩ 2 (hO ((sp.st.drop x).take y)) U F:=by
 obtain⟨d,b⟩:=h.row;have a:(hO ((sp.st.drop x).take y)).length=y*2:=by rw[V8,zY,kB];omega
 refine⟨a,.inr ⟨q,2*x,_,h.fs.2.1,rfl,b.q,λj g=>?_⟩⟩;rw[a]at g;rw[zd (by rw[V8];omega),Ο,Rs,zm,zC O,lB]
theorem Sg (h:dO U F p sp)(a m:Int){R:Sl->Int->Hp->Prop}(h0:ZH sp.st.length a m=false->R ⟨none,0,0⟩ 1 U)
 (h1:∀(x y:Nat) s,a=x->m=y->1<=y->x+y<=sp.st.length->cV s 2 (hO ((sp.st.drop x).take y)) U F->R s 0 U):Zw.c (aW p) a m U R:=by
 refine Zw.o ?_;unfold Zw.v;have w:=h;obtain⟨q,r,l,B,h⟩:=h;have n2:=h.n2;have b:¬(0<=a/\1<=m/\m<=sp.st.length-a)->R ⟨none,0,0⟩ 1 U:=λj=>h0 (by simp only[ZH,←vW];exact zL j);refine DQ w (cD rfl (bX.intro (cP (λi=>bX.intro (cE rfl (bX.intro (cE rfl (cE rfl (b O)))))) λi=>?_)));refine bX.intro (cP (λA=>bX.intro (cE rfl (cE rfl (b O)))) λA=>bL (h.rS λcap d=>?_));simp only;refine bX.intro (cP (λg=>cE rfl (b O)) λg=>?_);refine bL (h.rS λcap d=>ar aC aC ?_);simp only;refine cP (λz=>b O) λz=>?_;obtain⟨x,rfl⟩:=zc (show 0<=a by omega);obtain⟨y,rfl⟩:=zc (show 0<=m by omega);refine bL (h.rS λcap d=>cT (m:=x+y) O O ?_);refine jy O aC (zD _) ?_;simp only;rw[zB O];refine h1 x y _ rfl rfl O O ?_;have:=h.part (x:=x) (y:=y) (c:=cap-x) O;have e:(Option.map (λ(u:Addr)=>u.add (x*2)) (some (⟨q,0,none⟩:Addr)))=some ⟨q,2*x,none⟩:=by
  simp only[zg,add_lit];congr 2;omega
 rw[e,BQ];exact this
def Sp.j7 (s:Sp)(k v:Nat):Sp:={s with st:=s.st.set k v,wd:=λw=>if k*32<=w/\w<(k+1)*32 then 0 else s.wd w}
theorem LJ {st:List Nat}(h:∀x∈st,x<=2){k v:Nat}(hv:v<=2):∀x∈st.set k v,x<=2:=by
 intro x hx;rcases Ag hx with h1|h1
 ·exact h x h1
 ·omega
theorem fJ.j7 (h:fJ U F p q r l B sp){k v:Nat}(hk:k<sp.st.length)(hv:v<=1){σ':Hp}(e:Ext (λb=>b=q\/b=r) U σ'){rest:List Value}
 (hb:bY σ' q (hO (sp.st.set k v)++rest)) (hm:dK σ' r .i64 .s (cN l (k:Int))):fJ σ' F p q r (cN l (k:Int)) B (sp.j7 k v):=by
 have d:∀j:Nat,(sp.st.set k v)[j]?=some 2↔j≠k/\sp.st[j]?=some 2:=λj=>by
  rw[nG];by_cases hjk:k=j
  ·subst hjk;rw[zC rfl,zC hk];constructor
   ·intro h;have:v=2:=by simpa using h
    omega
   ·intro h;exact absurd rfl h.1
  ·rw[zB hjk];exact⟨λh=>⟨λe=>hjk e.symm,h⟩,λh=>h.2⟩
 obtain⟨c,J,hd⟩:=h.hd;have E:¬(p=q\/p=r):=by have:=h.fs;omega
 refine⟨⟨c,by simpa[Sp.j7]using J,by simpa[Sp.j7]using e.bV hd E⟩,⟨rest,hb⟩,hm,λx=>?_,λj s g=>?_,λj y G m=>?_,λj a=>?_,h.fs,λw u=>?_,by simpa[Sp.j7]using h.n1,by simpa[Sp.j7]using h.n2,LJ h.sy O,h.pk⟩
 ·rw[C5];by_cases hx:x=(k:Int)
  ·rw[zC hx];constructor
   ·intro h;cases h
   ·rintro⟨j,rfl,a⟩;have:=(d j).1 a;omega
  ·rw[zB hx,h.keys];constructor
   ·rintro⟨j,rfl,a⟩;exact⟨j,rfl,(d j).2 ⟨O,a⟩⟩
   ·rintro⟨j,rfl,a⟩;exact⟨j,rfl,((d j).1 a).2⟩
 ·rw[C5]at g;by_cases hx:(j:Int)=(k:Int)
  ·rw[zC hx]at g;cases g
  ·rw[zB hx]at g;obtain⟨L,C,K,z,A,D,H⟩:=h.wd j s g;have M:=h.out j (h.mg g);refine⟨L,C,K,z,e.bV A O,D,λi hi=>?_⟩;rw[H i hi];simp only[Sp.j7];rw[zB O]
 ·exact h.inj j y ((d j).1 G).2 ((d y).1 m).2
 ·exact h.out j ((d j).1 a).2
 ·simp only[Sp.j7]at u ⊢;by_cases hin:k*32<=w/\w<(k+1)*32
  ·rw[zC hin]
  ·rw[zB hin];refine h.zero w λm=>u ((d _).2 ⟨O,m⟩)
theorem Sp.pF (s:Sp)(a v:Nat):s.set a 0 v=s:=by
 have b:gF s.st a (a+0) v=s.st:=by
  apply zt;intro i;rw[HV];cases s.st[i]? with
  | none=>rfl
  | some x=>simp only[zg];rw[zB O]
 have d:(λw=>if a*32<=w/\w<(a+0)*32 then 0 else s.wd w)=s.wd:=by
  funext w;rw[zB O]
 simp only[Sp.set,b,d]
theorem Sp.pX (s:Sp)(a m v:Nat)(h:a+m<s.st.length):(s.set a m v).j7 (a+m) v=s.set a (m+1) v:=by
 have b:(gF s.st a (a+m) v).set (a+m) v=gF s.st a (a+(m+1)) v:=by
  apply zt;intro i;rw[nG,HV,HV,Vo];by_cases hi:a+m=i
  ·subst hi;rw[zC rfl,zC h,cW h,zg,zC O]
  ·rw[zB hi];cases s.st[i]? with
   | none=>rfl
   | some x=>
    simp only[zg];by_cases hin:a<=i/\i<a+m
    ·rw[zC hin,zC O]
    ·rw[zB hin,zB O]
 have d:(λw=>if(a+m)*32<=w/\w<(a+m+1)*32 then 0 else(if a*32<=w/\w<(a+m)*32 then 0 else s.wd w))=λw=>if a*32<=w/\w<(a+(m+1))*32 then 0 else s.wd w:=by
  funext w
  by_cases b:(a+m)*32<=w/\w<(a+m+1)*32
  ·rw[zC b,zC O]
  ·rw[zB b];by_cases d:a*32<=w/\w<(a+m)*32
   ·rw[zC d,zC O]
   ·rw[zB d,zB O]
 simp only[Sp.set,Sp.j7,b,d]
theorem PD (h:dO U F p sp){x y v:Nat}(hl:x+y<=sp.st.length)(hv:v<=1){R:aP}(hR:∀σ',Ext F U σ'->dO σ' F p (sp.set x y v)->R σ') :
 Zx.c (aW p) x y (gD v).1 (gD v).2 U R:=by
 refine Zx.o ?_;unfold Zx.v;have Q:sp.st.length<=1024:=by obtain⟨q,r,l,B,h⟩:=h;exact h.n2
 have s:dO U (Cut F U) p sp:=dN.cut dO.loc h;refine nw (cs:=[.bool (gD v).1,.bool (gD v).2]) λu hz e g=>?_;have X:=s.bP e;refine Qz (a:=bO) (λ(t:Int) w=>∃i:Nat,t=((x+i:Nat):Int)/\i<=y/\Ext (Cut F U) u w/\bY w U.size [.bool (gD v).1,.bool (gD v).2]/\dO w (Cut F U) p (sp.set x i v)) (λt _=>x+y-t.toNat)
  ⟨0,rfl,O,Ext.refl _ _,g,by rw[Sp.pF];exact X⟩ ?_
 rintro t w ⟨i,rfl,hi,P,j,q,r,l,B,d⟩;refine cT (m:=x+y) O O (cP (λW=>?_) λV=>?_)
 ·have K:(sp.set x i v).st.length=sp.st.length:=Vo _ _ _ _;refine bL (d.rS λcap G=>j.rB rfl (j.rB rfl (ix O aC ?_)));rw[add_lit,show 0+((x+i:Nat):Int).toNat*2=2*(x+i) by omega];obtain⟨J,z⟩:=d.row;have H:x+i<(sp.set x i v).st.length:=by omega
  refine z.s1 (by rw[zK,V8];omega) λw1 o1 Z=>Z.s1 (by rw[oW,zK,V8];omega) λw2 o2 L=>?_;rw[kA,Jq H]at L;have e2:Ext (· = q) w w2:=o1.ext.trans o2.ext;obtain⟨c,S,hd⟩:=d.hd;have A:=e2.bV hd d.fs.2.2.2.1;refine bL (A.rM rfl ⟨l,e2.fV d.map (λe=>d.fs.2.2.2.2.2 e.symm),λw3 C _ D=>?_⟩);have o3:=C r rfl;have M:Ext (λb=>b=q\/b=r) w w3:=(e2.sub λb g=>.inl g).trans (o3.ext.sub λb g=>.inr g);have E:=d.j7 H hv M (WF o3 L d.fs.2.2.2.2.2) D;rw[Sp.pX _ _ _ _ O]at E;have N:Ext (Cut F U) w w3:=M.sub λb g=>by
   rcases g with rfl|rfl
   ·exact d.fs.2.1
   ·exact d.fs.2.2.1
  refine cT (m:=x+(i+1)) O O ⟨⟨i+1,rfl,O,P.trans N,N.bV j λY=>by have:=Y.2;omega,_,_,_,_,E⟩,O⟩
 ·have:i=y:=by omega
  subst this;refine hR w (Ext.cut (e.to.trans P)) (dN.mono dO.loc ⟨q,r,l,B,d⟩ λb _ g=>g.1)
theorem Pt (h:dO U F p sp)(g:Gl U)(hF:jd F)(a m:Int){R:aN}(hR:∀σ',Ext F U σ'->dO σ' F p (gp sp a m)->R (fF sp a m) σ') :
 ZA.c (aW p) a m U R:=by
 refine ZA.o ?_;unfold ZA.v;have j:(∀x∈sp.st,x<=2)/\sp.st.length<=1024:=by obtain⟨q,r,l,B,h⟩:=h;exact⟨h.sy,h.n2⟩
 refine Sg h a m (λi=>?_) λx y s E D L H w=>?_
 ·have e1:fF sp a m=1:=by unfold fF;rw[i];rfl
  have e2:gp sp a m=sp:=by unfold gp;rw[e1];rfl
  have:=hR U (Ext.refl _ _);rw[e1,e2]at this;exact cE rfl (this h)
 ·subst E;subst D;have i:ZH sp.st.length (x:Int) (y:Int)=true:=by simp only[ZH,zF,zV];omega
  refine cD rfl (OV w g (by rw[zY,kB];omega) (λz K=>j.1 z (tW (vV K))) λA e1=>?_);have d:fF sp x y=if((sp.st.drop x).take y).any (· != 0)then 5 else 0:=by unfold fF;rw[i];rfl
  refine cO (λb=>?_) λb=>?_
  ·rw[b]at d;have e2:gp sp x y=sp:=by unfold gp;rw[d];rfl
   have:=hR A (aF.to e1);rw[d,e2]at this;exact this (h.bP e1)
  ·rw[b]at d;have e2:gp sp x y=sp.set x y 1:=by unfold gp;rw[d];rfl
   have u:=g.bP e1;refine nF (by rw[←u.c0];rfl) (nF (by rw[←u.c1];rfl) ?_);refine PD (v:=1) (h.bP e1) H O λJ G C=>?_;have:=hR J (Ext.trans (aF.to e1) G);rw[d,e2]at this;exact this C
theorem Im (h:dO U F p sp)(g:Gl U)(x:Int)(hx:x<=9223372036854775807){R:aN}(hR:∀σ',aF U σ'->R (eM sp x) σ') :
 XJ.c (aW p) x 1 U R:=by
 refine XJ.o ?_;unfold XJ.v;have E:=h;obtain⟨q,r,l,B,h⟩:=h;have n2:=h.n2;have d:(x<0\/x%8≠0)->R 7 U:=λj=>by
  have:=hR U (Ext.refl _ _);unfold eM at this;rw[zC j]at this;exact this
 refine DQ E (cD rfl (cD rfl (bX.intro (cP (λA=>cE rfl (d (.inl A))) λA=>nz aB ?_))));obtain⟨y,rfl⟩:=zc (show 0<=x by omega);refine cO (λi=>?_) λi=>?_
 ·refine d (.inr ?_);rw[Q1 O]at i;simpa using i
 have H:y%8=0:=by
  rw[Q1 O]at i;have:((y:Int)%8)=0:=by simpa using i
  omega
 have ok:¬((y:Int)<0\/(y:Int)%8≠0):=by omega
 refine nz aB (cT (m:=y/256) (by rw[Ye O];simp) O (nz aB (cT (m:=y/8) (by rw[Ye O];simp) O ?_)));refine cT (m:=y/8+1) O O (cT (m:=y/8) O O (nz aB (cT (m:=y/256) (by rw[Ye O];simp;omega) O ?_)));have fin:∀(b:Bool) σ',aF U σ'->(b=true↔sp.st.getD (y/256) 0=0)->If b (R 7 σ') (R 0 σ'):=λb σ' e j=>by
  have:=hR σ' e;unfold eM at this;rw[zB ok]at this;refine cO (λh=>?_) λh=>?_
  ·rw[zC (by simpa using j.1 h)]at this;exact this
  ·rw[zB (λD=>by rw[j.2 (by simpa using D)]at h;cases h)]at this;exact this
 obtain⟨c,J,hd⟩:=h.hd;refine Jn.intro ⟨λm=>bY m p [.slice (some ⟨q,0,none⟩) sp.st.length c,.map (some r),.int .i64 (sp.pk:Int)]/\Gl m,⟨hd,g⟩,?_⟩;refine bL ⟨⟨some ⟨q,0,none⟩,sp.st.length,c⟩,λm a=>by rw[add_lit,a.1.cell];rfl,?_⟩;refine cP (λs=>?_) λs=>?_
 ·simp only at s;refine fin _ U (Ext.refl _ _) ⟨λ_=>?_,λ_=>rfl⟩;rw[zQ,zX O];rfl
 simp only at s;refine bL ⟨⟨some ⟨q,0,none⟩,sp.st.length,c⟩,λm a=>by rw[add_lit,a.1.cell];rfl,?_⟩;refine cT (m:=y/256+1) O O (jy O aC (zD _) ?_);simp only;rw[zB O];refine⟨false,λm a=>a.2.u0,⟨false,λm a=>a.2.u1,?_⟩⟩;have e:(Option.map (λ(u:Addr)=>u.add (y/256*2)) (some (⟨q,0,none⟩:Addr)))=some ⟨q,2*(y/256),none⟩:=by
  simp only[zg,add_lit];congr 2;omega
 rw[e,BQ];have C:=h.part (x:=y/256) (y:=1) (c:=c-y/256) O;refine Wdv (v:=0) C (by rw[zY,kB];omega) (λz G=>h.sy z (tW (vV G))) O λσ' w=>?_;refine⟨⟨w.bV hd id,g.bP w⟩,fin _ σ' w ?_⟩;have hi:y/256<sp.st.length:=by omega
 rw[zQ,cW hi,xK hi,wm,wk];simp[eq_comm]
theorem R7 (h:dO U F p sp){w:Nat}(hw:w<=2305843009213693952){R:aN}(hR:R (sp.wd w) U):Zy.c (aW p) (w:Int) U R:=by
 refine Zy.o ?_;unfold Zy.v;obtain⟨q,r,l,B,h⟩:=h;refine bL (h.rM (nz aB (cT (m:=w/32) (by rw[Ye O];simp) O ⟨l,h.map,?_⟩)));cases hg:bU l ((w/32:Nat):Int)with
 | none=>
  refine cD rfl ?_;have:sp.st[w/32]?≠some 2:=λi=>by
   have:=(h.keys _).2 ⟨_,rfl,i⟩;rw[hg]at this;cases this
  rw[h.zero w this]at hR;exact hR
 | some s=>
  obtain⟨b,x,u,j,g,y,a⟩:=h.wd _ s hg;refine cE rfl (nz aB ?_);simp only[qG];have d:((w:Int).tmod 32)=((w%32:Nat):Int):=by rw[Q1 O];simp
  rw[b,d];refine ix O O ?_;rw[add_lit];refine g.uW ?_ hR;rw[show 0+((w%32:Nat):Int).toNat*1=w%32 by omega,a _ O];simp only;rw[show 32*(w/32)+w%32=w by omega]
theorem Pu (h:dO U F p sp)(g:Gl U)(x:Int)(hx:x<=9223372036854775807){R:Int->Int->Hp->Prop}(hR:∀σ',aF U σ'->R (if eM sp x=0 then sp.wd (x.toNat/8)else 0) (eM sp x) σ') :
 Zj.c (aW p) x U R:=by
 refine Zj.o ?_;unfold Zj.v;refine Im h g x hx λσ' e=>?_;have:=hR σ' e;refine cO (λb=>?_) λb=>?_
 ·have i:¬eM sp x=0:=by simpa using b
  rw[zB i]at this;exact this
 ·have a:eM sp x=0:=by simpa using b
  rw[zC a,a]at this;have d:0<=x:=by
   rcases(by omega:x<0\/0<=x)with hlt|hge
   ·unfold eM at a;rw[zC (.inl hlt)]at a;cases a
   ·exact hge
  obtain⟨y,rfl⟩:=zc d;exact nz aB (cT (m:=y/8) (by rw[Ye O];simp) O (R7 (h.bP e) O this))
theorem fJ.Ca (h:fJ U F p q r l B sp){k:Nat}(hk:k<sp.st.length)(hn:sp.st[k]?≠some 2){σ':Hp}{b:Nat}{s:Sl}{T:Rg}(e:Ext T U σ')(hT:∀i,i<U.size->T i->i=q\/i=r)(hz:U.size<=b){rest:List Value}
 (hb:bY σ' q (hO (sp.st.set k 2)++rest)) (hm:dK σ' r .i64 .s (dA l (k:Int) s)) (ha:s.a=some ⟨b,0,none⟩) (hl:s.len=32) (hc:s.cap=32) (hw:bY σ' b (List.replicate 32 (.int .i64 0))) :
 fJ σ' (Grow F U) p q r (dA l (k:Int) s) (λj=>if j=k then b else B j) {sp with st:=sp.st.set k 2}:=by
 have u:∀j:Nat,(sp.st.set k 2)[j]?=some 2↔j=k\/sp.st[j]?=some 2:=λj=>by
  rw[nG];by_cases hjk:k=j
  ·subst hjk;rw[zC rfl,zC hk];simp
  ·rw[zB hjk];exact⟨λh=>.inr h,λh=>h.resolve_left λe=>hjk e.symm⟩
 obtain⟨c,E,hd⟩:=h.hd;obtain⟨_,C⟩:=h.row;have W:=hd.lt;have V:=C.lt;have S:=h.map.lt;have R:=e.1;have g:=h.fs;have z:∀{j:Nat},sp.st[j]?=some 2->B j<U.size:=λ{j} d=>by
  obtain⟨t,_,_,_,_,cs,G,_⟩:=h.entry d;exact G.lt
 have cZ:∀{i:Nat} {cs:List Value},bY U i cs->i≠q->i≠r->bY σ' i cs:=λ{i cs} hi D y=>e.bV hi λL=>by
  rcases hT i hi.lt L with h|h
  ·exact D h
  ·exact y h
 refine⟨⟨c,by simpa using E,by simpa using cZ hd g.2.2.2.1 g.2.2.2.2.1⟩,⟨rest,hb⟩,hm,λx=>?_,λj t d=>?_,λj A D y m=>?_,λj d=>?_,⟨.inl g.1,.inl g.2.1,.inl g.2.2.1,g.2.2.2⟩,λw H=>?_,by simpa using h.n1,by simpa using h.n2,LJ h.sy O,h.pk⟩
 ·rw[UW];by_cases hx:x=(k:Int)
  ·rw[zC hx];subst hx;simp only[Option.isSome_some,true_iff];exact⟨k,rfl,(u k).2 (.inl rfl)⟩
  ·rw[zB hx,h.keys];constructor
   ·rintro⟨j,rfl,d⟩;exact⟨j,rfl,(u j).2 (.inr d)⟩
   ·rintro⟨j,rfl,d⟩;exact⟨j,rfl,((u j).1 d).resolve_left O⟩
 ·rw[UW]at d;by_cases hx:(j:Int)=(k:Int)
  ·have:j=k:=by omega
   subst this;rw[zC rfl]at d;cases d;rw[zC rfl];refine⟨ha,hl,O,_,hw,by simp,λi hi=>?_⟩;rw[mI,zC hi];simp only;rw[h.zero _ (by rw[show(32*j+i)/32=j by omega];exact hn)]
  ·rw[zB hx]at d;obtain⟨Q,M,P,cs,G,N,K⟩:=h.wd j t d;have J:=h.out j (h.mg d);rw[zB O];exact⟨Q,M,P,cs,cZ G J.2.2.1 J.2.2.2,N,K⟩
 ·by_cases e1:j=k
  ·by_cases e2:A=k
   ·omega
   ·rw[zC e1,zB e2]at m;have:=z (((u A).1 y).resolve_left e2);omega
  ·rw[zB e1]at m;by_cases e2:A=k
   ·rw[zC e2]at m;have:=z (((u j).1 D).resolve_left e1);omega
   ·rw[zB e2]at m;exact h.inj j A (((u j).1 D).resolve_left e1) (((u A).1 y).resolve_left e2) m
 ·by_cases e1:j=k
  ·rw[zC e1];exact⟨.inr hz,O,O,O⟩
  ·rw[zB e1];have:=h.out j (((u j).1 d).resolve_left e1);exact⟨.inl this.1,this.2⟩
 ·refine h.zero w λy=>H ((u _).2 (.inr y))
theorem fJ.DE (h:fJ U F p q r l B sp){σ':Hp}{n c:Nat}(hn:n<=1024)(ho:Kb U σ' p)(hc:sp.st.length<=c)(hb:bY σ' p [.slice (some ⟨q,0,none⟩) sp.st.length c,.map (some r),.int .i64 (n:Int)]):fJ σ' F p q r l B {sp with pk:=n}:=by
 have d:=h.fs;obtain⟨a,b⟩:=h.row;refine⟨⟨c,hc,hb⟩,⟨a,WF ho b O⟩,HX ho h.map O,h.keys,λj t g=>?_,h.inj,h.out,d,h.zero,h.n1,h.n2,h.sy,hn⟩;obtain⟨m,x,w,s,u,y,i⟩:=h.wd j t g;exact⟨m,x,w,s,WF ho u (h.out j (h.mg g)).2.1,y,i⟩
theorem fJ.word (h:fJ U F p q r l B sp){w:Nat}{v:Int}(hk:sp.st[w/32]?=some 2){σ':Hp}{cs:List Value}(h32:32<=cs.length)(ho:Kb U σ' (B (w/32)))(hcs:∀j,j<32->cs[j]?=some (.int .i64 (sp.wd (32*(w/32)+j))))
 (hb:bY σ' (B (w/32)) (cs.set (w%32) (.int .i64 v))):fJ σ' F p q r l B {sp with wd:=λu=>if u=w then v else sp.wd u}:=by
 have y:=h.out _ hk;obtain⟨c,G,hd⟩:=h.hd;obtain⟨a,b⟩:=h.row;refine⟨⟨c,G,WF ho hd O⟩,⟨a,WF ho b O⟩,HX ho h.map O,h.keys,λj t x=>?_,h.inj,h.out,h.fs,λu s=>?_,h.n1,h.n2,h.sy,h.pk⟩
 ·obtain⟨A,m,z,g,C,D,E⟩:=h.wd j t x;by_cases hjk:j=w/32
  ·subst hjk;refine⟨A,m,z,_,hb,by simpa using h32,λi hi=>?_⟩;rw[nG];by_cases hiw:w%32=i
   ·rw[zC hiw,zC O];simp only;rw[zC O]
   ·rw[zB hiw];simp only;rw[zB O];exact hcs i hi
  ·have d:B j≠B (w/32):=λe=>hjk (h.inj _ _ (h.mg x) hk e);refine⟨A,m,z,g,WF ho C d,D,λi hi=>?_⟩;rw[E i hi];simp only;rw[zB O]
 ·have:u≠w:=λe=>by subst e;exact s hk
  simp only;rw[zB this];exact h.zero u s
theorem TI (h:dO U F p sp)(g:Gc U){w:Nat}(hw:w/32<sp.st.length)(v:Int){R:aP}(hR:∀σ',Ext F U σ'->dO σ' (Grow F U) p (nZ sp w v)->R σ') :
 Zv.c (aW p) (w:Int) v U R:=by
 refine Zv.o ?_;unfold Zv.v;obtain⟨q,r,l,B,h⟩:=h;have Q:=h.n2;have x:sp.st[w/32]?=some sp.st[w/32]:=cW hw;have tm:((w:Int).tmod 32)=((w%32:Nat):Int):=by rw[Q1 O];simp
 have word:∀(u:Hp) (s':Sp) (l':List (Int×Sl)) (B':Nat->Nat),Ext F U u->fJ u (Grow F U) p q r l' B' s'->s'.st[w/32]?=some 2->({s' with wd:=λz=>if z=w then v else s'.wd z}:Sp)=nZ sp w v →
  bW (some ⟨p,0,none⟩) λP=>lJ (P.add 1) u λX=>Lk .i64 .s X ((w/32:Nat):Int) u λE=>Nz 32<|Ix (E.getD ⟨none,0,0⟩).a (E.getD ⟨none,0,0⟩).len ((w:Int).tmod 32) 1 λac=>dQ ac (.int .i64 v) u λv1=>R v1:=by
  intro u s' l' B' eu hu A he;refine bL (hu.rM ⟨l',hu.map,nz aB ?_⟩);obtain⟨s,hs,w1,w2,w3,cs,w4,w5,w6⟩:=hu.entry A;rw[hs,tm];simp only[qG];rw[w1];refine ix O O ?_;rw[add_lit,show 0+((w%32:Nat):Int).toNat*1=w%32 by omega];refine w4.s0 O λu2 o2 M=>?_;have h2:=hu.word (v:=v) A w5 o2 w6 M;rw[he]at h2;exact hR u2 (eu.dW o2.ext λb d=>by subst d;exact(hu.out _ A).1) ⟨_,_,_,_,h2⟩
 refine nz aB (cT (m:=w/32) (by rw[Ye O];simp) O (Jn.intro (bL (h.rS λcap H=>ix O aC ?_))));rw[add_lit,show 0+((w/32:Nat):Int).toNat*2=2*(w/32) by omega];refine h.yG x (nF (n:=true) g.d0 (nF (n:=true) g.d1 ?_));have e0:(((gD sp.st[w/32]).1==true)&&(((gD sp.st[w/32]).2==true)&&true))=(sp.st[w/32]==2):=CA (h.sy _ (kD hw)) (y:=2) O;rw[e0];refine cO (λhd=>?_) λhd=>?_
 ·have C:sp.st[w/32]≠2:=by simpa using hd
  refine bL (h.rS λcap H=>nF (n:=true) g.d0 (nF (n:=true) g.d1 (ix O aC ?_)));rw[add_lit,show 0+((w/32:Nat):Int).toNat*2=2*(w/32) by omega];obtain⟨D,K⟩:=h.row;refine K.s1 (by rw[zK,V8];omega) λu1 o1 b1=>b1.s1 (by rw[oW,zK,V8];omega) λu2 o2 M=>?_;rw[kA]at M;have V:bY u2 q (hO (sp.st.set (w/32) 2)++D):=by rw[←Jq hw];exact M
  have e2:Ext (· = q) U u2:=o1.ext.trans o2.ext;obtain⟨c,hc,J⟩:=h.hd;have G:=e2.bV J h.fs.2.2.2.1;refine⟨λm=>bY m p [.slice (some ⟨q,0,none⟩) sp.st.length c,.map (some r),.int .i64 (sp.pk:Int)],G,bL ⟨some r,λm hm=>by rw[add_lit,hm.cell];rfl,?_⟩⟩;refine mk (n:=32) O O λu3 hz3 N b3=>⟨Ext.bV N G id,?_⟩;have Y:bY u3 u2.size (List.replicate 32 (.int .i64 0)):=b3;have q3:=Ext.bV N V id;have Z:=e2.fV h.map (λe=>h.fs.2.2.2.2.2 e.symm);refine⟨r,l,rfl,Ext.fV N Z id,λu4 o4 S=>?_⟩;have sz2:u2.size=U.size:=by rw[o2.1,o1.1]
  have hrlt:=h.map.lt;have ad:=J.lt;have e4:Ext (λb=>b=q\/b=r) U u4:=((e2.sub λb d=>.inl d).trans (aF.to N)).trans (o4.ext.sub λb d=>.inr d);have L:=h.Ca hw (by rw[x];simpa using C) (s:=⟨some ⟨u2.size,0,none⟩,32,32⟩) (b:=u2.size) e4 (λi _ hi=>hi) O (WF o4 q3 h.fs.2.2.2.2.2) S rfl rfl rfl (WF o4 Y O);obtain⟨c4,W,j⟩:=L.hd;refine bL (j.rI rfl (bL (j.rM rfl ⟨_,L.map,bL ?_⟩)));rw[L.xk];have hcl:(sp.st.set (w/32) 2).count 2<=1024:=ky List.count_le_length (by simpa using Q);have hpk:=h.pk;have hv:(if((List.count 2 (sp.st.set (w/32) 2):Nat):Int)>(sp.pk:Int)then((List.count 2 (sp.st.set (w/32) 2):Nat):Int)else(sp.pk:Int))=((max sp.pk ((sp.st.set (w/32) 2).count 2):Nat):Int):=by
   by_cases hgt:((List.count 2 (sp.st.set (w/32) 2):Nat):Int)>(sp.pk:Int)
   ·rw[zC hgt];omega
   ·rw[zB hgt];omega
  simp only;rw[hv];refine j.s1 aA λu5 o5 b5=>?_;have h5:=L.DE O o5 W b5;have e5:Ext F U u5:=(e4.sub λb d=>by
   rcases d with rfl|rfl
   ·exact h.fs.2.1
   ·exact h.fs.2.2.1).trans (o5.ext.sub λb d=>by subst d;exact h.fs.1)
  refine word u5 _ _ _ e5 h5 (by simp only;rw[nG,zC rfl,zC hw]) ?_;unfold nZ;rw[zB (by rw[zQ,x];exact C)]
 ·have aa:sp.st[w/32]=2:=by simpa using hd
  rw[aa]at x;have ab:fJ U (Grow F U) p q r l B sp:={h with out:=λk A=>⟨.inl (h.out k A).1,(h.out k A).2⟩,fs:=⟨.inl h.fs.1,.inl h.fs.2.1,.inl h.fs.2.2.1,h.fs.2.2.2⟩};refine word U sp l B (Ext.refl _ _) ab x ?_;unfold nZ;rw[zC (by rw[zQ,x];rfl)];have:sp.st.set (w/32) 2=sp.st:=by
   apply zt;intro i;rw[nG];by_cases hi:w/32=i
   ·subst hi;rw[zC rfl,zC hw,x]
   ·rw[zB hi]
  rw[this]
theorem N9 (h:dO U F p sp)(g:Gl U)(gd:Gc U)(x:Int)(hx:x<=9223372036854775807)(v:Int){R:aN}(hR:∀σ',Ext F U σ'->dO σ' (Grow F U) p (Zm sp x v)->R (eM sp x) σ') :
 YJ.c (aW p) x v U R:=by
 refine YJ.o ?_;unfold YJ.v;have j:dO U (Cut F U) p sp:=dN.cut dO.loc h;refine Im h g x hx λB e=>?_;have w:=j.bP e;have C:=g.bP e;refine cO (λs=>?_) λs=>?_
 ·have u:¬eM sp x=0:=by simpa using s
  refine hR B (aF.to e) ?_;unfold Zm;rw[zB u];exact dN.mono dO.loc w λb _ a=>.inl a.1
 ·have d:eM sp x=0:=by simpa using s
  have i:0<=x/\sp.st.getD (x.toNat/256) 0≠0:=by
   unfold eM at d;by_cases a:x<0\/x%8≠0
   ·rw[zC a]at d;cases d
   ·rw[zB a]at d;by_cases hz:sp.st.getD (x.toNat/256) 0=0
    ·rw[zC hz]at d;cases d
    ·exact⟨O,hz⟩
  obtain⟨y,rfl⟩:=zc i.1;have r:y/8/32<sp.st.length:=by
   rcases kv (y/256) sp.st.length with h|h
   ·omega
   ·exact absurd (by rw[zQ,zX (by simpa using h)];rfl) i.2
  refine nz aB (cT (m:=y/8) (by rw[Ye O];simp) O (TI w (gd.bP e) r v λA e2 z=>?_));have:=hR A (Ext.cut ((aF.to e).trans e2)) ?_
  ·rw[d]at this;exact this
  ·unfold Zm;rw[zC d];exact dN.mono dO.loc z λb _ a=>by
    rcases a with a|a
    ·exact .inl a.1
    ·exact .inr (ky e.1 a)
def V6 (n:Nat):Sp:=⟨List.replicate n 0,λ_=>0,0⟩
theorem RM {U:Hp}{F:Rg}{p q r n c:Nat}(h1:1<=n)(h2:n<=1024)(hc:n<=c)(hd:bY U p [.slice (some ⟨q,0,none⟩) n c,.map (some r),.int .i64 0])(hq:bY U q (hO (List.replicate n 0)))(hr:dK U r .i64 .s [])
 (hF:F p/\F q/\F r) (hne:p≠q/\p≠r/\q≠r):fJ U F p q r [] (λ_=>0) (V6 n):=by
 have b:∀k:Nat,(List.replicate n 0)[k]?≠some 2:=λk a=>by
  rw[mI]at a;split at a<;>cases a
 refine⟨⟨c,by simpa[V6]using hc,by simpa[V6]using hd⟩,⟨[],by simpa[V6]using hq⟩,hr,λx=>?_,λk s d=>(by cases d),λk i h1=>absurd h1 (b k),λk a=>absurd a (b k),⟨hF.1,hF.2.1,hF.2.2,hne⟩,λw _=>rfl,by simpa[V6]using h1,by simpa[V6]using h2,λx g=>?_,by simp[V6]⟩
 ·constructor
  ·intro h;cases h
  ·rintro⟨k,_,a⟩;exact absurd a (b k)
 ·have:=Dq g;omega
theorem M0 {n:Nat}(h1:1<=n)(h2:n<=1024){R:Option Addr->Int->Hp->Prop}(hR:∀σ' p',aF U σ'->U.size<=p'->dO σ' (λb=>U.size<=b) p' (V6 n)->R (some ⟨p',0,none⟩) 0 σ'):KA.c (n:Int) U R:=by
 refine KA.o ?_;unfold KA.v;refine bX.intro (fZ O ?_);rw[zL O];refine cD rfl (mk O O λd x e1 j=>uL λy w e2 m=>nw (cs:=[.slice (some ⟨U.size,0,none⟩) n n,.map (some d.size),.int .i64 0]) λg u a r=>?_);have p:=Ext.bV a (Ext.bV e2 j id) id;have i:=Ext.fV a (m .i64 .s) id;refine hR g _ (Ext.trans (Ext.trans e1 e2) a) O ⟨U.size,d.size,[],_,RM h1 h2 (zD _) r ?_ i ⟨O,O,O⟩ O⟩;rw[Sw];exact p
end Go.Ar