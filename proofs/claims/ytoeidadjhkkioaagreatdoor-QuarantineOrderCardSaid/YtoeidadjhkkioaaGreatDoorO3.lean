/- Texts joined. -/
import Derived.Lib.Overlaps
import Derived.Laws.Externs
import Derived.Test.YtoeidadjhkkioaaGreatDoorO2
set_option linter.unusedVariables false
set_option linter.unusedSimpArgs false
namespace Go.Proofs
open Go.Vc
set_option maxRecDepth 100000
def ZU.h:Hn:=.q .o1 (.q (.q (.cU (.seq [.op,.op,.op,.op,.cW false 3 (RI.ops 3)])) .aK) (.q (.q .o3 (.k (.loop [(15,.I)] (.q .o1 (.q (.c .l .l) (.q (.k (.q .o6 (.q (.cU (.gI true [1] [(37,.one .b)] (.take 0 (.all [(1,.take 2 (.take 3 (.split 23 (.take 4 (.take 5 (.take 6 (.take 7 (.take 8 (.take 9 (.take 10 (.take 11 (.take 12 (.take 13 (.take 14 (.take 15 (.take 16 (.take 17 (.done))))))))))))))) (.take 4 (.take 5 (.take 6 (.split 26 (.take 7 (.take 9 (.take 10 (.take 11 (.take 12 (.take 13 (.all [(8,.all [(14,.take 15 (.take 16 (.take 17 (.done))))]),(14,.all [(8,.take 15 (.take 16 (.take 17 (.done))))])]))))))) (.take 7 (.take 8 (.take 9 (.take 10 (.take 11 (.take 12 (.take 13 (.take 14 (.take 15 (.take 16 (.take 17 (.done)))))))))))))))))))])))) .aK))) .o2)))))) .aM))
def ZU.v (a:Sl)(b:Hp)(c:aO):Prop:=bX (λd e=>If d (c false e) (Yb [bO] (λf=>f 0 e) λg (h:Int) i=>If (h<((a.len:Nat):Int)) (Ix a.a a.len h 3 λj=>aQ j 0 i λk=>aQ j 1 i λl=>aQ j 2 i λm=>aV #[.I 0,.I 0,.I 0] 149 i λn o=>aR n 0 (.I k) o λp=>aR n 1 (.I l) p λq=>aR n 2 (.I m) q λr=>Jn [.b] (λ(s:Bool) t=>If s (c false t) (bM (h+1) λu=>g u t)) λv=>dV r λw=>aS w n 0 λx=>aS w n 1 λy=>aS w n 2 λz=>Kb.c x y z r λaa ab=>If (!aa) (v true ab) (If (h>0) (bM (h-1) λac=>Ix a.a a.len ac 3 λad=>(aQ n 0 ab λae=>aQ ad 0 ab λaf=>v (decide (ae<=af)) ab) ∧ (aQ ad 0 ab λag=>aQ n 0 ab λah=>v (decide (ah<=ag)) ab)) (v false ab))) (c true i))) λai=>If (((a.len:Nat):Int)<1) (ai true b) (ai (decide (((a.len:Nat):Int)>40)) b)
theorem ZU.o {a b c}(d:ZU.v a b c):ZU.c a b c:=Wa Tryz.func151 (x:=ZU.h) (R0 d)
def QH.h:Hn:=.q .o4 (.q (.k (.q .o4 (.c .aL (.q (.cU (.gI true [] [(13,.one .b)] (.tk [0,1,2] (.split 16 (.tk [3,4,5,6,7,8,9,10,11,12,13,14,15,16] (.done)) (.tk [3,4,5,6] (.split 20 (.tk [7,8,9,10,11,12,13,14,15,16] (.done)) (.tk [7,8,9,10] (.split 24 (.tk [11,12,13,14,15,16] (.done)) (.take 11 (.take 13 (.all [(12,.take 14 (.take 15 (.take 16 (.done))))]))))))))))) .aJ)))) (.q .o4 (.q (.q .o2 .aJ) (.q .o3 .l))))
def QH.v (a:Sl)(b c:Int)(d:Hp)(e:Int->Int->Hp->Prop):Prop:=aV #[.I b] 3 d λf g=>aV #[.I c] 3 g λh i=>ZU.c a i λj k=>If (!j) (e 0 2 k) (Jn [.b] (λ(l:Bool) m=>If l (e 0 1 m) (Ws.c a ⟨228,#[],#[.pointer (some f),.pointer (some h)]⟩ m λn o=>If (n<0) (e 0 4 o) (e n 0 o))) λp=>dV k λq=>gK q bO f λ(r:Int)=>If (r<1) (p true k) (gK q bO h λ(s:Int)=>If (s<1) (p true k) (gK q bO h λ(t:Int)=>If (t>256) (p true k) (gK q bO h λ(u:Int)=>gK q bO h λ(v:Int)=>QJ.c u k λw x=>And (q x) <| p (w != v) x))))
theorem QH.o {a b c d e}(f:QH.v a b c d e):QH.c a b c d e:=Wa Tryz.func164 (x:=QH.h) (R0 f)
def Kb.h:Hn:=.q .o2 (.q (.cU (.seq [.op,.op,.op,.op,.cW true 3 (RI.ops 3),.op,.cW true 4 (RI.ops 4),.op,.cW true 3 (RI.ops 3),.op,.cW true 3 (RI.ops 3),.op,.cW true 6 (RI.ops 6),.op,.cW true 3 (RI.ops 3),.op,.cW true 3 (RI.ops 3),.op])) .l)
def Kb.v (a b c:Int)(d:Hp)(e:aO):Prop:=aV #[.I a,.I b,.I c] 149 d λf g=>aQ f 0 g λh=>bX (λi j=>bX (λk l=>bX (λm n=>bX (λo p=>bX (λq r=>bX (λs t=>bX (λu v=>e u v) λw=>If s (aQ f 2 t λx=>w (decide (x<=32)) t) (w false t)) λy=>If q (aQ f 2 r λz=>y (decide (z≥1)) r) (y false r)) λaa=>If o (aQ f 1 p λab=>bM (ab*256) λac=>aQ f 0 p λad=>aa (decide (ac≥ad)) p) (aa false p)) λae=>If m (aQ f 1 n λaf=>ae (decide (af<=4)) n) (ae false n)) λag=>If k (aQ f 1 l λah=>ag (decide (ah≥1)) l) (ag false l)) λai=>If i (aQ f 0 j λaj=>Nz 8 <| ai ((aj.tmod 8)==0) j) (ai false j)) λak=>If (h≥8) (aQ f 0 g λal=>ak (decide (al<=512)) g) (ak false g)
theorem Kb.o {a b c d e}(f:Kb.v a b c d e):Kb.c a b c d e:=Wa Tryz.func195 (x:=Kb.h) (R0 f)
def ZX.h:Hn:=.q .o2 (.q .o7 .l)
def ZX.v (a b c:Int)(d:Hp)(e:aN):Prop:=aV #[.I a,.I b,.I c] 149 d λf g=>aQ f 1 g λh=>bM (h*256) λi=>aQ f 0 g λj=>Nz j<|bM (i.tdiv j) λk=>e k g
theorem ZX.o {a b c d e}(f:ZX.v a b c d e):ZX.c a b c d e:=Wa Tryz.func196 (x:=ZX.h) (R0 f)
def QJ.h:Hn:=.q .o1 (.q .o1 (.q (.q .o1 (.k (.loop [(3,.I),(4,.I)] (.q (.q .o3 (.c .l .l)) (.q (.k .o2) .o3))))) .aL))
def QJ.v (a:Int)(b:Hp)(c:aN):Prop:=Yb [bO,bO] (λd=>d 0 1 b) λe (f:Int) (g:Int) h=>If (g<=a) (bM (g*2) λi=>e g i h) (c f h)
theorem QJ.o {a b c}(d:QJ.v a b c):QJ.c a b c:=Wa Tryz.func226 (x:=QJ.h) (R0 d)
def Z9.h:Hn:=.q .o2 (.q (.cU (.seq [.op,.op,.op,.op,.op,.cW true 5 (RI.ops 5),.op])) .l)
def Z9.v (a b c:Int)(d e:Addr)(f:Hp)(g:aO):Prop:=aV #[.I a,.I b,.I c] 149 f λh i=>aQ h 0 i λj=>bN d i λk=>bX (λl m=>g l m) λn=>If (j≥k) (aQ h 0 i λo=>bN e i λp=>Nz p <| n ((o.tmod p)==0) i) (n false i)
theorem Z9.o {a b c d e f g}(h:Z9.v a b c d e f g):Z9.c a b c d e f g:=Wa Tryz.func228 (x:=Z9.h) (R0 h)
def ZO.h:Hn:=.q .o3 (.q (.q .o3 .aJ) (.q .o4 .l))
def ZO.v (a b c:Int)(d:Hp)(e:Int->Int->Hp->Prop):Prop:=aV #[.I a,.I b,.I c] 149 d λf g=>aQ f 0 g λh=>aQ f 1 g λi=>aQ f 2 g λj=>Kb.c h i j g λk l=>If (!k) (e 0 1 l) (aQ f 0 l λm=>aQ f 1 l λn=>aQ f 2 l λo=>ZX.c m n o l λp q=>e p 0 q)
theorem ZO.o {a b c d e}(f:ZO.v a b c d e):ZO.c a b c d e:=Wa Tryz.func274 (x:=ZO.h) (R0 f)
end Go.Proofs
namespace Go.Ar
open Go Go.Vc Go.Proofs
variable {U:Hp}
theorem E0 (x y z:Int){R:aO}(hR:∀σ',aG U σ'->R (UM x y z) σ'):Kb.c x y z U R:=by
 refine Kb.o ?_;unfold Kb.v;refine nw (cs:=[.int .i64 x,.int .i64 y,.int .i64 z]) λh A e b=>?_;have j:UM x y z=false->R false h:=λg=>g▸hR h e;have a:¬(8<=x/\x<=512/\x%8=0/\1<=y/\y<=4/\x<=y*256/\1<=z/\z<=32)->R false h:=λg=>j (by rw[←rW,H8];exact g);refine b.rI rfl (bX.intro ?_);refine cP (λw=>b.rI rfl (bX.intro ?_)) λw=>?_
 case refine_2=>
  iterate 6 refine bX.intro (cD rfl ?_)
  exact a O
 refine cP (λp=>b.rI rfl (nz aB (bX.intro ?_))) λp=>?_
 case refine_2=>
  iterate 5 refine bX.intro (cD rfl ?_)
  exact a O
 rw[Kg O];refine cN (λd=>b.rI rfl (bX.intro ?_)) λd=>?_
 case refine_2=>
  have:¬x%8=0:=by simpa using d
  iterate 4 refine bX.intro (cD rfl ?_)
  exact a O
 have s:x%8=0:=by simpa using d
 refine cP (λi=>b.rI rfl (bX.intro ?_)) λi=>?_
 case refine_2=>
  iterate 3 refine bX.intro (cD rfl ?_)
  exact a O
 refine cP (λr=>b.rI rfl (ar O O (b.rI rfl (bX.intro ?_)))) λr=>?_
 case refine_2=>
  iterate 2 refine bX.intro (cD rfl ?_)
  exact a O
 refine cP (λu=>b.rI rfl (bX.intro ?_)) λu=>?_
 case refine_2=>exact bX.intro (cD rfl (a O))
 refine cP (λm=>b.rI rfl ?_) λm=>a O;have:decide (z<=32)=UM x y z:=by
  rw[kA,H8];simp;omega
 rw[this];exact hR h e
theorem Rm {c:cA}(hc:c.ok){R:aN}(hR:∀σ',aG U σ'->R (c.n:Int) σ'):ZX.c c.size c.aF c.batch U R:=by
 refine ZX.o ?_;unfold ZX.v;have h:=hc;unfold cA.ok at h;refine nw (cs:=[.int .i64 c.size,.int .i64 c.aF,.int .i64 c.batch]) λh b e a=>?_;refine a.rI rfl (cT (m:=c.aF*256) aA O (a.rI rfl (nz O ?_)));refine cT (m:=c.n) ?_ (by have:=hc.kF;omega) (hR _ e);rw[YO O];simp[cA.n]
theorem IK (x y z:Int){R:Int->Int->Hp->Prop}(h1:∀c:cA,c.ok->x=c.size->y=c.aF->z=c.batch->∀σ',aG U σ'->R (c.n:Int) 0 σ')(h0:UM x y z=false->∀σ',aG U σ'->R 0 1 σ'):ZO.c x y z U R:=by
 refine ZO.o ?_;unfold ZO.v;refine nw (cs:=[.int .i64 x,.int .i64 y,.int .i64 z]) λh m e b=>?_;refine b.rI rfl (b.rI rfl (b.rI rfl (E0 _ _ _ λi e2=>?_)));have a:=e2.bV b id;cases hk:UM x y z
 ·exact cF rfl (h0 hk _ (e.trans e2))
 ·obtain⟨c,d,_,rfl,rfl,rfl⟩:=A0 hk;exact cD rfl (a.rI rfl (a.rI rfl (a.rI rfl (Rm d λj g=>h1 c d rfl rfl rfl _ ((e.trans e2).trans g)))))
end Go.Ar
namespace Go.Proofs
open Go.Vc
set_option maxRecDepth 100000
def Ve.h:Hn:=.q .o2 (.q (.q (.cU (.seq [.op,.op,.op,.cW false 2 [.op,.op],.op,.cW false 3 (RI.ops 3)])) .aJ) (.q .o6 .l))
def Ve.v (a:Int)(b:Hp)(c:Option Addr->Int->Hp->Prop):Prop:=bX (λd e=>bX (λf g=>If f (c none 1 g) (Mk a a 8 3 [.I 0] g λh i=>aV #[.slice h.a h.len h.cap] 342 i λj k=>c (some j) 0 k)) λl=>If d (l true e) (Nz 16 <| l ((a.tmod 16) != 0) e)) λm=>If (a<16) (m true b) (m (decide (a>1024)) b)
theorem Ve.o {a b c}(d:Ve.v a b c):Ve.c a b c:=Wa Tryz.func211 (x:=Ve.h) (R0 d)
def XJ.h:Hn:=.q .o1 (.q .o6 .l)
def XJ.v (a:R2)(b c:Int)(d:Hp)(e:aN):Prop:=aV #[.I 1] 3 d λf g=>X0.c a b c 2 ⟨some f,1,1⟩ g λh i=>e h i
theorem XJ.o {a b c d e}(f:XJ.v a b c d e):XJ.c a b c d e:=Wa Tryz.func245 (x:=XJ.h) (R0 f)
def XF.h:Hn:=.q .o1 (.q (.cU (.seq [.op,.op,.op,.cW true 6 (RI.ops 6),.op])) .l)
def XF.v (a:R2)(b:Hp)(c:aO):Prop:=bX (λd e=>c d e) λf=>If (!a.isNone) (bF a 0 b λh=>f (decide (((h.len:Nat):Int)>0)) b) (f false b)
theorem XF.o {a b c}(d:XF.v a b c):XF.c a b c:=Wa Tryz.func249 (x:=XF.h) (R0 d)
def Y9.h:Hn:=.q .o1 (.q .o7 .l)
def Y9.v (a:R2)(b:Hp)(c:aN):Prop:=bF a 0 b λe=>Nz 16<|bM (((e.len:Nat):Int).tdiv 16) λf=>c f b
theorem Y9.o {a b c}(d:Y9.v a b c):Y9.c a b c:=Wa Tryz.func250 (x:=Y9.h) (R0 d)
def Zo.h:Hn:=.q .o1 (.q (.o 11) .l)
def Zo.v (a:R2)(b:Int)(c:Hp)(d:Sl->Hp->Prop):Prop:=bF a 0 c λf=>bM (b*16) λg=>bM (b+1) λh=>bM (h*16) λi=>fA f 1 g i (f.cap:Nat) λj=>d j c
theorem Zo.o {a b c d}(e:Zo.v a b c d):Zo.c a b c d:=Wa Tryz.func252 (x:=Zo.h) (R0 e)
def X0.h:Hn:=.q .o2 (.q (.k (.q .o4 (.c .aM (.q (.cU (.seq [.op,.op,.op,.cW false 2 [.op,.op],.op,.cW false 7 (RI.ops 7),.op,.cW false 9 (RI.ops 9),.op])) .aK)))) (.q .gC (.q (.q .o3 .aK) (.q .o3 .aM))))
def X0.v (a:R2)(b c d:Int)(e:Sl)(f:Hp)(g:aN):Prop:=aV #[.slice e.a e.len e.cap] 31 f λh i=>XF.c a i λj k=>If (!j) (g 5 k) (bX (λl m=>bX (λn o=>bX (λp q=>If p (g 1 q) (bF a 0 q λs=>bM (b+c) λt=>fA s 1 b t (s.cap:Nat) λu=>WO.c u ⟨305,#[],#[.pointer (some h)]⟩ q λv w=>If v (g 5 w) (QY.c u d w λx=>g 0 x))) λy=>If n (y true o) (bF a 0 o λaa=>bM (((aa.len:Nat):Int)-b) λab=>y (decide (c>ab)) o)) λac=>If l (ac true m) (bF a 0 m λae=>ac (decide (b>((ae.len:Nat):Int))) m)) λaf=>If (b<0) (af true k) (af (decide (c<1)) k))
theorem X0.o {a b c d e f g}(h:X0.v a b c d e f g):X0.c a b c d e f g:=Wa Tryz.func256 (x:=X0.h) (R0 h)
def Yz.h:Hn:=.q .o2 (.q (.k (.q .o4 (.c .aL (.q (.cU (.seq [.op,.op,.op,.cW false 4 (RI.ops 4),.op])) .aJ)))) (.q .o5 .l))
def Yz.v (a:R2)(b:Int)(c:Hp)(d:Sl->Int->Hp->Prop):Prop:=XF.c a c λe f=>If (!e) (d ⟨none,0,0⟩ 5 f) (bX (λg h=>If g (d ⟨none,0,0⟩ 1 h) (Zo.c a b h λi j=>d i 0 j)) λk=>If (b<0) (k true f) (Y9.c a f λl m=>k (decide (b≥l)) m))
theorem Yz.o {a b c d}(e:Yz.v a b c d):Yz.c a b c d:=Wa Tryz.func259 (x:=Yz.h) (R0 e)
def QY.h:Hn:=.q .o3 (.k (.loop [(7,.I)] (.q .o1 (.q (.c .l .l) (.q (.k (.q .o2 .o5)) .o2)))))
def QY.v (a:Sl)(b:Int)(c:Hp)(d:aP):Prop:=Yb [bO] (λe=>e 0 c) λf (g:Int) h=>If (g<((a.len:Nat):Int)) (Ix a.a a.len g 1 λi=>dZ i (.I b) h λj=>bM (g+1) λk=>f k j) (d h)
theorem QY.o {a b c d}(e:QY.v a b c d):QY.c a b c d:=Wa Tryz.func261 (x:=QY.h) (R0 e)
def XP.h:Hn:=.q .o1 (.q .o6 .l)
def XP.v (a:R2)(b c:Int)(d:Hp)(e:aN):Prop:=aV #[.I 2,.I 3] 3 d λf g=>X0.c a b c 1 ⟨some f,2,2⟩ g λh i=>e h i
theorem XP.o {a b c d e}(f:XP.v a b c d e):XP.c a b c d e:=Wa Tryz.func288 (x:=XP.h) (R0 f)
def YK.h:Hn:=.q .o1 (.q .o5 .l)
def YK.v (a:Int)(b:Addr)(c:Hp)(d:aO):Prop:=jJ b c λe=>Ww.c e a c λf g=>d (!f) g
theorem YK.o {a b c d}(e:YK.v a b c d):YK.c a b c d:=Wa Tryz.func305 (x:=YK.h) (R0 e)
def X7.h:Hn:=.q .o1 (.q (.q (.cU (.seq [.op,.op,.op,.op,.cW false 2 [.op,.op],.op,.cW false 7 (RI.ops 7)])) .aK) (.q .o8 .l))
def X7.v (a:R2)(b:Int)(c:Hp)(d:aN):Prop:=XF.c a c λe f=>bX (λg h=>bX (λi j=>If i (d (-1) j) (bF a 0 j λl=>Ix l.a l.len b 1 λm=>bN m j λn=>d n j)) λo=>If g (o true h) (bF a 0 h λq=>o (decide (b≥((q.len:Nat):Int))) h)) λr=>If (!e) (r true f) (r (decide (b<0)) f)
theorem X7.o {a b c d}(e:X7.v a b c d):X7.c a b c d:=Wa Tryz.func314 (x:=X7.h) (R0 e)
def Yh.h:Hn:=.q .o1 (.q .o8 (.q (.k (.q .o3 (.c .aL (.q .o5 .aK)))) (.q .o2 .aM)))
def Yh.v (a:R2)(b:Int)(c:Hp)(d:aN):Prop:=Yz.c a b c λe f g=>If (f != 0) (d f g) (Ix e.a e.len 0 1 λh=>bN h g λi=>If (i != 0) (d 5 g) (QY.c e 3 g λj=>d 0 j))
theorem Yh.o {a b c d}(e:Yh.v a b c d):Yh.c a b c d:=Wa Tryz.func319 (x:=Yh.h) (R0 e)
end Go.Proofs
namespace Go.Ar
open Go Go.Vc Go.Proofs
open Go.Bu (Zx)
variable {U:Hp}{F:Rg}{p q:Nat}{st:List Nat}
structure iv (U:Hp) (p q:Nat) (st:List Nat):Prop where
 hd:∃cap,st.length<=cap/\bZ U p [.slice (some ⟨q,0,none⟩) st.length cap]
 row:∃rest,bZ U q (ints st++rest)
 ne:p≠q
 n1:16<=st.length
 n2:st.length<=1024
 n3:st.length%16=0
theorem iv.bT {σ':Hp}(h:iv U p q st)(e:Ext F U σ')(hp:¬F p)(hq:¬F q):iv σ' p q st:=
 ⟨by obtain⟨c,a,b⟩:=h.hd;exact⟨c,a,e.bV b hp⟩,by obtain⟨r,a⟩:=h.row;exact⟨r,e.bV a hq⟩,h.ne,h.n1,h.n2,h.n3⟩
theorem iv.bP {σ':Hp}(h:iv U p q st)(e:aG U σ'):iv σ' p q st:=h.bT e id id
theorem iv.lt (h:iv U p q st):p<U.size/\q<U.size:=by
 obtain⟨_,_,a⟩:=h.hd;obtain⟨_,b⟩:=h.row;exact⟨a.lt,b.lt⟩
theorem iv.rS (h:iv U p q st){K:Sl->Prop}(hK:∀cap,st.length<=cap->K ⟨some ⟨q,0,none⟩,st.length,cap⟩):jJ (Addr.add ⟨p,0,none⟩ 0) U K:=by
 obtain⟨c,b,a⟩:=h.hd;exact a.rS rfl (hK c b)
theorem iv.part (h:iv U p q st){s:Sl}{a n:Nat}(ha:s.a=some ⟨q,a,none⟩)(hn:s.len=n)(hl:a+n<=st.length):cV s 1 (ints ((st.drop a).take n)) U (· = q):=by
 obtain⟨r,g⟩:=h.row;have b:((st.drop a).take n).length=n:=by simp;omega
 refine g.fW ha (by rw[Ko,b,hn];simp) λj d=>?_;rw[Ko,b]at d;rw[zd (by rw[Ko];omega)];simp[ints,zl,d,lG]
theorem jS {b o n c:Nat}{cs:List Value}(hb:bZ U b cs)(hl:o+n<=cs.length)(hn:n<=1000000)(v:Nat){R:aP}
 (hR:∀σ',Q3 U σ' b->bZ σ' b (cs.take o++List.replicate n (.int .i64 (v:Int))++cs.drop (o+n))->R σ'):QY.c ⟨some ⟨b,o,none⟩,n,c⟩ v U R:=by
 refine QY.o ?_;unfold QY.v;refine Qp (a:=bO) (λ(t:Int) p=>∃i:Nat,t=(i:Int)/\i<=n/\Q3 U p b/\bZ p b (cs.take o++List.replicate i (.int .i64 (v:Int))++cs.drop (o+i))) (λt _=>n-t.toNat) ⟨0,rfl,O,⟨rfl,λ_ _=>rfl⟩,by simpa using hb⟩ ?_;rintro t p ⟨i,rfl,hi,s,j⟩;refine cP (λr=>?_) λu=>?_
 ·simp only at r;refine ix O aC ?_;rw[add_lit];refine j.s0 aE λx d g=>?_;refine cT (m:=i+1) O O ⟨⟨i+1,rfl,O,⟨d.1.trans s.1,λk w=>(d.2 k w).trans (s.2 k w)⟩,?_⟩,O⟩;have:(cs.take o++List.replicate i (Value.int .i64 (v:Int))++cs.drop (o+i)).set (o+(i:Int).toNat*1) (Value.int .i64 (v:Int))=cs.take o++List.replicate (i+1) (Value.int .i64 (v:Int))++cs.drop (o+(i+1)):=by
   rw[CZ _ _ aE];have e:o+(i:Int).toNat*1-(cs.take o++List.replicate i (Value.int .i64 (v:Int))).length=0:=by simp;omega
   rw[e,yq O,List.set_cons_zero,CS];simp[zk,xw]
  rw[this]at g;exact g
 ·simp only at u;have:i=n:=by omega
  subst this;exact hR p s j
theorem iv.fill (h:iv U p q st){a n:Nat}{r:List Value}{σ':Hp}{v:Nat}(hrow:bZ U q (ints st++r))(hl:a+n<=st.length)(ho:Q3 U σ' q)
 (hb:bZ σ' q ((ints st++r).take a++List.replicate n (.int .i64 (v:Int))++(ints st++r).drop (a+n))):iv σ' p q (gF st a (a+n) v):=by
 obtain⟨c,i,d⟩:=h.hd;have b:=Vl st a (a+n) v;refine⟨⟨c,by rw[b];exact i,?_⟩,⟨r,?_⟩,h.ne,by rw[b];exact h.n1,by rw[b];exact h.n2,by rw[b];exact h.n3⟩
 ·rw[b];exact WE ho d h.ne
 ·rw[Sn O hl,Hv,Hv];have e1:(ints st++r).take a=ints (st.take a):=by
   rw[pt (by rw[Ko];omega)];simp[ints]
  have e2:(ints st++r).drop (a+n)=ints (st.drop (a+n))++r:=by
   rw[List.drop_append_of_le_length (by rw[Ko];omega)];simp[ints]
  have g:ints (List.replicate (a+n-a) v)=List.replicate n (.int .i64 (v:Int)):=by
   rw[Ck];simp[ints]
  rw[e1,e2]at hb;rw[g];simpa[zk]using hb
theorem iv.jS (h:iv U p q st){a n c:Nat}(hl:a+n<=st.length)(v:Nat){R:aP}(hR:∀σ',Ext (· = q) U σ'->iv σ' p q (gF st a (a+n) v)->R σ') :
 QY.c ⟨some ⟨q,a,none⟩,n,c⟩ v U R:=by
 obtain⟨r,b⟩:=h.row;have:=h.n2;exact Ar.jS b (by simp[Ko];omega) O v λσ' d g=>hR σ' d.ext (h.fill b hl d g)
theorem CT (h:iv U p q st){R:aO}(hR:R true U):XF.c (aW p) U R:=by
 refine XF.o ?_;unfold XF.v;refine bX.intro (cF rfl (bL (h.rS λcap _=>?_)));have:=h.n1;rw[zI aC];exact hR
theorem O6 (h:iv U p q st){R:aN}(hR:R ((st.length/16:Nat):Int) U):Y9.c (aW p) U R:=by
 refine Y9.o ?_;unfold Y9.v;have:=h.n2;refine bL (h.rS λcap _=>nz aB ?_);refine cT (m:=st.length/16) ?_ O hR;rw[YO O];simp
theorem Tg (h:iv U p q st){k:Nat}(hk:16*k+16<=st.length){R:Sl->Hp->Prop}(hR:∀c,R ⟨some ⟨q,16*k,none⟩,16,c⟩ U):Zo.c (aW p) (k:Int) U R:=by
 refine Zo.o ?_;unfold Zo.v;have:=h.n2;refine bL (h.rS λcap a=>?_);refine cT (m:=16*k) O O (cT (m:=k+1) O O (cT (m:=16*k+16) O O ?_));refine jl O aC aC ?_;have e:16*k+16-16*k=16:=by omega
 rw[zB aC,e];simp only[ze,add_lit,mF,zH];exact hR _
theorem PL (h:iv U p q st)(k:Int){R:Sl->Int->Hp->Prop}(h1:∀(x:Nat) c,k=(x:Int)->16*x+16<=st.length->R ⟨some ⟨q,16*x,none⟩,16,c⟩ 0 U)(h0:wa st.length k=false->R ⟨none,0,0⟩ 1 U) :
 Yz.c (aW p) k U R:=by
 refine Yz.o ?_;unfold Yz.v;have n3:=h.n3;refine CT h (cD rfl (bX.intro (cP (λa=>cF rfl (h0 ?_)) λa=>O6 h ?_)))
 ·simp[wa];omega
 ·refine cP (λd=>h0 ?_) λb=>?_
  ·simp[wa];omega
  ·obtain⟨x,rfl⟩:=zc (show 0<=k by omega);exact Tg h O λc=>h1 x c rfl O
theorem IZ {n x:Nat}(h:16*x+16<=n):wa n (x:Int)=true:=by simp[wa];omega
theorem iv.first (h:iv U p q st){x c:Nat}(hx:16*x+16<=st.length){K:Int->Prop}(hK:K ((st.getD (16*x) 0:Nat):Int)) :
 Ix (some ⟨q,16*x,none⟩) 16 0 1 λa=>gN .i64 a U K:=by
 have b:=h.part (s:=⟨some ⟨q,16*x,none⟩,16,c⟩) (n:=16) rfl rfl hx;refine b.s8 (i:=0) (x:=st.getD (16*x) 0) ?_ hK;simp[zl,lG,zQ];rw[cX O];simp
theorem Ms (h:iv U p q st)(k:Int){R:aN}(hR:∀σ',Ext (· = q) U σ'->iv σ' p q (je st k)->R (kI st k) σ'):Yh.c (aW p) k U R:=by
 refine Yh.o ?_;unfold Yh.v;refine PL h k (λx c g d=>?_) λg=>?_
 ·subst g;have a:=IZ d;refine cD rfl (h.first (c:=c) d (cN (λi=>?_) λi=>?_))
  ·have e1:¬st.getD (16*x) 0=0:=by simpa using i
   have:kI st (x:Int)=5:=by simp only[kI,a,dH,zU,zB e1]
   have e2:je st (x:Int)=st:=by simp[je,this]
   have:=hR U (Ext.refl _ _);rw[e2]at this;simpa[*]using this h
  ·have e1:st.getD (16*x) 0=0:=by simpa using i
   have b:kI st (x:Int)=0:=by simp only[kI,a,dH,zU,e1]
   have e2:je st (x:Int)=gF st (16*x) (16*x+16) 3:=by simp[je,b]
   refine h.jS d 3 λσ' e j=>?_;have:=hR σ' e;rw[b,e2]at this;exact this j
 ·have b:kI st k=1:=by simp[kI,g]
  have e2:je st k=st:=by simp[je,b]
  refine cF rfl ?_;have:=hR U (Ext.refl _ _);rw[b,e2]at this;exact this h
theorem Jz {s:Sl}{xs:List Nat}(h:cV s 1 (ints xs) U F)(hl:xs.length<=1000000)(v:Nat){R:aN}(h1:∀i:Nat,xs[i]?=some v->(∀j:Nat,j<i->xs[j]?≠some v)->R (i:Int) U)(h0:v∉xs->R (-1) U) :
 WZ.c s (v:Int) U R:=by
 refine WZ.o ?_;unfold WZ.v;have w:=h.oZ;refine Qp (a:=bO) (λ(t:Int) x=>∃i:Nat,t=(i:Int)/\i<=xs.length/\x=U/\∀j,j<i->xs[j]?≠some v) (λt _=>xs.length-t.toNat) ⟨0,rfl,O,rfl,λj d=>O⟩ ?_;rintro t x ⟨i,rfl,hi,rfl,b⟩;refine cP (λy=>?_) λz=>?_
 ·have p:i<xs.length:=by omega
  have r:xs[i]?=some xs[i]:=cX p;refine h.s8 r ?_;rw[mi];refine cN (λu=>?_) λu=>?_
  ·have:v=xs[i]:=by simpa using u
   exact h1 i (by rw[r,this]) b
  ·have g:¬v=xs[i]:=by simpa using u
   refine cT (m:=i+1) O O ⟨⟨i+1,rfl,O,rfl,λj d=>?_⟩,O⟩;by_cases e:j=i
   ·subst e;rw[r];intro e2;cases e2;exact g rfl
   ·exact b j O
 ·refine h0 λA=>?_;obtain⟨j,d⟩:=zP A;have:=(cY.1 d).1;exact b j O d
theorem WeX {s:Sl}{xs:List Nat}(h:cV s 1 (ints xs) U F)(hl:xs.length<=1000000)(v:Nat){R:aO}(hR:R (xs.contains v) U):Ww.c s (v:Int) U R:=by
 refine Ww.o ?_;unfold Ww.v;refine Jz h hl v (λi hi _=>?_) λa=>?_
 ·have:xs.contains v=true:=by simpa using zG hi
  rw[this]at hR;rw[zI O];exact hR
 ·have:xs.contains v=false:=by simpa using a
  rw[this]at hR;exact hR
theorem GY {s:Sl}{xs:List Int}(h:cV s 1 (xs.map (Value.int .i64)) U F)(hl:xs.length<=1000000000)(v:Int){R:aO}(hR:R (xs.contains v) U):Ww.c s v U R:=by
 refine Ww.o ?_;unfold Ww.v;refine WZ.o ?_;unfold WZ.v;have u:s.len=xs.length:=by have:=h.1;simp at this;omega
 refine Qp (a:=bO) (λ(t:Int) x=>∃i:Nat,t=(i:Int)/\i<=xs.length/\x=U/\∀j,j<i->xs[j]?≠some v) (λt _=>xs.length-t.toNat) ⟨0,rfl,O,rfl,λj d=>O⟩ ?_;rintro t x ⟨i,rfl,hi,rfl,b⟩;refine cP (λy=>?_) λz=>?_
 ·have p:i<xs.length:=by omega
  have w:xs[i]?=some xs[i]:=cX p;refine h.lV w (cN (λr=>?_) λr=>?_)
  ·have e:v=xs[i]:=by simpa using r
   have:xs.contains v=true:=by rw[e];simp
   rw[this]at hR;show R (decide ((i:Int)≥0)) _;rw[zI O];exact hR
  ·have g:¬v=xs[i]:=by simpa using r
   refine cT (m:=i+1) O O ⟨⟨i+1,rfl,O,rfl,λj d=>?_⟩,O⟩;by_cases e:j=i
   ·subst e;rw[w];intro e2;cases e2;exact g rfl
   ·exact b j O
 ·have:xs.contains v=false:=by
   simp only[se,decide_eq_false_iff_not];intro hm;obtain⟨j,d⟩:=zP hm;have:=(cY.1 d).1;exact b j O d
  rw[this]at hR;exact hR
def Ef (f:Fv)(p:Nat->Bool)(U:Hp):Prop:=∀(x:Nat) (σ':Hp) (R:aO),aG U σ'->(∀σ'',aG σ' σ''->R (p x) σ'')->VO Tryz.prog f [.int .i64 (x:Int)] [.one .b] σ' R
theorem Se {s:Sl}{xs:List Nat}(h:cV s 1 (ints xs) U F)(hl:xs.length<=1000000){f:Fv}{pr:Nat->Bool}(hf:Ef f pr U){R:aO}(hR:∀σ',aG U σ'->R (xs.any pr) σ') :
 WO.c s f U R:=by
 refine WO.o ?_;unfold WO.v;refine Xe.o ?_;unfold Xe.v;have u:=h.oZ;refine Qp (a:=bO) (λ(t:Int) w=>∃i:Nat,t=(i:Int)/\i<=xs.length/\aG U w/\∀j x,j<i->xs[j]?=some x->pr x=false) (λt _=>xs.length-t.toNat) ⟨0,rfl,O,Ext.refl _ _,λj x r=>O⟩ ?_;rintro t w ⟨i,rfl,hi,e,g⟩;refine cP (λy=>?_) λz=>?_
 ·have d:i<xs.length:=by omega
  have p:xs[i]?=some xs[i]:=cX d;refine(aH.bP h e).s8 p (hf _ _ _ e λA e2=>?_);cases hp:pr xs[i]
  ·refine cD rfl (cT (m:=i+1) O O ⟨⟨i+1,rfl,O,e.trans e2,λj x r b=>?_⟩,O⟩);by_cases e3:j=i
   ·subst e3;rw[p]at b;cases b;exact hp
   ·exact g j x O b
  ·refine cF rfl ?_;have:xs.any pr=true:=zy.2 ⟨_,kv d,hp⟩;show R (decide ((i:Int)≥0)) _;rw[zI O,←this];exact hR _ (e.trans e2)
 ·have:xs.any pr=false:=by
   rw[mr];intro x p;obtain⟨j,r⟩:=zP p;have:=(cY.1 r).1;simp[g j x O r]
  show R (decide ((-1:Int)≥0)) _;rw[show decide ((-1:Int)≥0)=false from rfl,←this];exact hR _ e
theorem ω {c:Nat}{s:Sl}{fr:List Nat}{σ0:Hp}(hb:bZ σ0 c [.slice s.a s.len s.cap])(hs:cV s 1 (ints fr) σ0 F)(hl:fr.length<=1000):Ef ⟨305,#[],#[.pointer (some ⟨c,0,none⟩)]⟩ (λx=>!fr.contains x) σ0:=by
 intro x σ' R e hR;refine G5 (all := #[.int .i64 (x:Int),.pointer (some ⟨c,0,none⟩)]) (by kernel_rfl) aA ?_;refine YK.o ?_;unfold YK.v;refine(e.bV hb id).wq rfl ?_;exact WeX (aH.bP hs e) O x (hR _ (Ext.refl _ _))
theorem Jb (h:iv U p q st)(a m:Int)(v:Nat){s:Sl}{fr:List Nat}(hs:cV s 1 (ints fr) U F)(hl:fr.length<=1000){R:aN}(hR:∀σ',Ext (· = q) U σ'->iv σ' p q (UE st a m v fr)->R (pO st a m fr) σ') :
 X0.c (aW p) a m v s U R:=by
 refine X0.o ?_;unfold X0.v;have n2:=h.n2;have Q:=h.lt.2;refine nw (cs:=[.slice s.a s.len s.cap]) λv1 P r N=>?_;have g:=h.bP r;have b:¬(0<=a/\1<=m/\m<=st.length-a)->R 1 v1:=λE=>by
  have d:Zx st.length a m=false:=by simp only[Zx,←wh];exact zJ E
  have e1:pO st a m fr=1:=by simp[pO,d]
  have e2:UE st a m v fr=st:=by simp[UE,e1]
  have:=hR v1 r.to;rw[e1,e2]at this;exact this g
 refine CT g (cD rfl (bX.intro ?_));refine cP (λH=>bX.intro (cF rfl (bX.intro (cF rfl (cF rfl (b O)))))) λH=>?_;refine bX.intro (cP (λK=>bX.intro (cF rfl (cF rfl (b O)))) λK=>?_);refine bL (g.rS λcap C=>bX.intro (cP (λA=>cF rfl (b (by simp only at *;omega))) λA=>?_));simp only at A;refine bL (g.rS λcap C=>ar aC aC (cP (λB=>b (by simp only at *;omega)) λB=>?_));simp only at B;obtain⟨x,rfl⟩:=zc (show 0<=a by omega);obtain⟨y,rfl⟩:=zc (show 0<=m by omega);have i:x+y<=st.length:=by omega
 have d:Zx st.length (x:Int) (y:Int)=true:=by simp only[Zx,zF,zV];omega
 refine bL (g.rS λcap C=>cT (m:=x+y) O O (jl O aC aC ?_));rw[zB aC];simp only[ze,add_lit,mF,zH];have L:x+y-x=y:=by omega
 rw[L];have D:=g.part (s:=⟨some ⟨q,x,none⟩,y,cap-x⟩) (n:=y) rfl rfl i;refine Se D aE (ω (s:=s) N (aH.bP hs r) hl) λG e2=>?_;have w:=g.bP e2;have j:((st.drop x).take y).any (λz=>!fr.contains z) = !vu st x y fr:=by
  rw[vu,List.all_eq_not_any_not,Bool.not_not]
 rw[j];cases hA:vu st x y fr
 ·have e1:pO st (x:Int) (y:Int) fr=5:=by simp[pO,d,hA]
  have u:UE st (x:Int) (y:Int) v fr=st:=by simp[UE,e1]
  have:=hR G (r.to.trans e2.to);rw[e1,u]at this;exact cF rfl (this w)
 ·have e1:pO st (x:Int) (y:Int) fr=0:=by simp[pO,d,hA]
  have u:UE st (x:Int) (y:Int) v fr=gF st x (x+y) v:=by simp[UE,e1]
  refine cD rfl (w.jS i v λv3 J M=>?_);have:=hR v3 (r.to.trans (e2.to.trans J));rw[e1,u]at this;exact this M
theorem AJ {h:Hp}{b:Nat}{xs:List Nat}{n c:Nat}(hb:bZ h b (ints xs))(hn:n=xs.length):cV ⟨some ⟨b,0,none⟩,n,c⟩ 1 (ints xs) h (· = b):=
 hb.fW (o:=0) rfl (by rw[Ko];simp[hn]) λj _=>by rw[zH]
theorem RW (h:iv U p q st)(a m:Int){R:aN}(hR:∀σ',Ext (· = q) U σ'->iv σ' p q (UE st a m 1 [2,3])->R (pO st a m [2,3]) σ'):XP.c (aW p) a m U R:=by
 refine XP.o ?_;unfold XP.v;refine nw (cs:=ints [2,3]) λv i e g=>?_;exact Jb (h.bP e) a m 1 (AJ g rfl) aA λσ' b d=>hR σ' (e.to.trans b) d
theorem OY (h:iv U p q st)(a m:Int){R:aN}(hR:∀σ',Ext (· = q) U σ'->iv σ' p q (UE st a m 2 [1])->R (pO st a m [1]) σ'):XJ.c (aW p) a m U R:=by
 refine XJ.o ?_;unfold XJ.v;refine nw (cs:=ints [1]) λv i e g=>?_;exact Jb (h.bP e) a m 2 (AJ g rfl) aA λσ' b d=>hR σ' (e.to.trans b) d
def Al (st:List Nat)(x:Int):Int:=if 0<=x/\x<st.length then((st.getD x.toNat 0:Nat):Int)else -1
theorem Rb (h:iv U p q st)(x:Int){R:aN}(hR:R (Al st x) U):X7.c (aW p) x U R:=by
 refine X7.o ?_;unfold X7.v;have n2:=h.n2;unfold Al at hR;refine CT h (bX.intro (cD rfl (bX.intro (cP (λi=>cF rfl ?_) λi=>bL (h.rS λcap j=>cP (λb=>?_) λb=>?_)))))
 ·rw[zB O]at hR;exact hR
 ·simp only at b;rw[zB O]at hR;exact hR
 ·simp only at b;rw[zC O]at hR;obtain⟨y,rfl⟩:=zc (show 0<=x by omega);refine bL (h.rS λcap j=>?_);have d:=h.part (s:=⟨some ⟨q,0,none⟩,st.length,cap⟩) (a:=0) (n:=st.length) rfl rfl O;rw[yM,lW]at d;have g:y<st.length:=by omega
  refine d.s8 (cX g) ?_;simpa[zQ,cX g]using hR
theorem HJ {s:Sl}{vs:List Value}(h:cV s 1 vs U F)(h1:∀v∈vs,dU v=true)(hl:s.len<=1000000){R:Sl->Hp->Prop}
 (hR:∀s' σ',s'.len=s.len->aG U σ'->bS s' 1 vs σ' (λb=>U.size<=b)->R s' σ'):W3.c s U R:=by
 refine W3.o ?_;unfold W3.v;exact B2 h aB rfl h1 aB hl hR
theorem SV {n:Nat}(h1:16<=n)(h2:n<=1024)(h3:n%16=0){R:Option Addr->Int->Hp->Prop}(hR:∀σ' p q,aG U σ'->U.size<=p->U.size<=q->iv σ' p q (List.replicate n 0)->R (some ⟨p,0,none⟩) 0 σ'):Ve.c (n:Int) U R:=by
 refine Ve.o ?_;unfold Ve.v;refine bX.intro (gg O (bX.intro (gg O (nz aB ?_))));rw[Kg O];have:(((n:Int)%16) != 0)=false:=by
  have:((n:Int)%16)=0:=by omega
  rw[this];rfl
 rw[this];refine cD rfl (mk O O λv i e a=>nw (cs:=[.slice (some ⟨U.size,0,none⟩) n n]) λj g e2 b=>?_);have d:(List.replicate n [Value.int .i64 0]).flatten=ints (List.replicate n 0):=by
  have:[Value.int .i64 0]=ints [0]:=rfl;rw[this];clear a hR
  induction n with
  | zero=>rfl
  | succ n ih=>simp[tg,ints]
 rw[d]at a;refine hR _ _ _ (e.trans e2) O (zD _) ⟨⟨n,by simp,by simpa using b⟩,⟨[],by simpa using e2.bV a id⟩,O,by simpa using h1,by simpa using h2,by simpa using h3⟩
end Go.Ar
namespace Go.Proofs
open Go.Vc
set_option maxRecDepth 100000
def ZY.h:Hn:=.q .o1 (.q (.q .o3 .aJ) (.q (.cU (.tail 10 (RI.ops 10) [.op])) .l))
def ZY.v (a:R2)(b:Hp)(c:Int->Int->Hp->Prop):Prop:=aV #[.I 0,.I 0] 268 b λd e=>YH.c a e λf g=>If (!f) (aR d 0 (.I 0) g λh=>aR d 1 (.I 0) h λi=>aQ d 0 i λj=>aQ d 1 i λk=>c j k i) (bE a 0 g λm=>bW a λn=>bN ((n.add 1).add 1) g λo=>aR d 0 (.I m) g λp=>aR d 1 (.I o) p λq=>aQ d 0 q λr=>aQ d 1 q λs=>c r s q)
theorem ZY.o {a b c}(d:ZY.v a b c):ZY.c a b c:=Wa Tryz.func198 (x:=ZY.h) (R0 d)
def YC.h:Hn:=.q .o1 (.q (.q .o3 .aK) (.q .o6 .l))
def YC.v (a:R2)(b:Hp)(c:aN):Prop:=YH.c a b λd e=>If (!d) (c 0 e) (bF a 4 e λg=>c ((g.len:Nat):Int) e)
theorem YC.o {a b c}(d:YC.v a b c):YC.c a b c:=Wa Tryz.func201 (x:=YC.h) (R0 d)
def YH.h:Hn:=.q .o1 (.q (.cU (.seq [.op,.op,.op,.cW true 6 (RI.ops 6),.op])) .l)
def YH.v (a:R2)(b:Hp)(c:aO):Prop:=bX (λd e=>c d e) λf=>If (!a.isNone) (bF a 4 b λh=>f (decide (((h.len:Nat):Int)>0)) b) (f false b)
theorem YH.o {a b c}(d:YH.v a b c):YH.c a b c:=Wa Tryz.func268 (x:=YH.h) (R0 d)
def Vf.h:Hn:=.q .o3 (.q .o7 (.q (.q (.cU (.seq [.op,.op,.op,.cW false 2 [.op,.op],.op,.cW false 5 (RI.ops 5)])) .aJ) (.q (.cU (.held true [] (.tk [0,1,2] (.all [(3,.take 4 (.all [(5,.take 6 (.take 7 (.done)))]))])))) .l)))
def Vf.v (a b c d:Int)(e:Hp)(f:Option Addr->Int->Hp->Prop):Prop:=aV #[.I b,.I c,.I d] 149 e λg h=>aQ g 0 h λi=>aQ g 1 h λj=>aQ g 2 h λk=>ZO.c i j k h λl m n=>bX (λo p=>bX (λq r=>If q (f none 1 r) (dV r λs=>aS s g 0 λt=>aS s g 1 λu=>aS s g 2 λv=>Mk l l 8 3 [.I 0] r λw x=>And (s x) <| aV #[.I a,.I t,.I u,.I v,.slice w.a w.len w.cap,.I 0] 339 x λy z=>And (s z) <| f (some y) 0 z)) λaa=>If o (aa true p) (aQ g 1 p λab=>bM (1024-ab) λac=>aa (decide (a>ac)) p)) λad=>If (m != 0) (ad true n) (ad (decide (a<0)) n)
theorem Vf.o {a b c d e f}(g:Vf.v a b c d e f):Vf.c a b c d e f:=Wa Tryz.func290 (x:=Vf.h) (R0 g)
def ZN.h:Hn:=.q .o1 (.q .o8 (.q (.k (.q .o3 (.c .aL (.q .o9 .aK)))) (.q .o4 .aM)))
def ZN.v (a:R2)(b:Int)(c:Hp)(d:aN):Prop:=Yl.c a b c λe f g=>If (f != 0) (d f g) (bF a 4 g λi=>Ix i.a i.len e 1 λj=>bN j g λk=>If (k==0) (d 9 g) (aV #[.I e] 3 g λl m=>Zt.c a 0 ⟨some l,1,1⟩ m λn=>d 0 n))
theorem ZN.o {a b c d}(e:ZN.v a b c d):ZN.c a b c d:=Wa Tryz.func311 (x:=ZN.h) (R0 e)
def ZI.h:Hn:=.q .o2 (.q (.q .o3 .aJ) (.q .o6 (.q (.q .o2 .aJ) (.q .o4 (.q .o5 .l)))))
def ZI.v (a:R2)(b:Hp)(c:Int->Int->Hp->Prop):Prop:=YH.c a b λd e=>If (!d) (c 0 5 e) (bF a 4 e λg=>WZ.c g 0 e λh i=>If (h<0) (c 0 6 i) (aV #[.I h] 3 i λj k=>Zt.c a 1 ⟨some j,1,1⟩ k λl=>Yx.c a h l λm n=>c m 0 n))
theorem ZI.o {a b c}(d:ZI.v a b c):ZI.c a b c:=Wa Tryz.func316 (x:=ZI.h) (R0 d)
def Yf.h:Hn:=.q .o2 (.q (.q .o3 .aJ) (.q .o5 (.q (.q (.cU (.gI false [] [(32,.one .b)] (.take 0 (.take 1 (.all [(2,.take 3 (.take 4 (.split 18 (.take 5 (.take 6 (.take 7 (.take 8 (.take 9 (.take 10 (.take 11 (.take 12 (.take 13 (.take 14 (.take 15 (.take 16 (.take 17 (.take 18 (.done))))))))))))))) (.take 5 (.take 6 (.take 7 (.take 8 (.take 11 (.take 12 (.take 13 (.take 14 (.all [(9,.take 10 (.all [(15,.take 16 (.take 17 (.take 18 (.done))))])),(15,.all [(9,.take 10 (.take 16 (.take 17 (.take 18 (.done)))))])]))))))))))))]))))) .aJ) (.q .o9 .l))))
def Yf.v (a:R2)(b:Int)(c:Hp)(d:Int->Int->Hp->Prop):Prop:=YH.c a c λe f=>If (!e) (d 0 5 f) (Yx.c a 0 f λg h=>bM (b-g) λi=>Jn [.b] (λ(j:Bool) k=>If j (d 0 8 k) (bW a λl=>bN ((l.add 1).add 0) k λm=>Nz m<|bM (i.tdiv m) λn=>d n 0 k)) λo=>Yx.c a 0 h λp q=>If (b<p) (o true q) (bW a λr=>bW a λs=>(aX r 4 q λt=>bN ((s.add 1).add 0) q λu=>bM (((t.len:Nat):Int)*u) λv=>o (decide (i≥v)) q) ∧ (bN ((s.add 1).add 0) q λw=>aX r 4 q λx=>bM (((x.len:Nat):Int)*w) λy=>o (decide (i≥y)) q)))
theorem Yf.o {a b c d}(e:Yf.v a b c d):Yf.c a b c d:=Wa Tryz.func322 (x:=Yf.h) (R0 e)
def YD.h:Hn:=.q .o2 (.q .o8 (.q (.q .o2 (.c (.q .o3 .l) .l)) (.q .gC .l)))
def YD.v (a:R2)(b:Int)(c:Hp)(d:Bool->Int->Hp->Prop):Prop:=Yl.c a b c λe f g=>If (f != 0) (d false f g) (bF a 4 g λi=>Ix i.a i.len e 1 λj=>bN j g λk=>d (k==1) 0 g)
theorem YD.o {a b c d}(e:YD.v a b c d):YD.c a b c d:=Wa Tryz.func324 (x:=YD.h) (R0 e)
def Yl.h:Hn:=.q .o2 (.q .o8 (.q (.q (.cU (.seq [.op,.op,.op,.cW true 5 (RI.ops 5)])) .aJ) (.q .o4 .l)))
def Yl.v (a:R2)(b:Int)(c:Hp)(d:Int->Int->Hp->Prop):Prop:=Yf.c a b c λe f g=>bX (λh i=>If h (d 0 8 i) (d e f i)) λj=>If (f==0) (Yx.c a e g λk l=>j (k != b) l) (j false g)
theorem Yl.o {a b c d}(e:Yl.v a b c d):Yl.c a b c d:=Wa Tryz.func335 (x:=Yl.h) (R0 e)
def Zt.h:Hn:=.q .o3 (.k (.loop [(10,.I)] (.q .o1 (.q (.c .l .l) (.q (.k (.q .o3 (.q (.cU (.tail 16 (RI.ops 16) [.op])) .o8))) .o2)))))
def Zt.v (a:R2)(b:Int)(c:Sl)(d:Hp)(e:aP):Prop:=Yb [bO] (λf=>f 0 d) λg (h:Int) i=>If (h<((c.len:Nat):Int)) (Ix c.a c.len h 1 λj=>bN j i λk=>bE a 5 i λm=>bF a 4 i λo=>Ix o.a o.len k 1 λp=>bN p i λq=>bM (b-q) λr=>bM (m+r) λs=>bW a λt=>aR t 5 (.I s) i λu=>bF a 4 u λw=>Ix w.a w.len k 1 λx=>dZ x (.I b) u λy=>bM (h+1) λz=>g z y) (e i)
theorem Zt.o {a b c d e}(f:Zt.v a b c d e):Zt.c a b c d e:=Wa Tryz.func336 (x:=Zt.h) (R0 f)
def Yx.h:Hn:=.q .o1 (.q (.oq 14) .l)
def Yx.v (a:R2)(b:Int)(c:Hp)(d:aN):Prop:=bE a 0 c λf=>bM (f*256) λg=>bW a λh=>bN ((h.add 1).add 0) c λi=>bM (b*i) λj=>bM (g+j) λk=>d k c
theorem Yx.o {a b c d}(e:Yx.v a b c d):Yx.c a b c d:=Wa Tryz.func339 (x:=Yx.h) (R0 e)
end Go.Proofs
namespace Go.Ar
open Go Go.Vc Go.Proofs
variable {U:Hp}{F:Rg}{p q:Nat}{c:cA}{s:cH}
def nV (tk:List Bool):List Nat:=tk.map λb=>if b then 1 else 0
theorem ya (tk:List Bool):(nV tk).length=tk.length:=by simp[nV]
theorem GJ {tk:List Bool}{i:Nat}{b:Bool}(h:tk[i]?=some b):(nV tk)[i]?=some (if b then 1 else 0):=by simp[nV,h]
theorem LX (tk:List Bool)(i:Nat)(b:Bool):nV (tk.set i b)=(nV tk).set i (if b then 1 else 0):=by simp[nV,vv]
structure ig (U:Hp) (p q:Nat) (c:cA) (s:cH):Prop where
 hd:∃cap,c.n<=cap/\bZ U p [.int .i64 (s.st:Int),.int .i64 (c.size:Int),.int .i64 (c.aF:Int),.int .i64 (c.batch:Int),.slice (some ⟨q,0,none⟩) c.n cap,.int .i64 (s.many:Int)]
 row:∃rest,bZ U q (ints (nV s.tk)++rest)
 ne:p≠q
 len:s.tk.length=c.n
 ok:c.ok
 fit:s.st+c.aF<=1024
theorem ig.bT {σ':Hp}(h:ig U p q c s)(e:Ext F U σ')(hp:¬F p)(hq:¬F q):ig σ' p q c s:=
 ⟨by obtain⟨c,a,b⟩:=h.hd;exact⟨c,a,e.bV b hp⟩,by obtain⟨r,a⟩:=h.row;exact⟨r,e.bV a hq⟩,h.ne,h.len,h.ok,h.fit⟩
theorem ig.bP {σ':Hp}(h:ig U p q c s)(e:aG U σ'):ig σ' p q c s:=h.bT e id id
theorem ig.lt (h:ig U p q c s):p<U.size/\q<U.size:=by
 obtain⟨_,_,a⟩:=h.hd;obtain⟨_,b⟩:=h.row;exact⟨a.lt,b.lt⟩
theorem ig.rS (h:ig U p q c s){K:Sl->Prop}(hK:∀cap,c.n<=cap->K ⟨some ⟨q,0,none⟩,c.n,cap⟩):jJ (Addr.add ⟨p,0,none⟩ 4) U K:=by
 obtain⟨a,d,b⟩:=h.hd;exact b.rS rfl (hK a d)
theorem ig.rI (h:ig U p q c s){i:Nat}{x:Int}(hx:∀a b:Value,([.int .i64 (s.st:Int),.int .i64 (c.size:Int),.int .i64 (c.aF:Int),.int .i64 (c.batch:Int),a,.int .i64 (s.many:Int)]:List Value)[0+i]?=some (.int .i64 x)){K:Int->Prop}(hK:K x):gN .i64 (Addr.add ⟨p,0,none⟩ i) U K:=by
 obtain⟨g,j,d⟩:=h.hd;exact d.rI (hx _ .nilFunc) hK
theorem ig.fM (h:ig U p q c s){i j:Nat}{x:Int}(hx:∀a b:Value,([.int .i64 (s.st:Int),.int .i64 (c.size:Int),.int .i64 (c.aF:Int),.int .i64 (c.batch:Int),a,.int .i64 (s.many:Int)]:List Value)[0+i+j]?=some (.int .i64 x)){K:Int->Prop}(hK:K x):gN .i64 (Addr.add (Addr.add ⟨p,0,none⟩ i) j) U K:=by
 obtain⟨g,m,d⟩:=h.hd;exact d.fM (hx _ .nilFunc) hK
theorem ig.lz (h:ig U p q c s)(cap:Nat):cV ⟨some ⟨q,0,none⟩,c.n,cap⟩ 1 (ints (nV s.tk)) U (· = q):=by
 obtain⟨r,a⟩:=h.row;refine a.fW (o:=0) rfl (by rw[Ko,ya,h.len];simp) λj b=>?_;rw[zH,zd b]
theorem Ac (h:ig U p q c s){R:aO}(hR:R true U):YH.c (aW p) U R:=by
 refine YH.o ?_;unfold YH.v;refine bX.intro (cF rfl (bL (h.rS λcap _=>?_)));have:=h.ok.tj;rw[zI aC];exact hR
theorem MB (h:ig U p q c s){R:aN}(hR:R (c.n:Int) U):YC.c (aW p) U R:=by
 refine YC.o ?_;unfold YC.v;exact Ac h (cD rfl (bL (h.rS λcap _=>hR)))
theorem Ay (h:ig U p q c s)(i:Nat)(hi:i<=1000){R:aN}(hR:R ((at_ c s i:Nat):Int) U):Yx.c (aW p) (i:Int) U R:=by
 refine Yx.o ?_;unfold Yx.v;have a:=h.ok;unfold cA.ok at a;have:=h.fit;have b:i*c.size<=1000*512:=mo hi O;refine bL (h.rI (λ_ _=>rfl) (cT (m:=s.st*256) aA O (bL (h.fM (λ_ _=>rfl) ?_))));exact cT (m:=i*c.size) aA O (cT (m:=at_ c s i) (by simp[at_]) (by unfold at_;omega) hR)
theorem CJ (h:ig U p q c s)(x:Int)(hx2:x<=9223372036854775807){R:Int->Int->Hp->Prop}(h1:∀i,idx c s x=some i->R (i:Int) 0 U)(h0:idx c s x=none->R 0 8 U):Yf.c (aW p) x U R:=by
 refine Yf.o ?_;unfold Yf.v;have A:=h.ok;unfold cA.ok at A;have C:=h.ok.kF;have w:=h.fit;have a:=h.len;have F:c.n*c.size<=128*512:=mo C O;refine Ac h (cD rfl (Ay h 0 O ?_));have z:at_ c s 0=s.st*256:=by simp[at_]
 rw[z];refine vD ?_;refine Jn.intro (Ay h 0 O ?_);rw[z];refine cP (λB=>cF rfl (h0 ?_)) λD=>?_
 ·unfold idx;rw[zC O]
 ·rw[Uf O O];obtain⟨y,E⟩:=zc (show 0<=x by omega);have key:If (decide (x-((s.st*256:Nat):Int)≥((c.n*c.size:Nat):Int))) (R 0 8 U)
   (bW (some ⟨p,0,none⟩) λg=>gN .i64 ((g.add 1).add 0) U λd=>Nz d<|Ar .i64 ((x-((s.st*256:Nat):Int)).tdiv d) λj=>R j 0 U):=by
   refine cP (λu=>h0 ?_) λr=>bL (h.fM (λ_ _=>rfl) (nz O ?_))
   ·unfold idx;rw[a,zC O]
   ·have:idx c s x=some ((x-((s.st*256:Nat):Int)).toNat/c.size):=by unfold idx;rw[a,zB O]
    refine cT (m:=(x-((s.st*256:Nat):Int)).toNat/c.size) ?_ ?_ (h1 _ this)
    ·rw[YO O];have:x-((s.st*256:Nat):Int)=(((x-((s.st*256:Nat):Int)).toNat:Nat):Int):=by omega
     rw[this];simp
    ·have:=Nat.div_le_self (x-((s.st*256:Nat):Int)).toNat c.size;omega
  refine bL (bL ⟨h.rS λcap b=>h.fM (λ_ _=>rfl) (cT (m:=c.n*c.size) aA O key),h.fM (λ_ _=>rfl) (h.rS λcap b=>cT (m:=c.n*c.size) aA O key)⟩)
theorem FM (h:ig U p q c s)(x:Int)(hx2:x<=9223372036854775807){R:Int->Int->Hp->Prop}(h1:∀i,obj c s x=some i->i<c.n->R (i:Int) 0 U)(h0:obj c s x=none->R 0 8 U):Yl.c (aW p) x U R:=by
 refine Yl.o ?_;unfold Yl.v;have d:=h.ok;unfold cA.ok at d;have g:=h.ok.kF;refine CJ h x hx2 (λi hi=>bX.intro (cF rfl ?_)) λhi=>bX.intro (cD rfl (cD rfl (h0 (by unfold obj;rw[hi]))));have a:=((Uj O).1 hi).2.2;rw[h.len]at a;refine Ay h i O (cN (λb=>h0 ?_) λb=>h1 i ?_ a)
 ·have:¬x=((at_ c s i:Nat):Int):=λe=>by rw[e]at b;simp at b
  unfold obj;rw[hi];simp[this]
 ·have:x=((at_ c s i:Nat):Int):=by
   have:((at_ c s i:Nat):Int)=x:=by simpa using b
   exact this.symm
  unfold obj;rw[hi];simp[this]
def cH.is (s:cH)(i:Nat):Bool:=s.tk.getD i false
theorem cH.lC {s:cH}{i:Nat}(hi:i<s.tk.length):s.tk[i]?=some (s.is i):=by
 simp[cH.is,zQ,cX hi]
theorem Rl (h:ig U p q c s)(x:Int)(hx2:x<=9223372036854775807){R:Bool->Int->Hp->Prop}(h1:∀i,obj c s x=some i->R (s.is i) 0 U)(h0:obj c s x=none->R false 8 U):YD.c (aW p) x U R:=by
 refine YD.o ?_;unfold YD.v;refine FM h x hx2 (λi hi a=>cD rfl (bL (h.rS λcap b=>?_))) λhi=>cF rfl (h0 hi);rw[←h.len]at a;refine(h.lz cap).s8 (GJ (cH.lC a)) ?_;have:=h1 i hi;cases hb:s.is i<;>rw[hb]at this<;>simpa using this
theorem A8 {s:cH}{i:Nat}(hi:i<s.tk.length)(v:Bool):((s.put i v).many:Int)=s.many+((if v then 1 else 0)-(if s.is i then 1 else 0)):=by
 have key:∀(l:List Bool) (i:Nat) (b:Bool),l[i]?=some b->(((l.set i v).count true:Nat):Int)=(l.count true:Nat)+((if v then 1 else 0)-(if b then 1 else 0)):=by
  intro l
  induction l with
  | nil=>intro i b h;simp at h
  | cons x l ih=>
   intro i b h;cases i with
   | zero=>
    simp at h;subst h;cases v<;>cases x<;>simp[List.count_cons]<;>omega
   | succ i=>
    have:=ih i b (by simpa using h);simp only[sk,List.count_cons]
    push_cast
    omega
 exact key s.tk i _ (cH.lC hi)
theorem C6 (s:cH):s.many<=s.tk.length:=List.count_le_length
theorem IM (h:ig U p q c s){i:Nat}(hi:i<c.n)(v:Bool){sl:Sl}{G:Rg}(hs:cV sl 1 (ints [i]) U G){R:aP}(hR:∀σ',Ext (λb=>b=p\/b=q) U σ'->ig σ' p q c (s.put i v)->R σ') :
 Zt.c (aW p) (if v then 1 else 0) sl U R:=by
 refine Zt.o ?_;unfold Zt.v;have J:sl.len=1:=hs.oZ;have Q:=h.ok.kF;have E:=h.len;have V:=C6 s;have A:i<s.tk.length:=by omega
 have d:=A8 A v;refine Qp (a:=bO) (λ(t:Int) C=>t=0/\C=U\/t=1/\Ext (λb=>b=p\/b=q) U C/\ig C p q c (s.put i v)) (λt _=>1-t.toNat) (.inl ⟨rfl,rfl⟩) ?_;rintro t C (⟨rfl,rfl⟩|⟨rfl,e,L⟩)
 ·refine lR O ?_;refine hs.s8 (i:=0) (x:=i) rfl (bL (h.rI (λ_ _=>rfl) (bL (h.rS λcap H=>?_))));refine(h.lz cap).s8 (GJ (cH.lC A)) ?_;have N:(0:Int)<=(if v then 1 else 0)/\(if v then(1:Int)else 0)<=1:=by cases v<;>simp
  have K:(0:Int)<=((if s.is i then 1 else 0:Nat):Int)/\((if s.is i then 1 else 0:Nat):Int)<=1:=by cases s.is i<;>simp
  have j:((if s.is i then 1 else 0:Nat):Int)=(if s.is i then 1 else 0):=by cases s.is i<;>rfl
  refine ar O O (ar O O (bL ?_));obtain⟨M,D,hd⟩:=h.hd;obtain⟨r,y⟩:=h.row;refine hd.s1 aA λP w B=>?_;have g:=WE w y (Ne.symm h.ne);refine bL (B.rS rfl (ix O aC ?_));rw[add_lit];refine g.s0 (by simp[Ko,ya];omega) λS z u=>?_;refine cT (m:=1) O O ⟨.inr ⟨rfl,?_,?_⟩,by decide⟩
  ·exact(Ext.eV (F:=λb=>b=p\/b=q) w (.inl rfl)).trans (Ext.eV z (.inr rfl))
  ·refine⟨⟨M,D,?_⟩,⟨r,?_⟩,h.ne,by simp[cH.put,h.len],h.ok,h.fit⟩
   ·have:=WE z B h.ne;rw[d,←j];exact this
   ·have e:(ints (nV s.tk)++r).set (0+(i:Int).toNat*1) (.int .i64 (if v then 1 else 0))=ints (nV (s.put i v).tk)++r:=by
     rw[List.set_append_left _ _ (by simp[Ko,ya];omega)]
     congr 1
     simp only[cH.put,LX,ints,vv];have:(0+(i:Int).toNat*1)=i:=by omega
     rw[this]
     congr 1
     cases v<;>rfl
    rw[e]at u;exact u
 ·exact gg O (hR _ e L)
theorem MG (h:ig U p q c s){x:Int}{i:Nat}(hx2:x<=9223372036854775807)(ho:obj c s x=some i)(ht:s.is i=true){R:aN}(hR:∀σ',Ext (λb=>b=p\/b=q) U σ'->ig σ' p q c (s.put i false)->R 0 σ') :
 ZN.c (aW p) x U R:=by
 refine ZN.o ?_;unfold ZN.v;refine FM h x hx2 (λj r a=>cD rfl (bL (h.rS λcap m=>?_))) λg=>by rw[ho]at g;cases g
 rw[ho]at r;cases r;have d:i<s.tk.length:=by rw[h.len];exact a
 refine(h.lz cap).s8 (GJ (cH.lC d)) ?_;rw[ht];refine cD rfl (nw (cs:=ints [i]) λv z e w=>?_);have A:=h.lt;exact IM (h.bP e) a false (AJ w rfl) λσ' u y=>hR σ' (e.to.trans u) y
theorem N4 (h:ig U p q c s){i:Nat}(hlow:low s=some i){R:Int->Int->Hp->Prop}(hR:∀σ',Ext (λb=>b=p\/b=q) U σ'->ig σ' p q c (s.put i true)->R ((at_ c s i:Nat):Int) 0 σ') :
 ZI.c (aW p) U R:=by
 refine ZI.o ?_;unfold ZI.v;have D:=h.ok.kF;have a:=nE.1 hlow;obtain⟨hi,z,B⟩:=a;have g:s.tk[i]=false:=by simpa using z
 refine Ac h (cD rfl (bL (h.rS λcap x=>?_)));refine Jz (h.lz cap) (by simp[ya,h.len];omega) 0 (λj w d=>?_) λd=>?_
 ·have u:j<s.tk.length:=by
   have:=(cY.1 w).1
   rwa [ya]at this
  have m:j=i:=by
   rcases qt j i with h1|h1|h1
   ·have:=B j h1;rw[GJ (cX u)]at w;have:s.tk[j]=true:=by simpa using this
    simp[this]at w
   ·exact h1
   ·exact absurd (by rw[GJ (cX hi),g];rfl) (d i h1)
  subst m;rw[h.len]at hi;refine gg O (nw (cs:=ints [j]) λv C e r=>?_);refine IM (h.bP e) hi true (AJ r rfl) λσ' A y=>Ay y j O (hR σ' (e.to.trans A) y)
 ·exfalso;apply d;exact zG (i:=i) (by rw[GJ (cX hi),g];rfl)
theorem LC (h:ig U p q c s){R:Int->Int->Hp->Prop}(hR:∀σ',aG U σ'->R (s.st:Int) (c.aF:Int) σ'):ZY.c (aW p) U R:=by
 refine ZY.o ?_;unfold ZY.v;refine nw (cs:=[.int .i64 0,.int .i64 0]) λv r e m=>?_;have g:=h.bP e;refine Ac g (cD rfl (bL (g.rI (λ_ _=>rfl) (bL (g.fM (λ_ _=>rfl) ?_)))));refine m.s1 aA λu d j=>j.s1 aA λv3 b a=>?_;refine a.rI rfl (a.rI rfl (hR _ ?_));exact Ext.fresh (Ext.fresh e (Ext.eV (F:=(· = U.size)) d rfl) λi hi=>O) (Ext.eV (F:=(· = U.size)) b rfl) λi hi=>by omega
theorem MS (n:Nat):(List.replicate n [Value.int .i64 0]).flatten=ints (List.replicate n 0):=by
 induction n with
 | zero=>rfl
 | succ n ih=>simp only[tg,vp,ih];rfl
theorem Pf (hc:c.ok){st:Nat}(hf:st+c.aF<=1024){R:Option Addr->Int->Hp->Prop}(hR:∀σ' p q,aG U σ'->U.size<=p->U.size<=q->ig σ' p q c ⟨st,List.replicate c.n false⟩->R (some ⟨p,0,none⟩) 0 σ') :
 Vf.c (st:Int) c.size c.aF c.batch U R:=by
 refine Vf.o ?_;unfold Vf.v;have G:=hc;unfold cA.ok at G;have M:=hc.kF;refine nw (cs:=[.int .i64 c.size,.int .i64 c.aF,.int .i64 c.batch]) λv L e x=>?_;refine x.rI rfl (x.rI rfl (x.rI rfl (IK _ _ _ (λg E e1 e2 H B A=>?_) λu=>?_)))
 case refine_2=>rw[(I6 c).2 hc]at u;cases u
 have:g=c:=by
  obtain⟨a,b,d⟩:=c;obtain⟨J,N,K⟩:=g;simp only at e1 e2 H
  congr 1<;>omega
 subst this;have i:=A.bV x id;refine bX.intro (cD rfl (bX.intro (gg O (i.rI rfl (cT (m:=1024-g.aF) O O (gg O ?_))))));refine⟨λy=>bZ y U.size [.int .i64 g.size,.int .i64 g.aF,.int .i64 g.batch],i,⟨_,λy w=>by rw[add_lit,w.cell];rfl,⟨_,λy w=>by rw[add_lit,w.cell];rfl,⟨_,λy w=>by rw[add_lit,w.cell];rfl,?_⟩⟩⟩⟩;refine mk O O λP D j s=>⟨j.bV i id,nw (cs:=[.int .i64 (st:Int),.int .i64 g.size,.int .i64 g.aF,.int .i64 g.batch,.slice (some ⟨B.size,0,none⟩) g.n g.n,.int .i64 0]) λv3 C r z=>⟨(j.trans r).bV i id,?_⟩⟩;rw[MS]at s;have F:=A.1;refine hR _ _ _ (((e.trans A).trans j).trans r) O (show U.size<=B.size by omega) ⟨⟨g.n,zD _,?_⟩,⟨[],?_⟩,O,by simp,hc,hf⟩
 ·have:cH.many ⟨st,List.replicate g.n false⟩=0:=by simp[cH.many,AW]
  rw[this];exact z
 ·have:nV (List.replicate g.n false)=List.replicate g.n 0:=by simp[nV]
  rw[this,kD];exact r.bV s id
end Go.Ar
namespace Go.Proofs
open Go.Vc
set_option maxRecDepth 100000
def X5.h:Hn:=.q .o1 (.q (.q .o3 .aK) (.q .o1 (.q .gC .aL)))
def X5.v (a:R2)(b:Hp)(c:Sl->Hp->Prop):Prop:=W7.c a b λd e=>If (!d) (c ⟨none,0,0⟩ e) (aV #[.slice none 0 0] 201 e λf g=>bF a 3 g λi=>Wi.c i ⟨248,#[],#[.pointer (some f)]⟩ g λj k=>bW a λl=>aR l 3 (.slice j.a j.len j.cap) k λm=>jJ f m λn=>c n m)
theorem X5.o {a b c}(d:X5.v a b c):X5.c a b c:=Wa Tryz.func185 (x:=X5.h) (R0 d)
def W7.h:Hn:=.q .o1 (.q (.cU (.seq [.op,.op,.op,.cW true 6 (RI.ops 6),.op])) .l)
def W7.v (a:R2)(b:Hp)(c:aO):Prop:=bX (λd e=>c d e) λf=>If (!a.isNone) (bW a λg=>bN ((g.add 0).add 0) b λh=>f (decide (h>0)) b) (f false b)
theorem W7.o {a b c}(d:W7.v a b c):W7.c a b c:=Wa Tryz.func197 (x:=W7.h) (R0 d)
def QI.h:Hn:=.q .o3 (.q (.q .o7 (.q .o2 .aJ)) (.q .o5 .l))
def QI.v (a b c:Int)(d:Hp)(e:Option Addr->Int->Hp->Prop):Prop:=aV #[.I a,.I b,.I c] 149 d λf g=>aQ f 0 g λh=>aQ f 1 g λi=>aQ f 2 g λj=>ZO.c h i j g λk l m=>If (l != 0) (e none 1 m) (aQ f 0 m λn=>aQ f 1 m λo=>aQ f 2 m λp=>aV #[.I n,.I o,.I p,.slice none 0 0] 274 m λq r=>e (some q) 0 r)
theorem QI.o {a b c d e}(f:QI.v a b c d e):QI.c a b c d e:=Wa Tryz.func212 (x:=QI.h) (R0 f)
def Xs.h:Hn:=.q .o2 (.q (.k (.q .o4 (.c .aL (.q .o3 .aJ)))) (.q .o1 (.q (.k (.loop [(6,.one .s)] (.q (.q .o4 (.c .l .l)) (.k (.q .o7 (.q (.q .o2 (.c .l .l)) .o5)))))) (.q .o3 .l))))
def Xs.v (a:R2)(b:Int)(c:Hp)(d:Sl->Int->Hp->Prop):Prop:=W7.c a c λe f=>If (!e) (d ⟨none,0,0⟩ 5 f) (If (b<0) (d ⟨none,0,0⟩ 1 f) (Yb [.s] (λg=>g ⟨none,0,0⟩ f) λh (i:Sl) j=>If (((i.len:Nat):Int)<b) (Zc.c a j λk l m=>If (!l) (d i 0 m) (aV #[.I k] 3 m λn o=>App i 1 8 3 [.I 0] ⟨some n,1,1⟩ o λp q=>h p q)) (d i 0 j)))
theorem Xs.o {a b c d}(e:Xs.v a b c d):Xs.c a b c d:=Wa Tryz.func233 (x:=Xs.h) (R0 e)
def Y5.h:Hn:=.q .o1 (.q (.q .o3 .aK) (.q (.o 11) (.q (.q .o2 .aJ) (.q (.q .o6 (.k (.loop [(31,.I)] (.q .o1 (.q (.c .l .l) (.q (.k (.q .o4 (.q (.oq 17) .aK))) .o2)))))) (.q (.o 11) (.q (.o 15) .aM))))))
def Y5.v (a:R2)(b:Int)(c:Hp)(d:aN):Prop:=W7.c a c λe f=>If (!e) (d 5 f) (bW a λg=>bN ((g.add 0).add 0) f λh=>bN ((g.add 0).add 1) f λi=>bN ((g.add 0).add 2) f λj=>Vf.c b h i j f λk l m=>If (l != 0) (d l m) (bF a 3 m λo=>Yb [bO] (λp=>p 0 m) λq (r:Int) s=>If (r<((o.len:Nat):Int)) (Ix o.a o.len r 3 λt=>aQ t 0 s λu=>aQ t 1 s λv=>aY t 2 s λw=>aV #[.I 0,.I 0,.pointer none] 279 s λx y=>aR x 0 (.I u) y λz=>aR x 1 (.I v) z λaa=>aR x 2 (.pointer w) aa λab=>bN ((x.add 0).add 1) ab λac=>bN ((x.add 0).add 1) ab λad=>bM ((if b>ac then b else ac)-(if b<ad then b else ad)) λae=>bW a λaf=>bN ((af.add 0).add 1) ab λag=>If (ae<ag) (d 9 ab) (bM (r+1) λah=>q ah ab)) (bF a 3 s λaj=>Wc.c aj b ⟨292,#[],#[]⟩ s λak al am=>bF a 3 am λao=>aV #[.I 0,.I b,.pointer k] 279 am λap aq=>Wl.c ao ak ⟨some ap,1,1⟩ aq λar au=>bW a λav=>aR av 3 (.slice ar.a ar.len ar.cap) au λaw=>d 0 aw)))
theorem Y5.o {a b c d}(e:Y5.v a b c d):Y5.c a b c d:=Wa Tryz.func235 (x:=Y5.h) (R0 e)
def Yc.h:Hn:=.q .o2 (.kK [] (.q .o4 (.c (.cU (.held true [6] (.tk [0,1,2] (.all [(3,.all [(4,.all [(5,.all [(6,.done)])])])])))) .l)) (.q .o5 .l))
def Yc.v (a b:Int)(c:R2)(d:Addr)(e:Hp)(f:aO):Prop:=aV #[.I a,.I b,.pointer c] 279 e λg h=>Jn [] (λi=>bN ((g.add 0).add 0) i λj=>f (j==0) i) λk=>bN ((g.add 0).add 0) h λl=>If (l==0) (dV h λm=>gK m .s d λ(n:Sl)=>aU m g 2 λo=>ZY.c o h λp q r=>And (m r) <| aV #[.I p,.I q] 268 r λs t=>And (m t) <| App n 2 16 268 [.I 0,.I 0] ⟨some s,1,1⟩ t λu v=>And (m v) <| dZ d (.slice u.a u.len u.cap) v λw=>k w) (k h)
theorem Yc.o {a b c d e f}(g:Yc.v a b c d e f):Yc.c a b c d e f:=Wa Tryz.func248 (x:=Yc.h) (R0 g)
def Y4.h:Hn:=.q .o2 (.q (.q .o3 .aJ) (.q .o1 (.q (.q .o3 (.k (.loop [(6,.one .b),(19,.I)] (.q .o1 (.q (.c .l .l) (.q (.k (.q .o5 (.q .o8 (.q (.q .o2 (.c (.q .o3 .l) .l)) (.cU (.seq [.op,.op,.cW false 2 [.op,.op],.op,.cW false 5 (RI.ops 5),.op])))))) .o2)))))) (.q (.q .o1 .aJ) (.q (.q .o3 (.k (.loop [(49,.I)] (.q .o1 (.q (.c .l .l) (.q (.k (.q .o3 (.q .o4 (.q .o6 .gC)))) .o2)))))) (.q .o4 .l))))))
def Y4.v (a:R2)(b:Sl)(c:Hp)(d:Sl->Int->Hp->Prop):Prop:=W7.c a c λe f=>If (!e) (d ⟨none,0,0⟩ 5 f) (Yb [.b,bO] (λg=>g false 0 f) λh (i:Bool) (j:Int) k=>If (j<((b.len:Nat):Int)) (Ix b.a b.len j 1 λl=>bN l k λm=>Xo.c a m k λn o p=>If (o != 0) (d ⟨none,0,0⟩ o p) (bX (λq r=>bX (λs t=>bM (j+1) λu=>h s u t) λv=>If q (v true r) (fA b 1 0 j (b.cap:Nat) λw=>Ww.c w m r λx y=>v x y)) λz=>If i (z true p) (z (!n) p))) (If i (d ⟨none,0,0⟩ 9 k) (Yb [bO] (λaa=>aa 0 k) λab (ac:Int) ad=>If (ac<((b.len:Nat):Int)) (Ix b.a b.len ac 1 λae=>bN ae ad λaf=>XW.c a af ad λag ah=>bG ag 2 ah λaj=>ZN.c aj af ah λak al=>bW ag λam=>bN ((am.add 0).add 0) al λan=>bM (an-1) λao=>bW ag λap=>dZ ((ap.add 0).add 0) (.I ao) al λaq=>bM (ac+1) λar=>ab ar aq) (X5.c a ad λau av=>d au 0 av))))
theorem Y4.o {a b c d}(e:Y4.v a b c d):Y4.c a b c d:=Wa Tryz.func267 (x:=Y4.h) (R0 e)
def Zc.h:Hn:=.q .o2 (.q .o1 (.q (.q .o6 (.k (.loop [(4,.one .p),(14,.I)] (.q .o1 (.q (.c .l .l) (.q (.k (.q .o2 (.q .o7 (.q (.cU (.gI true [] [(48,.one .b)] (.tk [0,1,2,3,4,5,6,7,8] (.all [(9,.take 10 (.take 11 (.split 34 (.take 12 (.take 13 (.take 14 (.split 37 (.take 15 (.take 16 (.take 17 (.take 18 (.take 19 (.take 20 (.take 21 (.take 22 (.take 23 (.take 24 (.take 25 (.done)))))))))))) (.take 15 (.take 16 (.take 17 (.take 19 (.take 20 (.take 21 (.all [(18,.all [(22,.all [(23,.take 24 (.take 25 (.done)))])]),(22,.all [(18,.all [(23,.take 24 (.take 25 (.done)))])])]))))))))))) (.take 12 (.take 13 (.take 14 (.take 15 (.take 16 (.take 17 (.take 18 (.take 19 (.take 20 (.take 21 (.take 22 (.take 23 (.take 24 (.take 25 (.done))))))))))))))))))])))) (.c .o2 .l))))) .o2)))))) (.q (.q .o2 .aJ) (.q .gC (.q .gC (.q .o3 .l))))))
def Zc.v (a:R2)(b:Hp)(c:Int->Bool->Hp->Prop):Prop:=bF a 3 b λe=>Yb [.p,bO] (λf=>f none 0 b) λg (h:R2) (i:Int) j=>If (i<((e.len:Nat):Int)) (bF a 3 j λl=>Ix l.a l.len i 3 λm=>Jn [.b] (λ(n:Bool) o=>If n (bM (i+1) λp=>g (some m) p o) (bM (i+1) λq=>g h q o)) λr=>dV j λs=>bW (some m) λt=>gK s bO ((t.add 0).add 0) λ(u:Int)=>bW (some m) λv=>aU s v 2 λw=>YC.c w j λx y=>And (s y) <| If (u<x) (If h.isNone (r true y) (bW (some m) λz=>bW h λaa=>(bN ((z.add 0).add 0) y λab=>bN ((z.add 0).add 1) y λac=>And (s y) <| bN ((aa.add 0).add 0) y λad=>bN ((aa.add 0).add 1) y λae=>And (s y) <| Xl.c ab ac ad ae y λaf ag=>And (s ag) <| r af ag) ∧ (bN ((aa.add 0).add 0) y λah=>bN ((aa.add 0).add 1) y λai=>And (s y) <| bN ((z.add 0).add 0) y λaj=>bN ((z.add 0).add 1) y λak=>And (s y) <| Xl.c aj ak ah ai y λal am=>And (s am) <| r al am))) (r false y)) (If h.isNone (c 0 false j) (bG h 2 j λao=>ZI.c ao j λap aq ar=>bW h λau=>bN ((au.add 0).add 0) ar λav=>bM (av+1) λaw=>bW h λax=>dZ ((ax.add 0).add 0) (.I aw) ar λay=>c ap true ay))
theorem Zc.o {a b c}(d:Zc.v a b c):Zc.c a b c:=Wa Tryz.func285 (x:=Zc.h) (R0 d)
def YT.h:Hn:=.q .o2 (.q .o6 .l)
def YT.v (a b:Int)(c:R2)(d:Int)(e:Hp)(f:aN):Prop:=aV #[.I a,.I b,.pointer c] 279 e λg h=>bN ((g.add 0).add 1) h λi=>bM (i-d) λj=>f j h
theorem YT.o {a b c d e f}(g:YT.v a b c d e f):YT.c a b c d e f:=Wa Tryz.func292 (x:=YT.h) (R0 g)
def YE.h:Hn:=.q .o2 (.q (.q .o3 .aJ) (.q .o4 (.q (.q .o2 .aJ) (.q (.o 11) (.q (.oq 16) .l)))))
def YE.v (a:R2)(b:Int)(c:Hp)(d:Int->Int->Hp->Prop):Prop:=W7.c a c λe f=>If (!e) (d 0 5 f) (XW.c a b f λg h=>If g.isNone (d 0 8 h) (bG g 2 h λj=>Yf.c j b h λk l m=>bW g λn=>bN ((n.add 0).add 1) m λo=>bM (o*256) λp=>bW a λq=>bN ((q.add 0).add 0) m λr=>bM (k*r) λs=>bM (p+s) λt=>d t 0 m))
theorem YE.o {a b c d}(e:YE.v a b c d):YE.c a b c d:=Wa Tryz.func296 (x:=YE.h) (R0 e)
def Xo.h:Hn:=.q .o2 (.q (.q .o3 .aJ) (.q .o4 (.q (.q .o2 .aJ) (.q .gC .l))))
def Xo.v (a:R2)(b:Int)(c:Hp)(d:Bool->Int->Hp->Prop):Prop:=W7.c a c λe f=>If (!e) (d false 5 f) (XW.c a b f λg h=>If g.isNone (d false 8 h) (bG g 2 h λj=>YD.c j b h λk l m=>d k l m))
theorem Xo.o {a b c d}(e:Xo.v a b c d):Xo.c a b c d:=Wa Tryz.func299 (x:=Xo.h) (R0 e)
def XW.h:Hn:=.q .o1 (.q (.q .o6 (.k (.loop [(13,.I)] (.q .o1 (.q (.c .l .l) (.q (.k (.q .o2 (.q (.o 15) (.q .o2 (.c (.q .o7 .l) .l))))) .o2)))))) .aM)
def XW.v (a:R2)(b:Int)(c:Hp)(d:Option Addr->Hp->Prop):Prop:=bF a 3 c λf=>Yb [bO] (λg=>g 0 c) λh (i:Int) j=>If (i<((f.len:Nat):Int)) (bF a 3 j λl=>Ix l.a l.len i 3 λm=>aY m 2 j λn=>Yf.c n b j λo p q=>If (p==0) (bF a 3 q λs=>Ix s.a s.len i 3 λt=>d (some t) q) (bM (i+1) λu=>h u q)) (d none j)
theorem XW.o {a b c d}(e:XW.v a b c d):XW.c a b c d:=Wa Tryz.func310 (x:=XW.h) (R0 e)
def Xl.h:Hn:=.q .o3 (.q (.cU (.seq [.op,.op,.op,.op,.op,.op,.cW false 12 [.op,.op,.op,.op,.op,.op,.cW true 5 (RI.ops 5)],.op])) .l)
def Xl.v (a b c d:Int)(e:Hp)(f:aO):Prop:=aV #[.I a,.I b] 276 e λg h=>aV #[.I c,.I d] 276 h λi j=>aQ g 0 j λk=>aQ i 0 j λl=>bX (λm n=>f m n) λo=>If (k>l) (o true j) (aQ g 0 j λp=>aQ i 0 j λq=>bX (λr s=>o r s) λt=>If (p==q) (aQ g 1 j λu=>aQ i 1 j λv=>t (decide (u<v)) j) (t false j))
theorem Xl.o {a b c d e f}(g:Xl.v a b c d e f):Xl.c a b c d e f:=Wa Tryz.func315 (x:=Xl.h) (R0 g)
end Go.Proofs
namespace Go.Ar
open Go Go.Vc Go.Proofs
variable {U:Hp}{F:Rg}{p:Nat}{c:cA}{ps:List (Nat×Nat)}{ss:List cH}
def eD (ps:List (Nat×Nat)):List Nat:=ps.flatMap λx=>[x.1,x.2]
theorem HL {ps:List (Nat×Nat)}{b:Nat}:b∈eD ps↔∃x∈ps,b=x.1\/b=x.2:=by simp[eD]
def dT:List (Nat×Nat)->List cH->List Value
 | x::ps,s::ss=>.int .i64 (s.many:Int) :: .int .i64 (s.st:Int) :: .pointer (some ⟨x.1,0,none⟩)::dT ps ss
 | _,_=>[]
theorem KA:∀{ps:List (Nat×Nat)} {ss:List cH},ps.length=ss.length->(dT ps ss).length=3*ss.length
 | [],[],_=>rfl
 | x::ps,s::ss,h=>by simp only[dT,zS]at *;rw[KA O];omega
theorem Kj:∀{ps:List (Nat×Nat)} {ss:List cH} {i:Nat} {x:Nat×Nat} {s:cH},ps[i]?=some x->ss[i]?=some s →
 (dT ps ss)[3*i]?=some (.int .i64 (s.many:Int))/\(dT ps ss)[3*i+1]?=some (.int .i64 (s.st:Int))/\(dT ps ss)[3*i+2]?=some (.pointer (some ⟨x.1,0,none⟩))
 | [],_,_,_,_,h,_=>by simp at h
 | _::_,[],_,_,_,_,h=>by simp at h
 | y::ps,t::ss,0,x,s,h1,h2=>by simp at h1 h2;subst h1;subst h2;simp[dT]
 | y::ps,t::ss,i+1,x,s,h1,h2=>by
  have:=Kj (ps:=ps) (ss:=ss) (i:=i) (by simpa using h1) (by simpa using h2);simp only[dT];rw[show 3*(i+1)=3*i+3 by omega];simpa using this
theorem VJ:∀{ps ps':List (Nat×Nat)} {ss ss':List cH},ps.length=ss.length->dT (ps++ps') (ss++ss')=dT ps ss++dT ps' ss'
 | [],_,[],_,_=>rfl
 | x::ps,_,s::ss,_,h=>by simp only[lN,dT,VJ (ps:=ps) (ss:=ss) (by simpa using h)]
theorem Fe:∀{ps:List (Nat×Nat)} {ss:List cH},∀v∈dT ps ss,dU v=true
 | [],_,v,h=>by simp[dT]at h
 | _::_,[],v,h=>by simp[dT]at h
 | x::ps,s::ss,v,h=>by
  simp only[dT,zW]at h;rcases h with rfl|rfl|rfl|h
  ·rfl
  ·rfl
  ·rfl
  ·exact Fe v h
structure fH (U:Hp) (F:Rg) (p:Nat) (c:cA) (ps:List (Nat×Nat)) (ss:List cH):Prop where
 hd:∃sl:Sl,bZ U p [.int .i64 (c.size:Int),.int .i64 (c.aF:Int),.int .i64 (c.batch:Int),.slice sl.a sl.len sl.cap]/\bS sl 3 (dT ps ss) U (λb=>F b/\b≠p/\b∉eD ps)
 sp:∀(i:Nat) (x:Nat×Nat) s,ps[i]?=some x->ss[i]?=some s->ig U x.1 x.2 c s
 fp:F p
 fb:∀b∈eD ps,F b
 nd:(p::eD ps).Nodup
 len:ps.length=ss.length
 ok:c.ok
 q9:ss.Pairwise (λa b=>a.st<b.st)
theorem fH.loc:dN λU F=>fH U F p c ps ss:=λU B F G h D m=>by
 obtain⟨sl,a,z⟩:=h.hd;have bT:∀b,b<U.size->F b->B[b]?=U[b]? := λb a d=>(m b a d).2;have A:∀{b:Nat} {cs:List Value},bZ U b cs->F b->bZ B b cs:=by
  rintro b cs ⟨e,C⟩ d;exact⟨e,(bT b (bZ.lt ⟨e,C⟩) d).trans C⟩
 have lt:∀b∈eD ps,b<U.size:=by
  intro b a;obtain⟨x,j,u⟩:=HL.1 a;obtain⟨i,hi⟩:=zP j;have y:=(cY.1 hi).1;have:=(h.sp i x _ hi (cX (by rw[←h.len];exact y))).lt;rcases u with rfl|rfl
  ·exact this.1
  ·exact this.2
 refine⟨⟨sl,A a h.fp,bS.loc _ _ _ _ _ _ _ z D λb a d=>⟨⟨(m b a d.1).1,d.2⟩,(m b a d.1).2⟩⟩,λi x s j w=>?_,(m p a.lt h.fp).1,λb a=>(m b (lt b a) (h.fb b a)).1,h.nd,h.len,h.ok,h.q9⟩;have g:=h.sp i x s j w;have E:x.1∈eD ps:=HL.2 ⟨x,zG j,.inl rfl⟩;have H:x.2∈eD ps:=HL.2 ⟨x,zG j,.inr rfl⟩;obtain⟨K,J,hd⟩:=g.hd;obtain⟨r,z⟩:=g.row;exact⟨⟨K,J,A hd (h.fb _ E)⟩,⟨r,A z (h.fb _ H)⟩,g.ne,g.len,g.ok,g.fit⟩
theorem fH.bP {σ':Hp}(h:fH U F p c ps ss)(e:aG U σ'):fH σ' F p c ps ss:=dN.bP fH.loc h e
theorem fH.qN (h:fH U F p c ps ss):ss.length<=1024:=by
 have key:∀i (hi:i<ss.length),i<=ss[i].st:=by
  intro i
  induction i with
  | zero=>intro _;omega
  | succ i ih=>
   intro hi;have g:=ih O;have d:=my.1 h.q9 i (i+1) O hi O;omega
 rcases Cr ss.length with h0|h0
 ·omega
 ·have a:ss.length-1<ss.length:=by omega
  have g:=key _ a;have b:ss.length-1<ps.length:=by rw[h.len];exact a
  have d:=(h.sp _ _ _ (cX b) (cX a)).fit;have:=h.ok.2.2.2.1;omega
structure s7 (U:Hp) (F:Rg) (p:Nat) (ps:List (Nat×Nat)) (ss:List cH) (sl:Sl) (rb:Nat) (cs:List Value):Prop where
 a:sl.a=some ⟨rb,0,none⟩
 bV:bZ U rb cs
 fr:F rb/\rb≠p/\rb∉eD ps
 get:∀{j:Nat} {v:Value},(dT ps ss)[j]?=some v->cs[j]?=some v
 Be:3*ss.length<=cs.length
theorem fH.sl (h:fH U F p c ps ss):∃sl:Sl,bZ U p [.int .i64 (c.size:Int),.int .i64 (c.aF:Int),.int .i64 (c.batch:Int),.slice sl.a sl.len sl.cap]/\sl.len=ss.length/\(ss≠[]->∃rb cs,s7 U F p ps ss sl rb cs):=by
 obtain⟨sl,r,m⟩:=h.hd;have s:=m.1;rw[KA h.len]at s;refine⟨sl,r,O,λg=>?_⟩;have i:0<ss.length:=py.2 g;rcases m.2 with⟨h0,_⟩|⟨b,cs,hq,ha,hbb,hle,hcl,ht⟩
 ·omega
 ·refine⟨b,cs,ha,hbb,hq,λ{j v} d=>?_,?_⟩
  ·rw[←ht,zl]at d;split at d
   ·exact d
   ·cases d
  ·have:=congrArg List.length ht;rw[zY,KA h.len]at this;omega
theorem fH.jK (h:fH U F p c ps ss){i:Nat}(hi:i<ss.length):∃x s,ps[i]?=some x/\ss[i]?=some s/\ig U x.1 x.2 c s:=by
 have a:i<ps.length:=by rw[h.len];exact hi
 have b:ps[i]?=some ps[i]:=cX a;exact⟨_,_,b,cX hi,h.sp i _ _ b (cX hi)⟩
theorem Ui (h:fH U F p c ps ss){R:aO}(hR:R true U):W7.c (aW p) U R:=by
 refine W7.o ?_;unfold W7.v;obtain⟨sl,b,g,d⟩:=h.sl;have a:=h.ok;unfold cA.ok at a;refine bX.intro (cF rfl (bL (b.fM rfl ?_)));rw[zI O];exact hR
def iN (x:Int):Prop:=x<=9223372036854775807
theorem B9 (h:fH U F p c ps ss)(x:Int)(hx:iN x){R:Option Addr->Hp->Prop}(h0:kU c ss x=none->R none U)
 (h1:∀(i:Nat) sl rb cs,kU c ss x=some i->i<ss.length->bZ U p [.int .i64 (c.size:Int),.int .i64 (c.aF:Int),.int .i64 (c.batch:Int),.slice sl.a sl.len sl.cap]->s7 U F p ps ss sl rb cs->R (some ⟨rb,3*i,none⟩) U):XW.c (aW p) x U R:=by
 refine XW.o ?_;unfold XW.v;obtain⟨sl,A,Q,N⟩:=h.sl;have D:=h.qN;refine bL (A.rS rfl ?_);refine Qp (a:=bO) (λ(t:Int) G=>∃i:Nat,t=(i:Int)/\i<=ss.length/\G=U/\∀(j:Nat) s,j<i->ss[j]?=some s->idx c s x=none) (λt _=>ss.length-t.toNat) ⟨0,rfl,O,rfl,λj s z=>O⟩ ?_;rintro t G ⟨i,rfl,hi,rfl,g⟩;refine cP (λB=>?_) λC=>?_
 ·simp only at B;have b:i<ss.length:=by omega
  obtain⟨K,s,J,y,L⟩:=h.jK b;obtain⟨rb,cs,E⟩:=N (by rintro rfl;simp at b);have H:=Kj J y;refine bL (A.rS rfl ?_);rw[E.a];refine ix O O ?_;rw[add_lit];refine E.bV.rP (x:=some ⟨K.1,0,none⟩) ?_ ?_
  ·have:=E.get H.2.2;rw[show 0+(i:Int).toNat*3+2=3*i+2 by omega];exact this
  have d:∀r,idx c s x=some r->kU c ss x=some i:=by
   intro r w;refine nE.2 ⟨b,?_,λj z=>?_⟩
   ·have:ss[i]=s:=by rw[cX b]at y;simpa using y
    rw[this,w];rfl
   ·rw[g j _ z (cX O)];simp
  refine CJ L x hx (λr w=>cF rfl (bL (A.rS rfl ?_))) λM=>cD rfl ?_
  ·rw[E.a];refine ix O O ?_;rw[add_lit,show 0+(i:Int).toNat*3=3*i by omega];exact h1 i sl rb cs (d r w) b A E
  ·refine cT (m:=i+1) O O ⟨⟨i+1,rfl,O,rfl,λj P z u=>?_⟩,O⟩;by_cases e:j=i
   ·subst e;rw[y]at u;cases u;exact M
   ·exact g j P O u
 ·refine h0 ?_;refine vC.2 λs y=>?_;obtain⟨j,z⟩:=zP y;have:=(cY.1 z).1;rw[g j s (by simp only at C;omega) z];rfl
theorem V8 {x:Int}{k:Nat}{s:cH}(hk:kU c ss x=some k)(hs:ss[k]?=some s):eH c ss x=(obj c s x).map s.is:=by
 unfold eH;rw[hk];simp only[hs];rfl
theorem Cs {x:Int}(hk:kU c ss x=none):eH c ss x=none:=by unfold eH;rw[hk]
theorem FY (h:fH U F p c ps ss)(x:Int)(hx:iN x){R:Bool->Int->Hp->Prop}(h1:∀b,eH c ss x=some b->R b 0 U)(h0:eH c ss x=none->R false 8 U):Xo.c (aW p) x U R:=by
 refine Xo.o ?_;unfold Xo.v;refine Ui h (cD rfl (B9 h x hx (λa=>cF rfl (h0 (Cs a))) λi sl C B d hi A E=>cD rfl (bL ?_)));obtain⟨u,s,r,m,y⟩:=h.jK hi;have w:=Kj r m;refine E.bV.rP (x:=some ⟨u.1,0,none⟩) (E.get w.2.2) ?_;have g:=V8 d m;exact Rl y x hx (λj z=>h1 _ (by rw[g,z];rfl)) λa=>h0 (by rw[g,a];rfl)
theorem Gq {x:Int}{k:Nat}{s:cH}(hk:kU c ss x=some k)(hs:ss[k]?=some s):rJ c ss x=(idx c s x).map (at_ c s):=by
 unfold rJ;rw[hk];simp only[hs]
theorem Jh {x:Int}(hk:kU c ss x=none):rJ c ss x=none:=by unfold rJ;rw[hk]
theorem M0 {x:Int}{k:Nat}{s:cH}(hk:kU c ss x=some k)(hs:ss[k]?=some s):∃i,idx c s x=some i:=by
 obtain⟨hi,a,_⟩:=nE.1 hk;have:ss[k]=s:=by rw[cX hi]at hs;simpa using hs
 rw[this]at a;exact pw.1 a
theorem RX (h:fH U F p c ps ss)(x:Int)(hx:iN x){R:Int->Int->Hp->Prop}(h1:∀a,rJ c ss x=some a->R (a:Int) 0 U)(h0:rJ c ss x=none->R 0 8 U):YE.c (aW p) x U R:=by
 refine YE.o ?_;unfold YE.v;refine Ui h (cD rfl (B9 h x hx (λb=>cF rfl (h0 (Jh b))) λi sl K J d hi H E=>cD rfl (bL ?_)));obtain⟨D,s,C,u,y⟩:=h.jK hi;have z:=Kj C u;obtain⟨r,j⟩:=M0 d u;have G:=Gq d u;have B:=h.ok;unfold cA.ok at B;have w:=((Uj O).1 j).2.2;rw[y.len]at w;have b:=h.ok.kF;have A:=y.fit;have M:r*c.size<=128*512:=mo O O;refine E.bV.rP (x:=some ⟨D.1,0,none⟩) (E.get z.2.2) ?_;refine CJ y x hx (λL g=>?_) λb=>by rw[j]at b;cases b
 rw[j]at g;cases g;refine bL (E.bV.fM (x:=s.st) (E.get z.2.1) (cT (m:=s.st*256) aA O (bL (H.fM rfl ?_))));refine cT (m:=r*c.size) aA O (cT (m:=at_ c s r) (by simp[at_]) (by unfold at_;omega) (h1 _ (by rw[G,j];rfl)))
theorem wG {h:Hp}{rb i:Nat}{cs:List Value}{x y:Int}{z:Option Addr}{e:Nat}(hb:bZ h rb cs)(h0:cs[3*i]?=some (.int .i64 x))(h1:cs[3*i+1]?=some (.int .i64 y))(h2:cs[3*i+2]?=some (.pointer z))
 {K:Int->Int->Option Addr->Prop} (hK:K x y z):gN .i64 (Addr.add ⟨rb,3*i,none⟩ 0) h λu=>gN .i64 (Addr.add ⟨rb,3*i,none⟩ 1) h λv=>fY (Addr.add ⟨rb,3*i,none⟩ 2) h λw=>K u v w:=
 hb.rI h0 (hb.rI h1 (hb.rP h2 hK))
theorem Fj {h:Hp}{x y:Int}{z:Option Addr}{e:Nat}{K:Addr->Hp->Prop}(hK:∀h',aG h h'->bZ h' h.size [.int .i64 x,.int .i64 y,.pointer z]->K ⟨h.size,0,none⟩ h') :
 Nw (.cells #[.int .i64 0,.int .i64 0,.pointer none] e (0,0)) h λn v=>dZ (n.add 0) (.int .i64 x) v λv1=>dZ (n.add 1) (.int .i64 y) v1 λv2=>dZ (n.add 2) (.pointer z) v2 λv3=>K n v3:=by
 refine nw (cs:=[.int .i64 0,.int .i64 0,.pointer none]) λv j e d=>d.s1 aA λv1 o1 a=>a.s1 aA λv2 o2 g=>g.s1 aA λv3 o3 b=>?_;refine hK v3 ?_ b;exact Ext.fresh (Ext.fresh (Ext.fresh e o1.ext λi hi=>O) o2.ext λi hi=>O) o3.ext λi hi=>by omega
def iU (c:cA)(l:List Nat):List Value:=l.flatMap λ(s:Nat)=>[.int .i64 (s:Int),.int .i64 (c.aF:Int)]
theorem M8 (c:cA)(l:List Nat):(iU c l).length=2*l.length:=by
 induction l with
 | nil=>rfl
 | cons x l ih=>simp only[iU,pE,zK,zS,k9]at *;omega
theorem RZ (hc:c.ok){R:Option Addr->Int->Hp->Prop}(hR:∀σ' p,aG U σ'->U.size<=p->p<σ'.size->fH σ' (· = p) p c [] []->R (some ⟨p,0,none⟩) 0 σ'):QI.c c.size c.aF c.batch U R:=by
 refine QI.o ?_;unfold QI.v;refine nw (cs:=[.int .i64 c.size,.int .i64 c.aF,.int .i64 c.batch]) λv w e d=>?_;refine d.rI rfl (d.rI rfl (d.rI rfl (IK _ _ _ (λs r e1 e2 y x i=>?_) λb=>?_)))
 case refine_2=>rw[(I6 c).2 hc]at b;cases b
 have a:=i.bV d id;refine cD rfl (a.rI rfl (a.rI rfl (a.rI rfl (nw (cs:=[.int .i64 c.size,.int .i64 c.aF,.int .i64 c.batch,.slice none 0 0]) λu m g j=>?_))));exact hR _ _ ((e.trans i).trans g) (by have:=i.1;omega) O ⟨⟨⟨none,0,0⟩,j,bS.nil _ _ _ _⟩,by simp,rfl,by simp[eD],by simp[eD],rfl,hc,by simp⟩
theorem LQ (a b a' b':Nat){R:aO}(hR:∀σ',aG U σ'->R (decide (a>a')||(a==a'&&decide (b<b'))) σ'):Xl.c (a:Int) (b:Int) (a':Int) (b':Int) U R:=by
 refine Xl.o ?_;unfold Xl.v;refine nw (cs:=[.int .i64 a,.int .i64 b]) λv r e m=>nw (cs:=[.int .i64 a',.int .i64 b']) λs p e1 i=>?_;have g:=e1.bV m id;have d:=hR _ (e.trans e1);refine g.rI rfl (i.rI rfl (bX.intro (cP (λh=>?_) λh=>?_)))
 ·have:decide (a>a')=true:=by simpa using h
  rw[this,Bool.true_or]at d;exact d
 ·have:decide (a>a')=false:=by simpa using h
  rw[this,yl]at d;refine g.rI rfl (i.rI rfl (bX.intro ?_));rw[mi];refine cN (λj=>?_) λj=>?_
  ·rw[j,qU]at d;refine g.rI rfl (i.rI rfl ?_);have:decide ((b:Int)<(b':Int))=decide (b<b'):=by rw[decide_eq_decide];omega
   rw[this];exact d
  ·rw[j,vN]at d;exact d
theorem Kl:∀{i k:Nat},Zw ss i=some k->k<i/\∃s,ss[k]?=some s/\s.many<s.tk.length
 | 0,_,h=>by simp[Zw]at h
 | i+1,k,h=>by
  have up:Zw ss i=some k->k<i+1/\∃s,ss[k]?=some s/\s.many<s.tk.length:=λh=>by
   have:=Kl h;exact⟨O,this.2⟩
  simp only[Zw]at h;split at h
  ·rename_i x hx;split at h
   ·rename_i hlt;have a:i<i+1/\∃s,ss[i]?=some s/\s.many<s.tk.length:=⟨O,x,hx,hlt⟩;split at h
    ·rename_i j hj;split at h
     ·split at h
      ·cases h;exact a
      ·cases h;exact up hj
     ·cases h;exact a
    ·cases h;exact a
   ·exact up h
  ·exact up h
theorem Ag {s:cH}(h:s.many<s.tk.length):∃i,low s=some i/\i<s.tk.length/\s.is i=false:=by
 unfold low;cases hf:s.tk.findIdx? (· == false)with
 | some i=>
  obtain⟨hi,a,_⟩:=nE.1 hf;refine⟨i,rfl,hi,?_⟩;have:s.tk[i]=false:=by simpa using a
  simp[cH.is,zQ,cX hi,this]
 | none=>
  exfalso;have b:=vC.1 hf;have:s.many=s.tk.length:=by
   unfold cH.many;rw[List.count_eq_length];intro x hx;have:=b x hx;cases x
   ·simp at this
   ·rfl
  omega
theorem Jt:∀{ps:List (Nat×Nat)} {ss:List cH} {k:Nat} {s s':cH},ps.length=ss.length->ss[k]?=some s->s'.st=s.st->dT ps (ss.set k s')=(dT ps ss).set (3*k) (.int .i64 (s'.many:Int))
 | [],[],_,_,_,_,h,_=>by simp at h
 | [],_::_,_,_,_,h,_,_=>by simp at h
 | _::_,[],_,_,_,_,h,_=>by simp at h
 | x::ps,t::ss,0,s,s',_,h,e=>by simp at h;subst h;simp[dT,e]
 | x::ps,t::ss,k+1,s,s',hl,h,e=>by
  simp only[sk,dT];rw[Jt (ps:=ps) (ss:=ss) (s:=s) (by simpa using hl) (by simpa using h) e];rw[show 3*(k+1)=3*k+1+1+1 by omega];simp
theorem γ {h:Hp}{b:Nat}{cs cs':List Value}(h1:bZ h b cs)(h2:bZ h b cs'):cs=cs':=by
 obtain⟨e,d⟩:=h1;obtain⟨g,a⟩:=h2;rw[d]at a;simp only[Option.some.injEq,Obj.cells.injEq]at a;simpa using congrArg Array.toList a.1
theorem QX {x:Nat×Nat}{i:Nat}(hx:ps[i]?=some x):x.1∈eD ps/\x.2∈eD ps:=
 ⟨HL.2 ⟨x,zG hx,.inl rfl⟩,HL.2 ⟨x,zG hx,.inr rfl⟩⟩
theorem IY:∀{ps:List (Nat×Nat)},(eD ps).Nodup->∀{i j:Nat} {x y:Nat×Nat},ps[i]?=some x->ps[j]?=some y->i≠j->∀b,(b=x.1\/b=x.2)->¬(b=y.1\/b=y.2)
 | [],_,_,_,_,_,h,_,_=>by simp at h
 | z::ps,hn,i,j,x,y,h1,h2,hij=>by
  have hn':z.1∉eD ps/\z.2∉eD ps/\z.1≠z.2/\(eD ps).Nodup:=by
   simp only[eD,pE,lN,tu,zr,zW,not_or]at hn;exact⟨hn.1.2,hn.2.1,hn.1.1,hn.2.2⟩
  intro b hb hb'
  match i,j,hij with
  | 0,0,h=>exact h rfl
  | 0,j+1,_=>
   simp at h1;subst h1;have:=QX (ps:=ps) (i:=j) (by simpa using h2);rcases hb with rfl|rfl<;>rcases hb' with e|e<;>rw[e]at hn'<;>simp[this]at hn'
  | i+1,0,_=>
   simp at h2;subst h2;have:=QX (ps:=ps) (i:=i) (by simpa using h1);rcases hb with rfl|rfl<;>rcases hb' with e|e<;>rw[←e]at hn'<;>simp[this]at hn'
  | i+1,j+1,h=>exact IY hn'.2.2.2 (by simpa using h1) (by simpa using h2) O b hb hb'
theorem fH.pG (h:fH U F p c ps ss){k:Nat}{x:Nat×Nat}{s s':cH}(hx:ps[k]?=some x)(hs:ss[k]?=some s)(hst:s'.st=s.st){σ1:Hp}(e1:Ext (λb=>b=x.1\/b=x.2) U σ1)(hS:ig σ1 x.1 x.2 c s')
 {sl:Sl} {rb:Nat} {cs:List Value} (hb:bZ U p [.int .i64 (c.size:Int),.int .i64 (c.aF:Int),.int .i64 (c.batch:Int),.slice sl.a sl.len sl.cap]) (E:s7 U F p ps ss sl rb cs)
 {K:aP} (hK:∀σ2,Ext F U σ2->fH σ2 F p c ps (ss.set k s')->K σ2):dZ ⟨rb,3*k,none⟩ (.int .i64 (s'.many:Int)) σ1 K:=by
 obtain⟨np,D,P⟩:=h.hd;have B:np=sl:=by
  have:=γ D hb;simp at this;obtain⟨a,n,c⟩:=sl;obtain⟨S,Q,V⟩:=np;simp at this ⊢;exact this
 subst B;have m:=QX hx;have g:=h.nd;simp only[zr]at g;have z:=(cY.1 hs).1;have C:=(bS.loc np 3 (dT ps ss)).bT P e1 λb hb N=>λd=>N.2.2 (by rcases d with rfl|rfl;exact m.1;exact m.2);have J:=e1.bV hb λd=>g.1 (by rcases d with h|h<;>rw[h];exact m.1;exact m.2)
 refine C.st (j:=3*k) (by rw[KA h.len];omega) (λb u=>by rw[E.a]at u;cases u;rfl) λσ2 e2 G=>?_;have H:Ext F U σ2:=(e1.sub λi hi=>h.fb i (by rcases hi with rfl|rfl;exact m.1;exact m.2)).trans (e2.sub λi hi=>hi.1);refine hK σ2 H ⟨⟨np,e2.bV J λd=>d.2.1 rfl,?_⟩,λi y t r A=>?_,h.fp,h.fb,h.nd,by simpa using h.len,h.ok,?_⟩
 ·rw[Jt h.len hs hst];exact G
 ·have w:=QX r;have k2:ig σ1 y.1 y.2 c t:=by
   by_cases hik:i=k
   ·subst hik;rw[hx]at r;cases r;rw[zO z]at A;cases A;exact hS
   ·rw[zh (Ne.symm hik)]at A;have L:=IY g.2 r hx hik;exact(h.sp i y t r A).bT e1 (L _ (.inl rfl)) (L _ (.inr rfl))
  exact k2.bT e2 (λd=>d.2.2 w.1) (λd=>d.2.2 w.2)
 ·have:(ss.set k s').map (·.st)=ss.map (·.st):=by
   apply zt;intro i;simp only[za];by_cases hik:i=k
   ·subst hik;rw[zO z,hs];simp[hst]
   ·rw[zh (Ne.symm hik)]
  have M:=h.q9;rw[←sv (f:=cH.st) (R:=(· < ·))]at M ⊢;rw[this];exact M
theorem SD (h:fH U F p c ps ss){R:Int->Bool->Hp->Prop}(h1:∀x ss',jj c ss=some (x,ss')->∀σ',Ext F U σ'->fH σ' F p c ps ss'->R (x:Int) true σ')(h0:jj c ss=none->∀σ',aG U σ'->R 0 false σ') :
 Zc.c (aW p) U R:=by
 refine Zc.o ?_;unfold Zc.v;obtain⟨sl,hb,hl,hr⟩:=h.sl;have hfew:=h.qN;have hn:=h.ok.kF;obtain⟨d,cs,E⟩:∃d cs,ss≠[]->s7 U F p ps ss sl d cs:=by
  by_cases hne:ss=[]
  ·exact⟨0,[],λh=>absurd hne h⟩
  ·obtain⟨d,cs,E⟩:=hr hne;exact⟨d,cs,λ_=>E⟩
 refine bL (hb.rS rfl ?_);refine UD (a:=.p) (bb:=bO) (λ(iP:Option Addr) (t:Int) H=>∃i:Nat,t=(i:Int)/\i<=ss.length/\aG U H/\iP=(Zw ss i).map λk=>⟨d,3*k,none⟩) (λ_ t _=>ss.length-t.toNat) ⟨0,rfl,O,Ext.refl _ _,rfl⟩ ?_;rintro iP t H ⟨i,rfl,hi,e,rfl⟩;refine cP (λad=>?_) λaa=>?_
 ·simp only at ad;have K:i<ss.length:=by omega
  have E:=E (by rintro rfl;simp at K);obtain⟨P,s,L,G,A⟩:=h.jK K;have w:=Kj L G;have Q:=A.len;refine bL ((e.bV hb id).rS rfl ?_);rw[E.a];refine ix O O ?_;rw[add_lit,show 0+(i:Int).toNat*3=3*i by omega];have Eb:=e.bV E.bV id;have C:Zw ss (i+1)=if s.many<s.tk.length then(match Zw ss i with
   | some j=>match ss[j]? with
    | some y=>if GR s y then some i else some j
    | none=>some i
   | none=>some i)else Zw ss i:=by
   simp only[Zw,G];rfl
  have J:∀(r:Bool) (v:Hp),aG U v->(if r then some i else Zw ss i)=Zw ss (i+1) →
   If r (Ar .i64 ((i:Int)+1) λb=>(∃j:Nat,b=(j:Int)/\j<=ss.length/\aG U v/\some (⟨d,3*i,none⟩:Addr)=(Zw ss j).map λk=>⟨d,3*k,none⟩)/\ss.length-b.toNat<ss.length-(i:Int).toNat)
    (Ar .i64 ((i:Int)+1) λb=>(∃j:Nat,b=(j:Int)/\j<=ss.length/\aG U v/\((Zw ss i).map λk=>(⟨d,3*k,none⟩:Addr))=(Zw ss j).map λk=>⟨d,3*k,none⟩)/\ss.length-b.toNat<ss.length-(i:Int).toNat):=by
   intro r v ev hr';cases r
   ·refine cD rfl (cT (m:=i+1) O O ⟨⟨i+1,rfl,O,ev,?_⟩,O⟩);rw[←hr'];rfl
   ·refine cF rfl (cT (m:=i+1) O O ⟨⟨i+1,rfl,O,ev,?_⟩,O⟩);rw[←hr'];rfl
  refine Jn.intro ⟨λD=>bZ D d cs,Eb,bL ⟨_,λD A=>by rw[add_lit,add_lit,A.cell];exact E.get w.1,bL ⟨_,λD A=>by rw[add_lit,A.cell];exact E.get w.2.2,?_⟩⟩⟩;refine MB (A.bP e) ⟨Eb,?_⟩;refine cP (λhlt2=>?_) λhge2=>?_
  ·have hm:s.many<s.tk.length:=by omega
   rw[zC hm]at C;cases hbf:Zw ss i with
   | none=>
    rw[hbf]at C J;exact cF rfl (J true H e C.symm)
   | some j=>
    rw[hbf]at C J;obtain⟨hji,y,hy,hym⟩:=Kl hbf;simp only[hy]at C;have X:j<ps.length:=by rw[h.len];omega
    have z:=Kj (cX X) hy;have fin:Xl.c (s.many:Int) (s.st:Int) (y.many:Int) (y.st:Int) H λab v3=>bZ v3 d cs ∧
     If ab (Ar .i64 ((i:Int)+1) λb=>(∃j:Nat,b=(j:Int)/\j<=ss.length/\aG U v3/\some (⟨d,3*i,none⟩:Addr)=(Zw ss j).map λk=>⟨d,3*k,none⟩)/\ss.length-b.toNat<ss.length-(i:Int).toNat)
      (Ar .i64 ((i:Int)+1) λb=>(∃j':Nat,b=(j':Int)/\j'<=ss.length/\aG U v3/\((some j).map λk=>(⟨d,3*k,none⟩:Addr))=(Zw ss j').map λk=>⟨d,3*k,none⟩)/\ss.length-b.toNat<ss.length-(i:Int).toNat):=by
     refine LQ _ _ _ _ λv3 e3=>⟨e3.bV Eb id,J _ v3 (e.trans e3) ?_⟩;rw[C];rfl
    refine cD rfl (bL (bL ⟨?_,?_⟩))
    ·exact Eb.fM (E.get w.1) (Eb.fM (E.get w.2.1) ⟨Eb,Eb.fM (E.get z.1) (Eb.fM (E.get z.2.1) ⟨Eb,fin⟩)⟩)
    ·exact Eb.fM (E.get z.1) (Eb.fM (E.get z.2.1) ⟨Eb,Eb.fM (E.get w.1) (Eb.fM (E.get w.2.1) ⟨Eb,fin⟩)⟩)
  ·have hm:¬s.many<s.tk.length:=by omega
   rw[zB hm]at C;exact J false H e C.symm
 ·have S:i=ss.length:=by simp only at aa;omega
  subst S;cases hbf:Zw ss ss.length with
  | none=>
   refine cF rfl (h0 ?_ _ e);simp[jj,iP,hbf]
  | some k=>
   obtain⟨hk,s,G,W⟩:=Kl hbf;have E:=E (by rintro rfl;simp at hk);obtain⟨P,s',L,M,A⟩:=h.jK hk;rw[G]at M;cases M;have w:=Kj L G;obtain⟨r,B,Z,ac⟩:=Ag W;have H:=h.bP e;have one:jj c ss=some (at_ c s r,ss.set k (s.put r true)):=by simp[jj,iP,hbf,G,B]
   have E':s7 _ F p ps ss sl d cs:=⟨E.a,e.bV E.bV id,E.fr,E.get,E.Be⟩;refine cD rfl (bL (E'.bV.rP (x:=some ⟨P.1,0,none⟩) (E.get w.2.2) ?_));refine N4 (A.bP e) B λv5 e5 Y=>bL ?_;have N:=QX L;have V:¬(d=P.1\/d=P.2):=λhh=>E.fr.2.2 (by rcases hh with h|h<;>rw[h];exact N.1;exact N.2)
   have hml:=C6 s;have g:=A8 Z true;rw[ac]at g;have u:(s.put r true).many=s.many+1:=by simp at g;omega
   have Q:=A.len;refine(e5.bV E'.bV V).fM (E.get w.1) (cT (m:=s.many+1) O O (bL ?_));rw[add_lit,add_lit,ko,ko,←u];exact H.pG (s':=s.put r true) L G rfl e5 Y (e.bV hb id) E' λv6 e6 h6=>h1 _ _ one v6 (e.to.trans e6) h6
theorem RV {k:Nat}{s s':cH}(hs:ss[k]?=some s):p8 (ss.set k s')+(s.tk.length-s.many)=p8 ss+(s'.tk.length-s'.many):=by
 unfold p8
 induction ss generalizing k with
 | nil=>simp at hs
 | cons x ss ih=>
  cases k with
  | zero=>simp at hs;subst hs;simp;omega
  | succ k=>
   have:=ih (by simpa using hs);simp only[sk,zR,oD];omega
theorem Wil {x:Nat}{ss':List cH}(h:jj c ss=some (x,ss')):p8 ss'+1=p8 ss:=by
 unfold jj at h;split at h
 ·rename_i k hk;obtain⟨_,s,m,b⟩:=Kl hk;rw[m]at h;simp only at h;split at h
  ·rename_i i hi;cases h;obtain⟨r,j,a,d⟩:=Ag b;rw[hi]at j;cases j;have u:=RV (s':=s.put i true) m;have g:=A8 a true;rw[d]at g;have p:(s.put i true).tk.length=s.tk.length:=by simp[cH.put]
   simp at g;omega
  ·cases h
 ·cases h
theorem fH.room (h:fH U F p c ps ss):p8 ss<=131072:=by
 have key:∀l:List cH,(∀s∈l,s.tk.length<=128)->p8 l<=128*l.length:=by
  intro l
  induction l with
  | nil=>intro _;simp[p8]
  | cons x l ih=>
   intro hl;have r:=hl x aA;have m:=ih λs d=>hl s (by simp[d]);simp only[p8,zR,oD,zS]at *;omega
 have:=key ss λs d=>by
  obtain⟨i,hi⟩:=zP d;have b:=(cY.1 hi).1;obtain⟨x,j,_,a,g⟩:=h.jK b;rw[hi]at a;cases a;rw[g.len];exact h.ok.kF
 have:=h.qN;omega
theorem GO {m:Nat}{x:Nat}{ss':List cH}(h:jj c ss=some (x,ss')):KE c (m+1) ss=(x::(KE c m ss').1,(KE c m ss').2):=by
 simp[KE,h]
theorem Pu (h:fH U F p c ps ss)(m:Int)(hm:0<=m){R:Sl->Int->Hp->Prop}
 (hR:∀s σ',Ext F U σ'->bS s 1 (ints (KE c m.toNat ss).1) σ' (λb=>U.size<=b)->fH σ' (Cut F U) p c ps (KE c m.toNat ss).2->R s 0 σ'):Xs.c (aW p) m U R:=by
 refine Xs.o ?_;unfold Xs.v;have h:=fH.loc.cut h;have H:=fH.room h;refine Ui h (cD rfl (gg O ?_));refine Qp (a:=.s) (λ(out:Sl) C=>∃j d,Ext F U C/\bS out 1 (ints j) C (λb=>U.size<=b)/\fH C (Cut F U) p c ps d/\j.length<=m.toNat/\j.length+p8 d=p8 ss/\KE c m.toNat ss=(j++(KE c (m.toNat-j.length) d).1,(KE c (m.toNat-j.length) d).2))
  (λout _=>m.toNat-out.len) ⟨[],ss,Ext.refl _ _,bS.nil _ _ _ _,h,by simp,by simp,by simp⟩ ?_
 rintro out C ⟨j,d,e,g,K,W,P,r⟩;have L:=g.oZ;refine cP (λY=>?_) λV=>?_
 ·have u:m.toNat-j.length=(m.toNat-(j.length+1))+1:=by omega
  refine SD K (λx J w v2 e2 G=>cD rfl ?_) λz v2 e2=>cF rfl ?_
  ·have B:Ext F U v2:=e.trans (e2.sub λi hi=>hi.1);have y:=aI.bT g e2 λb _ D N=>by have:=N.2;omega
   refine y.push (vs:=[.int .i64 (x:Int)]) (λb D=>kr B.1 D) rfl rfl (by simp[dU]) O O λZ v4 S M E=>?_;have X:=Wil w;refine⟨⟨j++[x],J,B.dW M λi hi=>.inr hi,by rw[Hv];exact E,fH.loc.bT G M λb _ D N=>(by have:=D.2;omega),by simp;omega,by simp;omega,?_⟩,O⟩;rw[r,u,GO w];simp
  ·have:KE c (m.toNat-j.length) d=([],d):=by rw[u];simp[KE,z]
   rw[this]at r;have A:=hR out v2 (e.trans e2.to);rw[r,kD]at A;exact A (aI.bP g e2) (K.bP e2)
 ·have Q:m.toNat-j.length=0:=by omega
  rw[Q]at r;have A:=hR out C e;rw[r]at A;simp only[KE,kD]at A;exact A g K
theorem η (h:fH U F p c ps ss)(m:Int)(hm:m<0){R:Sl->Int->Hp->Prop}(hR:R ⟨none,0,0⟩ 1 U):Xs.c (aW p) m U R:=by
 refine Xs.o ?_;unfold Xs.v;exact Ui h (cD rfl (lR O hR))
def iY:List (Nat×Nat)->List cH->List (Nat×Nat)
 | x::ps,s::ss=>if s.many != 0 then x::iY ps ss else iY ps ss
 | _,_=>[]
theorem Gk:∀{ps:List (Nat×Nat)} {ss:List cH},ps.length=ss.length->(iY ps ss).length=(cK ss).length
 | [],[],_=>rfl
 | x::ps,s::ss,h=>by
  have ih:=Gk (ps:=ps) (ss:=ss) (by simpa using h);simp only[iY,cK,tZ]at *;split<;>simp[ih]
theorem DE:∀{ps:List (Nat×Nat)} {ss:List cH},(iY ps ss).Sublist ps
 | [],_=>by simp[iY]
 | _::_,[]=>by simp[iY]
 | x::ps,s::ss=>by
  simp only[iY];split
  ·exact DE.cons_cons x
  ·exact DE.cons x
theorem Ju:∀{ps ps':List (Nat×Nat)} {ss ss':List cH},ps.length=ss.length->iY (ps++ps') (ss++ss')=iY ps ss++iY ps' ss'
 | [],_,[],_,_=>rfl
 | x::ps,_,s::ss,_,h=>by
  simp only[lN,iY,Ju (ps:=ps) (ss:=ss) (by simpa using h)];split<;>rfl
theorem Jl:∀{ps:List (Nat×Nat)} {ss:List cH} {i:Nat} {x:Nat×Nat} {s:cH},ps.length=ss.length->(iY ps ss)[i]?=some x->(cK ss)[i]?=some s->∃j:Nat,ps[j]?=some x/\ss[j]?=some s
 | [],[],_,_,_,_,h,_=>by simp[iY]at h
 | y::ps,t::ss,i,x,s,hl,h1,h2=>by
  have ih:=λi=>Jl (ps:=ps) (ss:=ss) (i:=i) (x:=x) (s:=s) (by simpa using hl);simp only[iY,cK,tZ]at h1 h2;cases hm:(t.many != 0)
  ·rw[hm]at h1 h2;obtain⟨j,b,a⟩:=ih i h1 h2;exact⟨j+1,by simpa using b,by simpa using a⟩
  ·rw[hm]at h1 h2;cases i with
   | zero=>simp at h1 h2;exact⟨0,by simp[h1],by simp[h2]⟩
   | succ i=>
    obtain⟨j,b,a⟩:=ih i (by simpa using h1) (by simpa[cK]using h2);exact⟨j+1,by simpa using b,by simpa using a⟩
theorem Δ (a b:List cH):cK (a++b)=cK a++cK b:=by simp[cK]
theorem Rt (a b:List cH):QT (a++b)=QT a++QT b:=by simp[QT]
theorem R4 (c:cA)(a b:List Nat):iU c (a++b)=iU c a++iU c b:=by simp[iU]
theorem Χ {a b:List (Nat×Nat)}(h:a.Sublist b):(eD a).Sublist (eD b):=by
 induction h with
 | slnil=>exact List.Sublist.refl _
 | cons x _ ih=>exact(ih.cons _).cons _
 | cons_cons x _ ih=>exact(ih.cons_cons _).cons_cons _
theorem Fp {h:Hp}{Q:Rg}{n3:Nat}{o:Sl}{l:List Nat}{x1 x2:Nat}{s:cH}(hb:bZ h n3 [.slice o.a o.len o.cap])(hrow:bS o 2 (iU c l) h Q)(hQ:∀b,Q b->n3<b)(hl:l.length<=2000)(hS:ig h x1 x2 c s){R:aO}
 (hR:∀h' o',Ext (λb=>b=n3\/Q b) h h'->bZ h' n3 [.slice (Sl.a o') o'.len o'.cap]->bS o' 2 (iU c (l++if s.many=0 then[s.st]else[])) h' (Grow Q h)->R (s.many==0) h') :
 VO Tryz.prog ⟨248,#[],#[.pointer (some ⟨n3,0,none⟩)]⟩ [.agg #[.int .i64 (s.many:Int),.int .i64 (s.st:Int),.pointer (some ⟨x1,0,none⟩)]] [.one .b] h R:=by
 refine G5 (all := #[.agg #[.int .i64 (s.many:Int),.int .i64 (s.st:Int),.pointer (some ⟨x1,0,none⟩)],.pointer (some ⟨n3,0,none⟩)]) (by kernel_rfl) aA ?_;refine Yc.o ?_;unfold Yc.v;refine nw (cs:=[.int .i64 (s.many:Int),.int .i64 (s.st:Int),.pointer (some ⟨x1,0,none⟩)]) λv X e d=>?_;have S:=hb.lt;have m:=e.bV hb id;have hrow:=(bS.loc o 2 (iU c l)).mono hrow (G:=λb=>Q b/\b<h.size) λb hb z=>⟨z,hb⟩;refine Jn.intro (d.fM rfl ?_);rw[xV];refine cN (λF=>?_) λF=>?_
 ·have r:s.many=0:=by simpa using F
  rw[zC r]at hR;refine⟨λh'=>bZ h' h.size [.int .i64 (s.many:Int),.int .i64 (s.st:Int),.pointer (some ⟨x1,0,none⟩)]/\bZ h' n3 [.slice o.a o.len o.cap],⟨d,m⟩,⟨o,λh' hS=>by rw[hS.2.cell];rfl,⟨some ⟨x1,0,none⟩,λh' hS=>by rw[add_lit,hS.1.cell];rfl,?_⟩⟩⟩;refine LC (hS.bP e) λZ e2=>⟨⟨e2.bV d id,e2.bV m id⟩,?_⟩;have y:=e.trans e2;have g:=aI.bP hrow y;have x:=g.1;rw[M8]at x;refine nw (cs:=[.int .i64 (s.st:Int),.int .i64 (c.aF:Int)]) λv3 W w B=>⟨⟨(e2.trans w).bV d id,(e2.trans w).bV m id⟩,?_⟩;have p:=aI.bP g w;have P:=y.1;refine p.app (ys:=[.int .i64 (s.st:Int),.int .i64 (c.aF:Int)]) rfl rfl ?_ (by simp[dU]) ?_ ?_ nu λV H M D A=>?_
  ·intro j u hu;rw[add_lit,zH,B.cell];exact hu
  ·simp only;have:(o.len+1)*16<=2001*16:=mo O O;omega
  ·simp only;omega
  ·have K:bZ H h.size [.int .i64 (s.many:Int),.int .i64 (s.st:Int),.pointer (some ⟨x1,0,none⟩)]:=D.bV ((e2.trans w).bV d id) λE=>by have:=E.2;omega
   have J:bZ H n3 [.slice o.a o.len o.cap]:=D.bV ((e2.trans w).bV m id) λE=>by have:=hQ _ E.1;omega
   refine⟨⟨K,J⟩,J.s0 aA λv5 o5 U=>(WE o5 K O).fM rfl ?_⟩;have C:Ext (λb=>b=n3\/Q b) h v5:=(aG.to ((e.trans e2).trans w)).trans (D.sub λi hi=>.inr hi.1)|>.trans (o5.ext.sub λi hi=>.inl hi);rw[xV];refine hR v5 V C U ?_;rw[R4];have:iU c [s.st]=[.int .i64 (s.st:Int),.int .i64 (c.aF:Int)]:=rfl;rw[this];have L:=aI.mono A (G:=Grow Q h) λb _ N=>by
    rcases N with h|h
    ·exact .inl h.1
    ·exact .inr O
   exact aI.bT L o5.ext λb _ z Y=>by
    rcases z with h|h
    ·have:=hQ _ h;omega
    ·omega
 ·have r:¬s.many=0:=by simpa using F
  rw[zB r,kD]at hR;refine d.fM rfl ?_;rw[xV];exact hR v o e.to m (aI.bP (aI.mono hrow λb _ z=>.inl z.1) e)
def Aj (n3:Nat)(c:cA)(l:List Nat)(h:Hp):Prop:=∃o:Sl,bZ h n3 [.slice o.a o.len o.cap]/\bS o 2 (iU c l) h (λb=>n3<b)
theorem Df {A D:List Value}{x y z:Value}{k:Nat}(hk:k=A.length)(hD:3<=D.length):(((A++D).set k x).set (k+1) y).set (k+2) z=A++[x,y,z]++D.drop 3:=by
 subst hk
 match D,hD with
 | d0::d1::d2::D,_=>simp[List.set_append]
theorem Gy {i:Nat}{s:cH}(hs:ss[i]?=some s):QT (ss.take (i+1))=QT (ss.take i)++(if s.many=0 then[s.st]else[]):=by
 rw[kz,hs,Rt]
 congr 1
 by_cases hm:s.many=0<;>simp[QT,hm]
theorem Gn {i:Nat}{s:cH}(hs:ss[i]?=some s):cK (ss.take (i+1))=cK (ss.take i)++(if s.many=0 then[]else[s]):=by
 rw[kz,hs,Δ]
 congr 1
 by_cases hm:s.many=0<;>simp[cK,hm]
theorem BL {i:Nat}{x:Nat×Nat}{s:cH}(hl:ps.length=ss.length)(hx:ps[i]?=some x)(hs:ss[i]?=some s):iY (ps.take (i+1)) (ss.take (i+1))=iY (ps.take i) (ss.take i)++(if s.many=0 then[]else[x]):=by
 rw[kz,kz,hs,hx,Ju (by simp[hl])]
 congr 1
 by_cases hm:s.many=0<;>simp[iY,hm]
theorem Sa (l:List cH):(QT l).length<=l.length:=by unfold QT;rw[zj];exact pN _ _
theorem Ra (l:List cH):(cK l).length<=l.length:=pN _ _
theorem Win (h:fH U F p c ps ss){sl:Sl}{rb n3:Nat}{cs:List Value}{σ1:Hp}(e1:aG U σ1)(hlen:sl.len=ss.length)(hn3:U.size<=n3)(hE:ss≠[]->s7 U F p ps ss sl rb cs/\sl.len<=sl.cap/\cs.length=sl.cap*3)(h0:Aj n3 c [] σ1){R:Sl->Hp->Prop}
 (hR:∀h' np,Ext (λb=>F b/\b≠p/\b∉eD ps\/n3<=b) σ1 h'->Aj n3 c (QT ss) h'->(np=sl/\QT ss=[]/\cK ss=ss/\iY ps ss=ps/\Ext (λb=>n3<=b) σ1 h'\/(bS np 3 (dT (iY ps ss) (cK ss)) h' (λb=>F b/\b≠p/\b∉eD ps)))->R np h') :
 Wi.c sl ⟨248,#[],#[.pointer (some ⟨n3,0,none⟩)]⟩ σ1 R:=by
 refine Wi.o ?_;unfold Wi.v;refine Wm.o ?_;unfold Wm.v;have hfew:=h.qN;have r:=h.len;refine Qp (a:=bO) (λ(t:Int) h'=>∃i:Nat,t=(i:Int)/\i<=ss.length/\Ext (λb=>n3<=b) σ1 h'/\Aj n3 c [] h'/\QT (ss.take i)=[]/\cK (ss.take i)=ss.take i/\iY (ps.take i) (ss.take i)=ps.take i) (λt _=>ss.length-t.toNat) ⟨0,rfl,O,Ext.refl _ _,h0,by simp[QT],by simp[cK],by simp[iY]⟩ ?_;rintro t h' ⟨i,rfl,hi,e,⟨o,V,Z⟩,q1,q2,q3⟩;have eo:∀{v:Hp},Ext (λb=>n3<=b) σ1 v->Ext (λb=>n3<=b) U v:=λe=>e1.to.trans e;refine cP (λhlt=>?_) λhge=>?_
 ·have Y:i<ss.length:=by omega
  obtain⟨E,hcap,hcl⟩:=hE (by rintro rfl;simp at Y);obtain⟨xx,s,hp,K,hS⟩:=h.jK Y;have eg:=Kj hp K;have hrl:=E.bV.lt;have hSl:=hS.lt;rw[E.a];refine ix O O ?_;rw[add_lit,show 0+(i:Int).toNat*3=3*i by omega];refine wG (e:=0) ((eo e).bV E.bV O) (E.get eg.1) (E.get eg.2.1) (E.get eg.2.2) ?_;have hn3h:n3<h'.size:=V.lt;refine Fp V Z (λb h=>h) aA (hS.bT (eo e) O O) λh2 o2 e2 ah A=>?_;have e2:Ext (λb=>n3<=b) h' h2:=e2.sub λb g=>by omega
  have A:=aI.mono A (G:=λb=>n3<b) λb _ g=>by
   rcases g with h|h
   ·exact h
   ·omega
  refine cN (λhm=>?_) λhm=>?_
  ·-- the first that goes
   have x:s.many=0:=by simpa using hm
   rw[zC x,tu]at A;have C:((i:Int)==(-1))=false:=by rw[mP];omega
   show If ((i:Int)==(-1)) _ _;refine cD C (cT (m:=i+1) O O ?_);have q1':QT (ss.take (i+1))=[s.st]:=by rw[Gy K,q1,zC x];rfl
   have S:cK (ss.take (i+1))=ss.take i:=by rw[Gn K,q2,zC x,kD]
   have q3':iY (ps.take (i+1)) (ss.take (i+1))=ps.take i:=by rw[BL r hp K,q3,zC x,kD]
   have hke:∀k,k<=ss.length->(dT (iY (ps.take k) (ss.take k)) (cK (ss.take k))).length=3*(cK (ss.take k)).length:=λk _=>KA (Gk (by simp[r]));have Eb2:bZ h2 rb cs:=(eo (e.trans e2)).bV E.bV O;refine UD (a:=bO) (bb:=bO) (λ(i1 j1:Int) v=>∃j:Nat,j1=(j:Int)/\i<j/\j<=ss.length/\i1=((cK (ss.take j)).length:Int)/\(cK (ss.take j)).length<j/\Ext (λb=>b=rb\/n3<=b) σ1 v/\Aj n3 c (QT (ss.take j)) v ∧
    bZ v rb (dT (iY (ps.take j) (ss.take j)) (cK (ss.take j))++cs.drop (3*(cK (ss.take j)).length))) (λ_ j1 _=>ss.length-j1.toNat) ?_ ?_
   ·refine⟨i+1,rfl,O,O,?_,?_,(e.trans e2).sub λb g=>.inr g,?_,?_⟩
    ·rw[S,zY];omega
    ·rw[S,zY];omega
    ·rw[q1'];exact⟨o2,ah,A⟩
    ·rw[S,q3',zY,qu O];have:dT (ps.take i) (ss.take i)++cs.drop (3*i)=cs:=by
      have h1:(dT (ps.take i) (ss.take i)).length=3*i:=by rw[KA (by simp[r]),zY];omega
      apply zt;intro k;rcases kg k (3*i)with hk|hk
      ·rw[zd O];have h2:(dT ps ss)[k]?=(dT (ps.take i) (ss.take i))[k]? := by
        conv=>lhs;rw[←n4 i ps,←n4 i ss,VJ (by simp[r])]
        rw[zd O]
       rw[←h2];have h3:k<(dT ps ss).length:=by rw[KA r];omega
       rw[cX h3];exact(E.get (cX h3)).symm
      ·rw[zp O,lG,h1]
       congr 1;omega
     rw[this];exact Eb2
   ·rintro i1 j1 v ⟨j,rfl,hij,hj,rfl,hKj,ev,⟨o3,D,J⟩,z⟩;have y:=hke j hj;have evo:Ext (λb=>b=rb\/n3<=b) U v:=e1.to.trans ev;refine cP (λhlt2=>?_) λhge2=>?_
    ·have hj':j<ss.length:=by omega
     obtain⟨yy,u,P,H,ae⟩:=h.jK hj';have W:=Kj P H;have hSul:=ae.lt;have ab:=QX P;refine ix O O ?_;rw[add_lit,show 0+(j:Int).toNat*3=3*j by omega];have get:∀d,d<3->∀w,(dT ps ss)[3*j+d]?=some w->(dT (iY (ps.take j) (ss.take j)) (cK (ss.take j))++cs.drop (3*(cK (ss.take j)).length))[3*j+d]?=some w:=by
      intro d hd w hw;rw[zp O,lG,y,show 3*(cK (ss.take j)).length+(3*j+d-3*(cK (ss.take j)).length)=3*j+d by omega];exact E.get hw
     refine wG (e:=0) z (get 0 O _ W.1) (get 1 O _ W.2.1) (get 2 O _ W.2.2) (Fj λv5 X b5=>b5.rI rfl (b5.rI rfl (b5.rP rfl ?_)));have hn3v:n3<v.size:=D.lt;have af:=aI.mono J (G:=λb=>n3<b/\b<v.size) λb g hf=>⟨hf,g⟩;have M:=Sa (ss.take j);rw[zY]at M;refine Fp (X.bV D id) (aI.bP af X) (λb g=>g.1) O ((ae.bT evo (λN=>by rcases N with h|h;exact E.fr.2.2 (h▸ab.1);omega) (λN=>by rcases N with h|h;exact E.fr.2.2 (h▸ab.2);omega)).bP X) λv6 o6 e6 ag B=>?_;have hsz5:=X.1;have B:=aI.mono B (G:=λb=>n3<b) λb _ g=>by
      rcases g with h|h
      ·exact h.1
      ·omega
     have b6:bZ v6 v.size [.int .i64 (u.many:Int),.int .i64 (u.st:Int),.pointer (some ⟨yy.1,0,none⟩)]:=e6.bV b5 λN=>by rcases N with h|h;omega;have:=h.2;omega
     have hrb:rb<U.size:=E.bV.lt;have L:=e6.bV (X.bV z id) λN=>by rcases N with h|h;omega;have:=h.1;omega
     have ac:Ext (λb=>b=rb\/n3<=b) σ1 v6:=(ev.trans X.to).trans (e6.sub λb g=>by rcases g with h|h;omega;have:=h.1;omega);rw[←Gy H]at B;have st:=Gn H;have kt:=BL r P H;by_cases hum:u.many=0
     ·rw[zC hum,kD]at st kt;have:(u.many==0)=true:=by simp[hum]
      rw[this];refine cD rfl (cT (m:=j+1) O O ⟨⟨j+1,rfl,O,O,?_,?_,ac,⟨o6,ag,B⟩,?_⟩,O⟩)
      ·rw[st]
      ·rw[st];omega
      ·rw[st,kt];exact L
     ·rw[zB hum]at st kt;have:(u.many==0)=false:=by simp[hum]
      rw[this];refine cF rfl (b6.rI rfl (b6.rI rfl (b6.rP rfl (ix O O ?_))));rw[add_lit,show 0+((cK (ss.take j)).length:Int).toNat*3=3*(cK (ss.take j)).length by omega];have hlen6:(dT (iY (ps.take j) (ss.take j)) (cK (ss.take j))++cs.drop (3*(cK (ss.take j)).length)).length=cs.length:=by
       rw[zK,y,ky];omega
      refine L.s1 O λv7 o7 b7=>b7.s1 aE λv8 o8 b8=>b8.s1 aE λv9 o9 b9=>?_;rw[ko,Df y.symm (by rw[ky];omega),List.drop_drop]at b9;have ev9:Ext (λb=>b=rb\/n3<=b) σ1 v9:=((ac.trans (o7.ext.sub λb g=>.inl g)).trans (o8.ext.sub λb g=>.inl g)).trans (o9.ext.sub λb g=>.inl g);have aa:Ext (· = rb) v6 v9:=(o7.ext.trans o8.ext).trans o9.ext;refine cT (m:=(cK (ss.take j)).length+1) O O (cT (m:=j+1) O O ⟨⟨j+1,rfl,O,O,?_,?_,ev9,⟨o6,aa.bV ag O,aI.bT B aa λb _ g he=>O⟩,?_⟩,O⟩)
      ·rw[st];simp
      ·rw[st];simp;omega
      ·rw[st,kt,VJ (Gk (by simp[r]))];simp only[zK,zS,k9,dT];rw[show 3*((cK (ss.take j)).length+(0+1))=3*(cK (ss.take j)).length+3 by omega];exact b9
    ·have hjj:j=ss.length:=by omega
     subst hjj;rw[lW]at *;have Q:ps.take ss.length=ps:=by rw[←r,lW]
     rw[Q]at z y;have M:=Ra ss;refine jl O O O ?_;have hK3:3*(cK ss).length<=cs.length:=by omega
     have hlt3:(cK ss).length<ss.length:=hKj;rw[zB O];simp only[E.a,ze,add_lit,zH];refine⟨by simp[dU],?_⟩;simp only;have hz:(List.replicate (sl.len-(cK ss).length) [Value.int .i64 0,.int .i64 0,.pointer none]).flatten.length=3*(sl.len-(cK ss).length):=by
      rw[xR,we,xU];simp;omega
     refine V4 (o:=(cK ss).length*3) (i:=0) z (by rw[hz,zK,y,ky];omega) λv10 gC b10=>?_;refine jl (lo:=0) O O O ?_;have ad:Ext (λb=>b=rb\/n3<=b) σ1 v10:=ev.trans (gC.ext.sub λb g=>.inl g);refine hR v10 _ (ad.sub λb g=>?_) ⟨o3,WE gC D (by have:=E.bV.lt;omega),aI.bT J gC.ext λb _ g he=>by have:=E.bV.lt;omega⟩ (.inr ?_)
     ·rcases g with rfl|h
      ·exact .inl E.fr
      ·exact .inr h
     ·refine⟨by rw[KA (Gk r)];simp;omega,.inr ⟨rb,_,E.fr,?_,b10,?_,?_,?_⟩⟩
      ·simp only[E.a];split<;>simp[add_lit]
      ·simp only;omega
      ·simp only[zK,zY,ky,hz,y];omega
      ·rw[KA (Gk r),ko,show(cK ss).length*3=3*(cK ss).length by omega];rw[zk,pt (by rw[zY,zK,y];omega),AI,Nat.min_self];rw[pt O,lh O]
  ·have x:¬s.many=0:=by simpa using hm
   rw[zB x,kD]at A;refine cT (m:=i+1) O O ⟨⟨i+1,rfl,O,e.trans e2,⟨o2,ah,A⟩,?_,?_,?_⟩,O⟩
   ·rw[Gy K,q1,zB x];rfl
   ·rw[Gn K,q2,zB x,kz,K];rfl
   ·rw[BL r hp K,q3,zB x,kz,hp];rfl
 ·have hii:i=ss.length:=by omega
  subst hii;rw[lW]at *;have Q:ps.take ss.length=ps:=by rw[←r,lW]
  rw[Q]at q3;have C:((-1:Int)==(-1))=true:=rfl;refine cF C (hR h' sl (e.sub λb g=>.inr g) ?_ (.inl ⟨rfl,q1,q2,q3,e⟩));rw[q1];exact⟨o,V,Z⟩
theorem fH.np (h:fH U F p c ps ss):∃sl:Sl,bZ U p [.int .i64 (c.size:Int),.int .i64 (c.aF:Int),.int .i64 (c.batch:Int),.slice sl.a sl.len sl.cap]/\sl.len=ss.length/\bS sl 3 (dT ps ss) U (λb=>F b/\b≠p/\b∉eD ps) ∧
 ∃rb cs,(ss≠[]->s7 U F p ps ss sl rb cs/\sl.len<=sl.cap/\cs.length=sl.cap*3):=by
 obtain⟨sl,m,i⟩:=h.hd;have r:=i.1;rw[KA h.len]at r;refine⟨sl,m,O,i,?_⟩;rcases i.2 with⟨h0,_⟩|⟨b,cs,hq,ha,hbb,hle,hcl,ht⟩
 ·exact⟨0,[],λg=>by have:=py.2 g;omega⟩
 ·refine⟨b,cs,λ_=>⟨⟨ha,hbb,hq,λ{j v} d=>?_,?_⟩,hle,hcl⟩⟩
  ·rw[←ht,zl]at d;split at d
   ·exact d
   ·cases d
  ·have:=congrArg List.length ht;rw[zY,KA h.len]at this;omega
theorem P8 (h:fH U F p c ps ss){R:Sl->Hp->Prop}
 (hR:∀o σ',Ext F U σ'->bS o 2 (iU c (QT ss)) σ' (λb=>U.size<=b)->fH σ' (Cut F U) p c (iY ps ss) (cK ss)->R o σ'):X5.c (aW p) U R:=by
 refine X5.o ?_;unfold X5.v;have h:=fH.loc.cut h;obtain⟨sl,a,C,w,X,cs,N⟩:=h.np;refine Ui h (cD rfl (nw (cs:=[.slice none 0 0]) λV M e1 J=>bL ((e1.bV a id).rS rfl ?_)));refine Win h e1 C (zD _) N ⟨⟨none,0,0⟩,J,bS.nil _ _ _ _⟩ λW np e2 ⟨o,y,G⟩ u=>bL ?_;have K:=a.lt;have g:=h.nd;have d:=Χ (DE (ps:=ps) (ss:=ss));simp only[zr]at g;refine(e2.bV (e1.bV a id) λH=>by rcases H with h|h;exact h.2.1 rfl;omega).s1 aA λv3 o3 D=>?_;have A:=WE o3 y (by have:=y.lt;omega);refine A.wq rfl (hR o v3 ?_ (aI.bT (aI.mono G λb _ a=>O) o3.ext λb _ a m=>O) ?_)
 ·refine(e1.to.dW e2 λb a=>?_).dW o3.ext λb a=>?_
  ·rcases a with h|h
   ·exact .inl h.1.1
   ·exact .inr h
  ·subst a;exact .inl h.fp.1
 ·have B:∀b,b∈eD ps->b<U.size->¬(Cut F U b/\b≠p/\b∉eD ps\/U.size<=b):=λb a S H=>by
   rcases H with h|h
   ·exact h.2.2 a
   ·omega
  refine⟨⟨np,D,?_⟩,λi x s P Q=>?_,h.fp,λb a=>h.fb b (d.subset a),?_,Gk h.len,h.ok,h.q9.sublist uT⟩
  ·rcases u with⟨rfl,_,q2,q3,ex⟩|hr
   ·rw[q2,q3];exact aI.bT (aI.bT (aI.bP w e1) ex λb _ a m=>by have:=a.1.2;omega) o3.ext λb _ a m=>a.2.1 m
   ·exact aI.bT (aI.mono hr λb _ a=>⟨a.1,a.2.1,λr=>a.2.2 (d.subset r)⟩) o3.ext λb _ a m=>a.2.1 m
  ·obtain⟨j,z,E⟩:=Jl h.len P Q;have L:=h.sp j x s z E;have r:=QX z;have C:=L.lt;exact((L.bP e1).bT e2 (B _ r.1 C.1) (B _ r.2 C.2)).bT o3.ext (λm=>g.1 (m▸r.1)) (λm=>g.1 (m▸r.2))
  ·simp only[zr];exact⟨λr=>g.1 (d.subset r),g.2.sublist d⟩
theorem LZ {x:Int}{k i:Nat}{s:cH}(hc:0<c.size)(hk:kU c ss x=some k)(hs:ss[k]?=some s)(v:Bool)(y:Int):kU c (ss.set k (s.put i v)) y=kU c ss y:=by
 have b:∀t:cH,∀j w z,idx c (t.put j w) z=idx c t z:=λt j w z=>by unfold idx cH.put;simp only[pn]
 unfold kU;have a:=(cY.1 hs).1;have:(ss.set k (s.put i v)).map (λs=>(idx c s y).isSome)=ss.map (λs=>(idx c s y).isSome):=by
  apply zt;intro j;simp only[za];by_cases hjk:j=k
  ·subst hjk;rw[zO a,hs];simp[b]
  ·rw[zh (Ne.symm hjk)]
 have d:∀l:List cH,l.findIdx? (λs=>(idx c s y).isSome)=(l.map λs=>(idx c s y).isSome).findIdx? id:=λl=>by rw[List.findIdx?_map];rfl
 rw[d,d,this]
def kG (c:cA)(ss:List cH)(xs:List Int):Prop:=(∀x∈xs,eH c ss x=some true)/\xs.Nodup
theorem AE {x:Int}{b:Bool}(h:eH c ss x=some b):∃k s i,kU c ss x=some k/\ss[k]?=some s/\obj c s x=some i/\s.is i=b:=by
 unfold eH at h;split at h
 ·rename_i k hk;split at h
  ·rename_i s hs;cases ho:obj c s x with
   | none=>rw[ho]at h;cases h
   | some i=>rw[ho]at h;exact⟨k,s,i,hk,hs,ho,by simpa[cH.is]using h⟩
  ·cases h
 ·cases h
theorem Az {x:Int}{k i:Nat}{s:cH}(hk:kU c ss x=some k)(hs:ss[k]?=some s)(ho:obj c s x=some i):fJ c ss x=ss.set k (s.put i false):=by
 simp[fJ,hk,hs,ho]
theorem Nu {x y:Int}(hc:0<c.size)(hx:eH c ss x=some true)(hne:y≠x):eH c (fJ c ss x) y=eH c ss y:=by
 obtain⟨k,s,i,A,d,u,_⟩:=AE hx;rw[Az A d u];have g:=(cY.1 d).1;have a:=LZ hc A d false (i:=i) y;have r:∀t:cH,∀j w z,obj c (t.put j w) z=obj c t z:=λt j w z=>by unfold obj idx at_ cH.put;simp only[pn]
 cases hy:kU c ss y with
 | none=>rw[Cs (a.trans hy),Cs hy]
 | some m=>
  by_cases hmk:m=k
  ·subst hmk;rw[V8 (a.trans hy) (zO g),V8 hy d,r];cases hoy:obj c s y with
   | none=>rfl
   | some j=>
    simp only[ze,Option.some.injEq];have p:i≠j:=λe=>by
     subst e;exact hne (((U9 hc).1 hoy).1.trans ((U9 hc).1 u).1.symm)
    simp[cH.is,cH.put,zQ,zh p]
  ·have b:m<ss.length:=(nE.1 hy).1;rw[V8 (a.trans hy) ((zh (Ne.symm hmk)).trans (cX b)),V8 hy (cX b)]
theorem kG.next {x:Int}{xs:List Int}(hc:0<c.size)(h:kG c ss (x::xs)):kG c (fJ c ss x) xs:=by
 have b:=zr.1 h.2;refine⟨λy a=>?_,b.2⟩;rw[Nu hc (h.1 x aA) λe=>b.1 (e▸a)];exact h.1 y (by simp[a])
theorem FB {xs:List Int}(h:iM c ss xs=0):kG c ss xs:=by
 unfold iM at h;split at h
 ·cases h
 ·rename_i h1;split at h
  ·cases h
  ·rename_i h2;simp only[nI,not_or,rW,mr,Bool.not_eq_false',zV,zT]at h1 h2;refine⟨λx d=>?_,h2.2⟩;have a:=h1 x d;have b:=h2.1 x d;cases ht:eH c ss x with
   | none=>rw[ht]at a;simp at a
   | some v=>
    cases v
    ·rw[ht]at b;exact absurd rfl b
    ·rfl
theorem MD {sl:Sl}{xs:List Int}{X:Rg}(h:fH U F p c ps ss)(hs:cV sl 1 (xs.map (Value.int .i64)) U X)(hX:∀b,X b->¬F b)(hi:∀x∈xs,iN x)(hA:kG c ss xs)(hl:xs.length<=1000000){K:aP}
 (hK:∀σ',Ext F U σ'->fH σ' F p c ps (xs.foldl (fJ c) ss)->K σ') :
 Yb [bO] (λI1=>I1 0 U) λJ3 (t49:Int) v6=>If (decide (t49<((sl.len:Nat):Int))) (Ix sl.a sl.len t49 1 λa51=>gN .i64 a51 v6 λaddr1=>
  XW.c (aW p) addr1 v6 λvx v7=>bW vx λa57=>fY (a57.add 2) v7 λt59=>ZN.c t59 addr1 v7 λt61 v8=>bW vx λa63=>gN .i64 ((a63.add 0).add 0) v8 λt66=>
  Ar .i64 (t66-1) λt67=>bW vx λa68=>dZ ((a68.add 0).add 0) (.int .i64 t67) v8 λv9=>Ar .i64 (t49+1) λt71=>J3 t71 v9) (K v6):=by
 have hlen:sl.len=xs.length:=by have:=hs.1;simp at this;omega
 have B:0<c.size:=by have:=h.ok.1;omega
 refine Qp (a:=bO) (λ(t:Int) N=>∃(i:Nat) (u:List cH),t=(i:Int)/\i<=xs.length/\Ext F U N/\fH N F p c ps u/\kG c u (xs.drop i)/\(xs.drop i).foldl (fJ c) u=xs.foldl (fJ c) ss) (λt _=>xs.length-t.toNat) ⟨0,ss,rfl,O,Ext.refl _ _,h,by simpa using hA,by simp⟩ ?_;rintro t N ⟨i,u,rfl,hil,e,L,y,G⟩;refine cP (λhlt=>?_) λhge=>?_
 ·have w:i<xs.length:=by omega
  have hx:xs[i]?=some xs[i]:=cX w;have hd:xs.drop i=xs[i]::xs.drop (i+1):=yq w;rw[hd]at y G;refine(aH.bT hs e λb _ Z hF=>hX b Z hF).lV hx ?_;obtain⟨k,s,j,M,g,J,H⟩:=AE (y.1 xs[i] mD);have C:=hi xs[i] (kv w);refine B9 L xs[i] C (λhn=>by rw[M]at hn;cases hn) λk' np rb cs A P Z E=>bL ?_;rw[M]at A;cases A;obtain⟨W,s',Q,z,Y⟩:=L.jK P;rw[g]at z;cases z;have eg:=Kj Q g;have hj:=((U9 B).1 J).2;refine E.bV.rP (x:=some ⟨W.1,0,none⟩) (E.get eg.2.2) ?_;refine MG Y C J H λv8 e8 R=>bL ?_;have D:=QX Q;have V:¬(rb=W.1\/rb=W.2):=λhh=>E.fr.2.2 (by rcases hh with h|h<;>rw[h];exact D.1;exact D.2)
  have hml:=C6 s;have d:=A8 hj false;rw[H]at d;have hsl:=Y.len;have hnl:=Y.ok.kF;have r:((s.put j false).many:Int)=s.many-1:=by simp at d;omega
  refine(e8.bV E.bV V).fM (E.get eg.1) (ar O O (bL ?_));simp only[add_lit,ko];rw[←r];refine L.pG (s':=s.put j false) Q g rfl e8 R Z E λv9 e9 S=>?_;refine cT (m:=i+1) O O ⟨⟨i+1,_,rfl,O,e.trans e9,S,?_,?_⟩,O⟩
  ·have:=kG.next B y
   rwa [Az M g J]at this
  ·rw[r7,Az M g J]at G;exact G
 ·have:i=xs.length:=by omega
  subst this;rw[List.drop_length,List.foldl_nil]at G;subst G;exact hK N e L
theorem Pj (h:fH U F p c ps ss){sl:Sl}{xs:List Int}{X:Rg}(hs:cV sl 1 (xs.map (Value.int .i64)) U X)(hX:∀b,X b->¬F b)(hi:∀x∈xs,iN x)(hl:xs.length<=1000000)(hcap:sl.len<=sl.cap){R:Sl->Int->Hp->Prop}
 (h0:iM c ss xs≠0->R ⟨none,0,0⟩ (iM c ss xs) U)
 (h1:iM c ss xs=0->∀o σ',Ext F U σ'->bS o 2 (iU c (QT (xs.foldl (fJ c) ss))) σ' (λb=>U.size<=b)->fH σ' (Cut F U) p c (iY ps (xs.foldl (fJ c) ss)) (cK (xs.foldl (fJ c) ss))->R o 0 σ') :
 Y4.c (aW p) sl U R:=by
 refine Y4.o ?_;unfold Y4.v;have af:sl.len=xs.length:=by have:=hs.1;simp at this;omega
 refine Ui h (cD rfl ?_);have P:∀i,(xs.take i).any (λx=>eH c ss x==some false)=true\/¬(xs.take i).Nodup->(∀x∈xs,(eH c ss x).isSome=true)->iM c ss xs=9:=by
  intro i d hall;unfold iM;rw[zB,zC]
  ·rcases d with d|d
   ·rw[zy]at d;obtain⟨x,u,Z⟩:=d;have:xs.any (λx=>eH c ss x==some false)=true:=zy.2 ⟨x,wo u,Z⟩;rw[this];rfl
   ·have:¬xs.Nodup:=λE=>d (E.sublist (Du _ _));simp[this]
  ·simp only[rW,mr];intro x u;have:=hall x u;cases ht:eH c ss x
   ·rw[ht]at this;cases this
   ·simp
 refine UD (a:=.b) (bb:=bO) (λ(P:Bool) (t:Int) B=>∃i:Nat,t=(i:Int)/\i<=xs.length/\B=U/\(∀x∈xs.take i,(eH c ss x).isSome=true)/\(P=true↔(xs.take i).any (λx=>eH c ss x==some false)=true\/¬(xs.take i).Nodup)) (λ_ t _=>xs.length-t.toNat)
  ⟨0,rfl,O,rfl,by simp,by simp⟩ ?_
 rintro A t B ⟨i,rfl,hil,rfl,g,D⟩;refine cP (λhlt=>?_) λhge=>?_
 ·have C:i<xs.length:=by omega
  have u:xs[i]?=some xs[i]:=cX C;have aa:=hi xs[i] (kv C);have J:xs.take (i+1)=xs.take i++[xs[i]]:=by rw[kz,u];rfl
  refine hs.lV u (FY h xs[i] aa (λb d=>cD rfl ?_) λE=>cF rfl ?_)
  ·have w:∀x∈xs.take (i+1),(eH c ss x).isSome=true:=by
    rw[J];intro x u;rcases zM.1 u with h1|h1
    ·exact g x h1
    ·simp at h1;subst h1;rw[d];rfl
   have fin:∀K:Bool,(K=true↔(xs.take (i+1)).any (λx=>eH c ss x==some false)=true\/¬(xs.take (i+1)).Nodup)->Ar .i64 ((i:Int)+1) λs=>
    (∃j:Nat,s=(j:Int)/\j<=xs.length/\B=B/\(∀x∈xs.take j,(eH c ss x).isSome=true)/\(K=true↔(xs.take j).any (λx=>eH c ss x==some false)=true\/¬(xs.take j).Nodup))/\xs.length-s.toNat<xs.length-(i:Int).toNat:=
    λK S=>cT (m:=i+1) O O ⟨⟨i+1,rfl,O,rfl,w,S⟩,O⟩
   have ad:∀y:Int,(xs.take i++[y]).Nodup↔(xs.take i).Nodup/\y∉xs.take i:=λy=>by
    rw[nr];constructor
    ·exact λh=>⟨h.1,λM=>h.2.2 y M y aA rfl⟩
    ·exact λh=>⟨h.1,by simp,λa ha z hz e=>by simp at hz;subst hz;exact h.2 (e▸ha)⟩
   have ex:(xs.take (i+1)).any (λx=>eH c ss x==some false)=true\/¬(xs.take (i+1)).Nodup↔(A=true\/b=false)\/xs[i]∈xs.take i:=by
    rw[J,ad,List.any_append,D];simp only[List.any_cons,List.any_nil,Bool.or_false,nI,d];have W:((some b==some false)=true)↔b=false:=by cases b<;>simp
    rw[W];constructor
    ·rintro((h|h)|h)
     ·exact .inl (.inl (.inl h))
     ·exact .inl (.inr h)
     ·by_cases E:(xs.take i).Nodup
      ·by_cases M:xs[i]∈xs.take i
       ·exact .inr M
       ·exact absurd ⟨E,M⟩ h
      ·exact .inl (.inl (.inr E))
    ·rintro(((h|h)|h)|h)
     ·exact .inl (.inl h)
     ·exact .inr λL=>h L.1
     ·exact .inl (.inr h)
     ·exact .inr λL=>L.2 h
   have J1:∀r:Bool,(r=true↔A=true\/b=false)->bX (λK v4=>Ar .i64 ((i:Int)+1) λs=>
    (∃j:Nat,s=(j:Int)/\j<=xs.length/\v4=B/\(∀x∈xs.take j,(eH c ss x).isSome=true)/\(K=true↔(xs.take j).any (λx=>eH c ss x==some false)=true\/¬(xs.take j).Nodup))/\xs.length-s.toNat<xs.length-(i:Int).toNat) λJ2=>
    If r (J2 true B) (fA sl 1 0 (i:Int) (sl.cap:Nat) λV=>Ww.c V xs[i] B λY v5=>J2 Y v5):=by
    intro r hr;refine bX.intro ?_;cases r
    ·refine cD rfl ?_;refine jl (lo:=0) O O O ?_;have G:cV ⟨if sl.cap=0 then sl.a else sl.a.map (·.add (0*1)),i-0,sl.cap-0⟩ 1 ((xs.take i).map (Value.int .i64)) B X:=by
      refine⟨by simp;omega,?_⟩;rcases hs.2 with h0|⟨b',o',cs',hf',ha',hb',hc'⟩
      ·left;have:xs=[]:=by simpa using h0
       simp[this]
      ·refine .inr ⟨b',o',cs',hf',?_,hb',λj hj=>?_⟩
       ·rw[zB O,ha'];simp[add_lit]
       ·simp only[zj,zY]at hj;rw[hc' j aE,List.map_take,zl,zC O]
     refine GY G aE _ (fin _ ?_);rw[ex,←hr];simp
    ·refine cF rfl (fin true ?_);rw[ex,←hr];simp
   refine bX.intro ?_;cases A
   ·refine cD rfl (J1 _ ?_);cases b<;>simp
   ·exact cF rfl (J1 _ aA)
  ·have:iM c ss xs=8:=by
    unfold iM;rw[zC];exact zy.2 ⟨xs[i],kv C,by rw[E];rfl⟩
   have h0:=h0 (by rw[this];decide);rw[this]at h0;exact h0
 ·have:i=xs.length:=by omega
  subst this;rw[lW]at *;cases A
  ·refine cD rfl ?_;have hE:iM c ss xs=0:=by
    unfold iM;have Q:¬(xs.any (λx=>eH c ss x==some false)=true\/¬xs.Nodup):=λL=>by have:=D.2 L;cases this
    rw[zB,zB]
    ·simp only[not_or,rW,Decidable.not_not]at Q;rw[Q.1];simp[Q.2]
    ·simp only[rW,mr];intro x u;have:=g x u;cases ht:eH c ss x
     ·rw[ht]at this;cases this
     ·simp
   refine MD (fH.loc.cut h) hs (λb d hf=>hX b d hf.1) hi (FB hE) hl λv6 e6 N=>?_;refine P8 N λo ab ac ae H=>?_;exact h1 hE o ab ((e6.trans ac).sub λb d=>d.1) (aI.mono ae λb _ d=>kr e6.1 d) (fH.loc.mono H λb _ d=>d.1)
  ·refine cF rfl ?_;have h9:=P xs.length (by rw[lW];exact D.1 rfl) g;have h0:=h0 (by rw[h9];decide);rw[h9]at h0;exact h0
theorem N8 {x y:Sl}{a o b o':Nat}{cs ds:List Value}(hx:x.a=some ⟨a,o,none⟩)(hy:y.a=some ⟨b,o',none⟩)(ha:bZ U a cs)(hb:bZ U b ds)(hne:a≠b)(hd:ds≠[]){K:aO}(hK:K false U) :
 uc Tryz.prog 320 [.slice x.a x.len x.cap,.slice y.a y.len y.cap] U K:=by
 rintro w rfl;obtain⟨g,ha⟩:=ha;obtain⟨d,hb⟩:=hb;refine⟨false,w,?_,.refl _,hK⟩;rw[hx,hy,run_callFunc_extern Tryz.func320 (by kernel_rfl) (by kernel_rfl) (by kernel_rfl) (e:=Extern.SlicesOverlaps.overlaps #[272,272] #[4]) (by kernel_rfl)];have:=Lib.run_overlaps_apart (P:=Tryz.prog) w 272 4 279 Tryz.underlying272 3 Tryz.sizeOf279
  ⟨a,o,none⟩ ⟨b,o',none⟩ x.len x.cap y.len y.cap hne g d cs.length ds.length (by simp[World.shape?,ha]) (by simp[World.shape?,hb]) (by simpa using hd) (by simp[World.frozen?,ha]) (by simp[World.frozen?,ha])
 rw[this];rfl
theorem RS {Q:Rg}{s:Sl}{xs:List Value}{i m vb:Nat}{x y z:Value}(h:bS s 3 xs U Q)(hlen:s.len=m)(hm:m<=2000)(hi:i<=m)(hv:bZ U vb [x,y,z])(hvb:¬Q vb)(h1:∀v∈xs,dU v=true)(h2:dU x=true/\dU y=true/\dU z=true)
 {R:Sl->Hp->Prop} (hR:∀s' σ',Ext Q U σ'->bS s' 3 (xs.take (3*i)++[x,y,z]++xs.drop (3*i)) σ' (Grow Q U)->R s' σ') :
 Wl.c s (i:Int) ⟨some ⟨vb,0,none⟩,1,1⟩ U R:=by
 refine Wl.o ?_;unfold Wl.v;have hxl:=h.1;have hcap:s.len<=s.cap:=by
  rcases h.2 with⟨h0,h0'⟩|⟨b,cs,_,_,_,K,_⟩
  ·omega
  ·exact K
 have hrd:Rd U (some ⟨vb,0,none⟩) [x,y,z]:=by
  intro j u hu;rw[add_lit,zH,hv.cell];exact hu
 have V:∀v∈[x,y,z],dU v=true:=by simp[h2]
 refine jl O O O (cD rfl (cN (λhe=>?_) λhe=>?_))
 ·have hie:i=m:=by
   have:(i:Int)=((s.len:Nat):Int):=by simpa using he
   omega
  refine h.app (ys:=[x,y,z]) rfl rfl hrd V aD aD nu λs' h' hl' e' Y=>hR s' h' e' ?_
  rw[lh O,DO O,kD];exact Y
 ·have hie:i<m:=by
   have:¬(i:Int)=((s.len:Nat):Int):=by simpa using he
   omega
  obtain⟨b,cs,P,ha,E,K,M,ht⟩:∃b cs,Q b/\s.a=some ⟨b,0,none⟩/\bZ U b cs/\s.len<=s.cap/\cs.length=s.cap*3/\cs.take xs.length=xs:=by
   rcases h.2 with⟨h0,_⟩|h
   ·omega
   ·exact h
  have N:vb≠b:=λe=>hvb (e▸P);have w:∀j v,xs[j]?=some v->cs[j]?=some v:=λj v p=>by
   rw[←ht,zl]at p;split at p
   ·exact p
   ·cases p
  refine cT (m:=m+1) aD O (cP (λhgt=>?_) λhle2=>?_)
  ·-- no room: a new row
   refine jl (lo:=0) O O O (cT (m:=m+1) aD O (cT (m:=m+1-i) O O ?_))
   have B:¬s.cap=0:=by omega
   rw[zB B];simp only[ha,ze,add_lit,uW,ko,Nat.sub_zero];refine⟨O,xs.take (3*i),by rw[zY];simp only;omega,?_,by simp[dU],by simp only;omega,by simp only;omega,O,λZ=>by simp only at Z;omega,λ_ cc H=>?_⟩
   ·intro j v p;rw[add_lit,zH,E.cell];rw[zl]at p;split at p
    ·exact w j v p
    ·cases p
   simp only[dH]at H ⊢;have hi1:i+(m+1-i)=m+1:=by omega
   rw[hi1]at H ⊢;refine nw λv2 hz2 e2 hb2=>?_;have A:∀k,(List.replicate k [Value.int .i64 0,.int .i64 0,.pointer none]).flatten.length=3*k:=λk=>by
    rw[xR,we,xU];simp;omega
   have g:(xs.take (3*i)).length=3*i:=by rw[zY];omega
   refine jl aD aD aD ?_
   have aa:=e2.bV hv id;have n1:(if cc=i then(some ⟨U.size,0,none⟩:Option Addr)else(some ⟨U.size,0,none⟩:Option Addr).map (·.add (i*3)))=some ⟨U.size,i*3,none⟩:=by
    have:¬cc=i:=by omega
    rw[zB this];simp[add_lit]
   rw[n1];refine⟨[x,y,z],by simp only;rw[qu O];rfl,?_,V,?_⟩
   ·intro j u hu;rw[add_lit,zH,aa.cell];exact hu
   simp only;refine V4 (o:=i*3) (i:=0) hb2 (by simp only[zK,g,A,zS,k9];omega) λv3 o3 S=>?_;refine cT (m:=i+1) aD O (jl aD aD aD (jl O O O ?_))
   have J:bZ v3 b cs:=WE o3 (e2.bV E id) (by have:=E.lt;omega);have d:(xs.drop (3*i)).length=3*(m-i):=by rw[ky];omega
   refine⟨xs.drop (3*i),by simp only;rw[qu O,d];omega,?_,λv hv=>h1 v (uH hv),?_⟩
   ·have r:¬s.cap=i:=by omega
    rw[zB r];simp only[ha,ze,add_lit];intro j v p;rw[add_lit,J.cell];rw[lG]at p;have:=w _ _ p;rw[show 0+i*3+j=3*i+j by omega];exact this
   have hbig:(xs.take (3*i)++(List.replicate (m+1-i) [Value.int .i64 0,.int .i64 0,.pointer none]).flatten++(List.replicate (cc-(m+1)) [Value.int .i64 0,.int .i64 0,.pointer none]).flatten).length=3*cc:=by
    simp only[zK,g,A];omega
   have tk:∀L:List Value,((xs.take (3*i)++(List.replicate (m+1-i) [Value.int .i64 0,.int .i64 0,.pointer none]).flatten++(List.replicate (cc-(m+1)) [Value.int .i64 0,.int .i64 0,.pointer none]).flatten).take (3*i))=xs.take (3*i):=λ_=>by
    rw[zk,pt O,lh O]
   have fin:∀v4,Q3 v3 v4 U.size->bZ v4 U.size ((xs.take (3*i)++[x,y,z])++xs.drop (3*i)++((xs.take (3*i)++(List.replicate (m+1-i) [Value.int .i64 0,.int .i64 0,.pointer none]).flatten++(List.replicate (cc-(m+1)) [Value.int .i64 0,.int .i64 0,.pointer none]).flatten).drop (3*i+3)).drop (3*(m-i)))->R ⟨some ⟨U.size,0,none⟩,m+1,cc⟩ v4:=by
    intro v4 o4 b4;refine hR _ v4 ?_ ⟨?_,.inr ⟨U.size,_,.inr (zD _),rfl,b4,by simp only;omega,?_,?_⟩⟩
    ·exact((e2.to.dW o3.ext λi hi=>by subst hi;exact .inr (zD _)).dW o4.ext λi hi=>by subst hi;exact .inr (zD _))
    ·simp only[zK,g,d,zS,k9];omega
    ·simp only[zK,g,d,zS,k9,ky,A];omega
    ·rw[zk (xs.take (3*i)++[x,y,z]),←zk,AA];rfl
   have e3:(xs.take (3*i)++(List.replicate (m+1-i) [Value.int .i64 0,.int .i64 0,.pointer none]).flatten++(List.replicate (cc-(m+1)) [Value.int .i64 0,.int .i64 0,.pointer none]).flatten).take (i*3+0)=xs.take (3*i):=by
    rw[show i*3+0=3*i by omega];exact tk []
   rw[e3]at S;have D:(xs.take (3*i)++[x,y,z]++(xs.take (3*i)++(List.replicate (m+1-i) [Value.int .i64 0,.int .i64 0,.pointer none]).flatten++(List.replicate (cc-(m+1)) [Value.int .i64 0,.int .i64 0,.pointer none]).flatten).drop (i*3+0 + [x,y,z].length)).length=3*cc:=by
    simp only[zK,ky,g,A,zS,k9];omega
   by_cases r:cc=i+1
   ·exfalso;omega
   ·rw[zB r];simp only[ze,add_lit,zH];refine V4 (o:=(i+1)*3) (i:=0) S (by rw[D,d];omega) λv4 o4 b4=>fin v4 o4 ?_;have q1:(i+1)*3+0=(xs.take (3*i)++[x,y,z]).length:=by rw[zK,g];simp;omega
    have q2:(i+1)*3+0+(xs.drop (3*i)).length=(xs.take (3*i)++[x,y,z]).length+3*(m-i):=by rw[d,q1]
    rw[q2,q1,AA,List.drop_append]at b4
    ·rw[DO (show(xs.take (3*i)++[x,y,z]).length<=(xs.take (3*i)++[x,y,z]).length+3*(m-i) by omega),tu]at b4;have q3:i*3+0 + [x,y,z].length=3*i+3:=by simp;omega
     rw[q3]at b4;have q4:(xs.take (3*i)++[x,y,z]).length+3*(m-i)-(xs.take (3*i)++[x,y,z]).length=3*(m-i):=by omega
     rw[q4]at b4;exact b4
    ·rfl
  ·-- room: the rest moves
   have hle3:m+1<=s.cap:=by omega
   have B:¬s.cap=0:=by omega
   have r:¬s.cap=i:=by omega
   refine cT (m:=m+1) aD O (jl (lo:=0) O O O ?_)
   rw[zB B];simp only[ha,ze,add_lit,uW,ko,Nat.sub_zero];refine cT (m:=i+1) aD O (jl aD aD aD ?_)
   have C:cs.take (3*m)=xs:=by rw[←hlen,show 3*s.len=xs.length by omega];exact ht
   have X:∃o',(if s.cap=i+1 then(some ⟨b,0,none⟩:Option Addr)else(some ⟨b,0,none⟩:Option Addr).map (·.add ((i+1)*3)))=some ⟨b,o',none⟩:=by
    split
    ·exact⟨0,rfl⟩
    ·exact⟨_,by simp[add_lit];rfl⟩
   obtain⟨o',X⟩:=X;refine N8 (x:=⟨some ⟨vb,0,none⟩,1,1⟩) (a:=vb) (o:=0) (b:=b) rfl X hv E N (λe=>by rw[e]at M;simp at M;omega) (cF rfl ?_);refine cT (m:=i+1) aD O (jl aD aD aD (jl aD aD aD ?_))
   have G:¬s.cap=i+1:=by omega
   rw[zB G,zB r];simp only[ze,add_lit,zH];have d:(xs.drop (3*i)).length=3*(m-i):=by rw[ky];omega
   refine⟨xs.drop (3*i),by simp only;rw[Nat.min_eq_right O,d];omega,?_,λv hv=>h1 v (uH hv),?_⟩
   ·intro j v p;rw[add_lit,E.cell];rw[lG]at p;have:=w _ _ p;rw[show i*3+j=3*i+j by omega];exact this
   refine V4 (o:=(i+1)*3) (i:=0) E (by rw[d];omega) λv3 o3 S=>?_;refine jl aD aD aD ?_
   rw[zB r];simp only[ze,add_lit,zH];have W:=WE o3 hv N;refine⟨[x,y,z],by simp only;rw[qu O];rfl,?_,V,?_⟩
   ·intro j u hu;rw[add_lit,zH,W.cell];exact hu
   have hl3:(cs.take ((i+1)*3+0)++xs.drop (3*i)++cs.drop ((i+1)*3+0+(xs.drop (3*i)).length)).length=cs.length:=by
    simp only[zK,zY,ky,d];omega
   refine V4 (o:=i*3) (i:=0) S (by rw[hl3];simp;omega) λv4 o4 b4=>?_;have a1:(cs.take ((i+1)*3+0)).length=3*i+3:=by rw[zY];omega
   have g:(xs.take (3*i)).length=3*i:=by rw[zY];omega
   have p1:(cs.take ((i+1)*3+0)++xs.drop (3*i)++cs.drop ((i+1)*3+0+(xs.drop (3*i)).length)).take (i*3+0)=xs.take (3*i):=by
    rw[zk,pt O,AI,qu O,←C,AI,qu O]
    congr 1;omega
   have p2:(cs.take ((i+1)*3+0)++xs.drop (3*i)++cs.drop ((i+1)*3+0+(xs.drop (3*i)).length)).drop (i*3+0 + [x,y,z].length)=xs.drop (3*i)++cs.drop ((i+1)*3+0+(xs.drop (3*i)).length):=by
    rw[zk,List.drop_left'];rw[a1];simp;omega
   rw[p1,p2,←zk]at b4;refine hR _ v4 ((Ext.eV (F:=Q) o3 P).trans (Ext.eV o4 P)) ⟨?_,.inr ⟨b,_,.inl P,rfl,b4,aD,?_,?_⟩⟩
   ·simp only[zK,g,zS,k9,d];omega
   ·simp only[zK,g,ky,zS,k9,d];omega
   ·rw[AA];rfl
def ZE (ss:List cH)(st:Nat):Nat:=(ss.takeWhile (λs=>s.st<st)).length
theorem GF (l:List cH)(P:cH->Bool):l.takeWhile P=l.take (l.takeWhile P).length/\l.dropWhile P=l.drop (l.takeWhile P).length:=by
 induction l with
 | nil=>simp
 | cons x l ih=>
  simp only[List.takeWhile_cons,List.dropWhile_cons];cases P x
  ·simp
  ·simp only[zU,zS,vz,wk];exact⟨by rw[←ih.1],ih.2⟩
theorem yf (c:cA)(ss:List cH)(st:Nat):ir c ss st=ss.take (ZE ss st)++⟨st,List.replicate c.n false⟩::ss.drop (ZE ss st):=by
 have:=GF ss (λs=>decide (s.st<st));unfold ir ZE;rw[this.2,←this.1]
theorem GM (hs:ss.Pairwise (λa b=>a.st<b.st))(st:Nat):ZE ss st<=ss.length/\∀(i:Nat) s,ss[i]?=some s->(s.st<st↔i<ZE ss st):=by
 unfold ZE
 induction ss with
 | nil=>simp
 | cons x ss ih=>
  have d:=sR.1 hs;obtain⟨j,g⟩:=ih d.2;simp only[List.takeWhile_cons];by_cases hx:x.st<st
  ·simp only[hx,decide_true,zU,zS];refine⟨O,λi s hi=>?_⟩;cases i with
   | zero=>simp at hi;subst hi;simp[hx]
   | succ i=>have:=g i s (by simpa using hi);omega
  ·simp only[hx,decide_false,zZ,jU,k9,Nat.zero_le,Nat.not_lt_zero,iff_false,tI];intro i s hi;cases i with
   | zero=>simp at hi;subst hi;exact hx
   | succ i=>
    have:=d.1 s (zG (i:=i) (by simpa using hi));omega
theorem TL (h:fH U F p c ps ss){σ1:Hp}(e1:aG U σ1){sl:Sl}{rb:Nat}{cs:List Value}(hl:sl.len=ss.length)(hE:ss≠[]->s7 U F p ps ss sl rb cs)(st:Nat)(hst:st<=1024){R:Int->Bool->Hp->Prop}(hR:∀σ' b,aG σ1 σ'->R (ZE ss st:Int) b σ') :
 Wc.c sl (st:Int) ⟨292,#[],#[]⟩ σ1 R:=by
 refine Wc.o ?_;unfold Wc.v;have V:=h.qN;obtain⟨L,kB⟩:=GM h.q9 st;have C:∀(k:Nat) (x:Nat×Nat) s (v:Hp) (K:aN),ps[k]?=some x->ss[k]?=some s->aG σ1 v->(∀A,aG v A->K ((s.st:Int)-(st:Int)) A) →
  VO Tryz.prog ⟨292,#[],#[]⟩ [.agg #[.int .i64 (s.many:Int),.int .i64 (s.st:Int),.pointer (some ⟨x.1,0,none⟩)],.int .i64 (st:Int)] [.one bO] v K:=by
  intro k x s v K w r ev hK;refine G5 (all := #[.agg #[.int .i64 (s.many:Int),.int .i64 (s.st:Int),.pointer (some ⟨x.1,0,none⟩)],.int .i64 (st:Int)]) (by kernel_rfl) aA ?_;refine YT.o ?_;unfold YT.v;have hf:=(h.sp k x s w r).fit;refine nw (cs:=[.int .i64 (s.many:Int),.int .i64 (s.st:Int),.pointer (some ⟨x.1,0,none⟩)]) λY hz e M=>M.fM rfl (ar O O (hK Y e))
 refine UD (a:=bO) (bb:=bO) (λ(i j:Int) v=>∃a b:Nat,i=(a:Int)/\j=(b:Int)/\a<=ZE ss st/\ZE ss st<=b/\b<=ss.length/\aG σ1 v) (λi j _=>j.toNat-i.toNat) ⟨0,ss.length,rfl,by rw[hl],O,L,O,Ext.refl _ _⟩ ?_;rintro i j v ⟨a,b,rfl,rfl,X,M,D,ev⟩;have z:aG U v:=e1.trans ev;refine cP (λhlt=>?_) λZ=>?_
 ·have y:ss≠[]:=by rintro rfl;simp at D;omega
  have E:=hE y;refine cT (m:=a+b) O O ?_;have W:IntKind.u64.wrap ((a+b:Nat):Int)=((a+b:Nat):Int):=by
   unfold IntKind.wrap;simp[IntKind.bits,IntKind.signed];omega
  refine vD ?_;rw[W];refine nn O ?_;have H:min (1:Int).toNat IntKind.u64.bits=1:=by decide
  rw[H,CR];have B:(((a+b:Nat):Int)/2^1)=(((a+b)/2:Nat):Int):=by omega
  refine cT (m:=(a+b)/2) B O ?_;have d:(a+b)/2<ss.length:=by omega
  obtain⟨x,s,w,r,hS⟩:=h.jK d;have u:=Kj w r;rw[E.a];refine ix O O ?_;rw[add_lit,show 0+(((a+b)/2:Nat):Int).toNat*3=3*((a+b)/2) by omega];refine wG (e:=0) (z.bV E.bV id) (E.get u.1) (E.get u.2.1) (E.get u.2.2) (C _ x s v _ w r ev λA G=>?_);have g:=kB _ s r;show If (decide (((s.st:Int)-(st:Int))<0)) _ _;refine cP (λN=>?_) λQ=>?_
  ·exact cT (m:=(a+b)/2+1) O O ⟨⟨_,b,rfl,rfl,by have:=g.1 O;omega,M,D,ev.trans G⟩,O⟩
  ·exact⟨⟨a,_,rfl,rfl,X,by
    apply Classical.byContradiction;intro hc;have:=g.2 O;omega,O,ev.trans G⟩,O⟩
 ·have J:a=ZE ss st:=by omega
  subst J;refine bX.intro (cP (λS=>?_) λP=>hR v _ ev);have d:ZE ss st<ss.length:=by omega
  have y:ss≠[]:=by rintro rfl;simp at d
  have E:=hE y;obtain⟨x,s,w,r,hS⟩:=h.jK d;have u:=Kj w r;rw[E.a];refine ix O O ?_;rw[add_lit,show 0+(ZE ss st:Int).toNat*3=3*ZE ss st by omega];refine wG (e:=0) (z.bV E.bV id) (E.get u.1) (E.get u.2.1) (E.get u.2.2) (C _ x s v _ w r ev λA G=>hR A _ (ev.trans G))
theorem Pe (h:fH U F p c ps ss){st:Nat}(hf:st+c.aF<=1024){R:aN}(h9:G3 c ss st=9->∀σ',aG U σ'->R 9 σ')
 (h0:G3 c ss st=0->∀σ' ps',Ext F U σ'->fH σ' (Grow F U) p c ps' (ir c ss st)->R 0 σ'):Y5.c (aW p) (st:Int) U R:=by
 refine Y5.o ?_;unfold Y5.v;have h:=fH.loc.cut h;obtain⟨sl,d,hl,ag,rb,cs,hE⟩:=h.np;have hfew:=h.qN;have hc:=h.ok;have hck:=hc;unfold cA.ok at hck;refine Ui h (cD rfl (bL (d.fM rfl (d.fM rfl (d.fM rfl ?_)))));refine Pf hc hf λv1 D K e1 hpn hqn W=>cD rfl (bL ((e1.bV d id).rS rfl ?_));have hplt:=d.lt;refine Qp (a:=bO) (λ(t:Int) v=>∃i:Nat,t=(i:Int)/\i<=ss.length/\aG v1 v/\∀(j:Nat) s,j<i->ss[j]?=some s->¬max s.st st-min s.st st<c.aF) (λt _=>ss.length-t.toNat) ⟨0,rfl,O,Ext.refl _ _,λj s z=>O⟩ ?_;rintro t v ⟨i,rfl,hi,ev,Y⟩;have w:=e1.trans ev;refine cP (λaf=>?_) λhge=>?_
 ·simp only at af;have ab:i<ss.length:=by omega
  obtain⟨E,hcap,hcl⟩:=hE (by rintro rfl;simp at ab);obtain⟨x,s,y,g,hS⟩:=h.jK ab;have eg:=Kj y g;have hsf:=hS.fit;rw[E.a];refine ix O O ?_;rw[add_lit,show 0+(i:Int).toNat*3=3*i by omega];refine wG (e:=0) (w.bV E.bV id) (E.get eg.1) (E.get eg.2.1) (E.get eg.2.2) (Fj λv6 e6 b6=>b6.fM rfl (b6.fM rfl ?_));have hd:(if(st:Int)>(s.st:Int)then(st:Int)else(s.st:Int))-(if(st:Int)<(s.st:Int)then(st:Int)else(s.st:Int))=((max s.st st-min s.st st:Nat):Int):=by
   split<;>split<;>omega
  refine cT (m:=max s.st st-min s.st st) hd O (bL (((w.trans e6).bV d id).fM rfl ?_));refine cP (λhlt2=>h9 ?_ _ (w.trans e6)) λhge2=>?_
  ·unfold G3;rw[zC];exact zy.2 ⟨s,zG g,by simpa using(by omega:max s.st st-min s.st st<c.aF)⟩
  ·refine cT (m:=i+1) O O ⟨⟨i+1,rfl,O,ev.trans e6,λj s' z Q=>?_⟩,O⟩;by_cases e:j=i
   ·subst e;rw[g]at Q;cases Q;omega
   ·exact Y j s' O Q
 ·have hii:i=ss.length:=by simp only at hge;omega
  subst hii;have hE0:G3 c ss st=0:=by
   unfold G3;rw[zB];simp only[rW,mr,zV];intro s g;obtain⟨j,z⟩:=zP g;exact Y j s (cY.1 z).1 z
  refine bL ((w.bV d id).rS rfl ?_);refine TL h w hl (λV=>(hE V).1) st O λv7 bb e7=>bL (((w.trans e7).bV d id).rS rfl ?_);have ai:=w.trans e7;obtain⟨hp1,kB⟩:=GM h.q9 st;refine nw (cs:=[.int .i64 0,.int .i64 st,.pointer (some ⟨D,0,none⟩)]) λv8 hz8 e8 hb8=>?_;have H:=ai.trans e8;have N:=aI.bP ag H;have hsz7:=ai.1;refine RS N hl O hp1 hb8 (λu=>by have:=u.1.2;omega) Fe ⟨rfl,rfl,rfl⟩ λs' v9 e9 hr9=>bL ?_;have hb9:=e9.bV (H.bV d id) λu=>u.2.1 rfl;refine hb9.s1 aA λS gC ah=>?_;have J:=h.len;have B:=h.nd;simp only[zr]at B;have af:=W.lt;have hsz1:=(ev.trans e7).trans e8 |>.1;have C:∀b∈eD ps,b<U.size:=λb d=>(h.fb b d).2;have ad:∀{a b s'},ig v8 a b c s'->¬(Cut F U a/\a≠p/\a∉eD ps)->¬(Cut F U b/\b≠p/\b∉eD ps)->a≠p->b≠p->ig S a b c s':=λhS n1 n2 m1 m2=>(hS.bT e9 n1 n2).bT gC.ext m1 m2;have ae:=((W.bP ev).bP e7).bP e8;have ac:dT (ps.take (ZE ss st)++(D,K)::ps.drop (ZE ss st)) (ss.take (ZE ss st)++⟨st,List.replicate c.n false⟩::ss.drop (ZE ss st)) =
   (dT ps ss).take (3*ZE ss st)++[.int .i64 0,.int .i64 st,.pointer (some ⟨D,0,none⟩)]++(dT ps ss).drop (3*ZE ss st):=by
   rw[VJ (by simp[J])];have r:dT ps ss=dT (ps.take (ZE ss st)) (ss.take (ZE ss st))++dT (ps.drop (ZE ss st)) (ss.drop (ZE ss st)):=by
    rw[←VJ (by simp[J]),n4,n4]
   have Z:(dT (ps.take (ZE ss st)) (ss.take (ZE ss st))).length=3*ZE ss st:=by rw[KA (by simp[J]),zY];omega
   rw[r,AA Z,List.drop_left' Z,zk];have:cH.many ⟨st,List.replicate c.n false⟩=0:=by simp[cH.many,AW]
   simp[dT,this]
  refine h0 hE0 S (ps.take (ZE ss st)++(D,K)::ps.drop (ZE ss st)) ?_ ?_
  ·refine(((aG.to H).trans (e9.sub λb d=>d.1.1))).trans (gC.ext.sub λb d=>d▸h.fp.1)
  ·have A:(eD (ps.take (ZE ss st)++(D,K)::ps.drop (ZE ss st))).Perm (D::K::eD ps):=by
    have:eD ps=eD (ps.take (ZE ss st))++eD (ps.drop (ZE ss st)):=by
     conv=>lhs;rw[←n4 (ZE ss st) ps]
     simp only[eD,List.flatMap_append]
    rw[this];have h3:eD (ps.take (ZE ss st)++(D,K)::ps.drop (ZE ss st))=eD (ps.take (ZE ss st))++D::K::eD (ps.drop (ZE ss st)):=by simp[eD]
    rw[h3];exact List.perm_middle.trans ((List.perm_middle).cons D)
   have P:∀b,b∈eD (ps.take (ZE ss st)++(D,K)::ps.drop (ZE ss st))↔b=D\/b=K\/b∈eD ps:=by
    intro b;rw[A.mem_iff];simp
   refine⟨⟨s',ah,?_⟩,λi x s y g=>?_,.inl h.fp.1,λb d=>?_,?_,?_,hc,?_⟩
   ·rw[yf,ac];refine aI.bT (aI.mono hr9 λb _ d=>?_) gC.ext λb _ d he=>d.2.1 he;rw[P];rcases d with d|d
    ·exact⟨.inl d.1.1,d.2.1,λu=>by
      rcases u with h|h|h
      ·have:=d.1.2;omega
      ·have:=d.1.2;omega
      ·exact d.2.2 h⟩
    ·exact⟨.inr O,O,λu=>by
      rcases u with h|h|h
      ·omega
      ·omega
      ·have:=C b h;omega⟩
   ·rw[yf]at g;have M:(ps.take (ZE ss st)).length=ZE ss st:=by rw[zY];omega
    have L:(ss.take (ZE ss st)).length=ZE ss st:=by rw[zY];omega
    have aa:∀j:Nat,ps[j]?=some x->ss[j]?=some s->ig S x.1 x.2 c s:=λj r Z=>by
     have G:=QX r;exact ad ((h.sp j x s r Z).bP H) (λu=>u.2.2 G.1) (λu=>u.2.2 G.2) (λe=>B.1 (e▸G.1)) (λe=>B.1 (e▸G.2))
    rcases qt i (ZE ss st)with hlt'|heq|hgt
    ·rw[zd O,zl,zC hlt']at y g;exact aa i y g
    ·rw[zp O]at y g;rw[M,heq,oQ]at y;rw[L,heq,oQ]at g;simp at y g;subst y;subst g;exact ad ae (λu=>by have:=u.1.2;simp only at this;omega) (λu=>by have:=u.1.2;simp only at this;omega) aC aC
    ·rw[zp O]at y g;rw[M]at y;rw[L]at g;obtain⟨k,hk⟩:∃k,i-ZE ss st=k+1:=⟨i-ZE ss st-1,O⟩;rw[hk,yO,lG]at y g;exact aa _ y g
   ·rcases(P b).1 d with r|r|r
    ·subst r;exact .inr hpn
    ·subst r;exact .inr hqn
    ·exact .inl (h.fb b r).1
   ·simp only[zr];refine⟨λG=>?_,?_⟩
    ·rcases(P p).1 G with r|r|r
     ·omega
     ·omega
     ·exact B.1 r
    ·rw[A.nodup_iff];simp only[zr,zW,not_or];have V:=W.ne;exact⟨⟨V,λG=>by have:=C _ G;omega⟩,λG=>by have:=C _ G;omega,B.2⟩
   ·rw[yf];simp[J]
   ·rw[yf];rw[qE];have X:=h.q9;refine⟨X.sublist (Du _ _),sR.2 ⟨λs g=>?_,X.sublist (List.drop_sublist _ _)⟩,λa ha b d=>?_⟩
    ·obtain⟨j,z⟩:=zP g;rw[lG]at z;have r:=kB _ s z;have Z:s.st≠st:=λe=>by
      have:=Y (ZE ss st+j) s (cY.1 z).1 z;rw[e]at this;simp at this;omega
     show st<s.st;omega
    ·obtain⟨i,hi⟩:=zP ha;rw[zl]at hi;split at hi
     ·rename_i hlt';have hat:=(kB i a hi).2 hlt';rcases zW.1 d with rfl|d
      ·exact hat
      ·obtain⟨j,z⟩:=zP d;rw[lG]at z;obtain⟨hi1,hi2⟩:=cY.1 hi;obtain⟨hj1,hj2⟩:=cY.1 z;have:=my.1 X i (ZE ss st+j) hi1 hj1 O;rw[hi2,hj2]at this;exact this
     ·cases hi
end Go.Ar
namespace Go.Proofs
open Go.Vc
set_option maxRecDepth 100000
def Xz.h:Hn:=.q .o1 (.q (.cU (.seq [.op,.op,.op,.cW true 5 (RI.ops 5),.op])) .l)
def Xz.v (a:R2)(b:Hp)(c:aO):Prop:=bX (λd e=>c d e) λf=>If (!a.isNone) (bE a 0 b λh=>f (decide (h>0)) b) (f false b)
theorem Xz.o {a b c}(d:Xz.v a b c):Xz.c a b c:=Wa Tryz.func199 (x:=Xz.h) (R0 d)
def Qg.h:Hn:=.q .o2 (.q (.q (.cU (.seq [.op,.op,.op,.cW false 2 [.op,.op],.op,.cW false 2 [.op,.op],.op,.cW false 2 [.op,.op]])) .aJ) (.q .o6 .l))
def Qg.v (a b:Int)(c:Hp)(d:Option Addr->Int->Hp->Prop):Prop:=bX (λe f=>bX (λg h=>bX (λi j=>If i (d none 1 j) (aV #[.I a,.I b,.I 0,.slice none 0 0] 283 j λk l=>d (some k) 0 l)) λm=>If g (m true h) (m (decide (b>8)) h)) λn=>If e (n true f) (n (decide (b<0)) f)) λo=>If (a<1) (o true c) (o (decide (a>32)) c)
theorem Qg.o {a b c d}(e:Qg.v a b c d):Qg.c a b c d:=Wa Tryz.func213 (x:=Qg.h) (R0 e)
def WT.h:Hn:=.q .o2 (.q (.k (.q .o4 (.c .aL (.q .o7 .aJ)))) (.q .o7 (.q .o8 (.q .gC (.q .gC (.q .o3 .l))))))
def WT.v (a:R2)(b:Hp)(c:Sl->Int->Hp->Prop):Prop:=Xz.c a b λd e=>If (!d) (c ⟨none,0,0⟩ 5 e) (bF a 3 e λg=>If (((g.len:Nat):Int)==0) (c ⟨none,0,0⟩ 4 e) (bF a 3 e λi=>bM (((i.len:Nat):Int)-1) λj=>bF a 3 e λl=>Ix l.a l.len j 1 λm=>jJ m e λn=>bF a 3 e λp=>fA p 1 0 j (p.cap:Nat) λq=>bW a λr=>aR r 3 (.slice q.a q.len q.cap) e λs=>bE a 2 s λu=>bW a λv=>aR v 2 (.I (if j<u then j else u)) s λw=>c n 0 w))
theorem WT.o {a b c}(d:WT.v a b c):WT.c a b c:=Wa Tryz.func232 (x:=WT.h) (R0 d)
def Xq.h:Hn:=.q .o2 (.q (.k (.q .o4 (.c .aL (.q .o8 (.c .aL (.q (.oq 11) .aJ)))))) (.q (.cU (.held true [8,11] (.tk [0,1,2,3,4,5] (.all [(6,.all [(7,.all [(8,.take 9 (.take 10 (.all [(11,.done)])))])])])))) .aL))
def Xq.v (a:R2)(b:Sl)(c:Hp)(d:Bool->Int->Hp->Prop):Prop:=Xz.c a c λe f=>If (!e) (d false 5 f) (bE a 0 f λh=>If (((b.len:Nat):Int) != h) (d false 1 f) (bF a 3 f λj=>bE a 1 f λl=>If (((j.len:Nat):Int)≥l) (d false 0 f) (dV f λm=>bW a λn=>aT m n 3 λo=>W3.c b f λp q=>And (m q) <| aV #[.slice p.a p.len p.cap] 31 q λr s=>And (m s) <| App o 1 24 31 [.slice none 0 0] ⟨some r,1,1⟩ s λt u=>bW a λv=>aR v 3 (.slice t.a t.len t.cap) u λw=>d true 0 w)))
theorem Xq.o {a b c d}(e:Xq.v a b c d):Xq.c a b c d:=Wa Tryz.func300 (x:=Xq.h) (R0 e)
end Go.Proofs
namespace Go.Ar
open Go Go.Vc Go.Proofs
variable {U:Hp}{F:Rg}{p batch room:Nat}{t:gQ}
def qL (s:Sl):Value:=.slice s.a s.len s.cap
def Wu (xs:List Int):List Value:=xs.map (Value.int .i64)
theorem Uc {l:List Int}:∀v∈Wu l,dU v=true:=by
 intro v hv;simp only[Wu,zE]at hv;obtain⟨x,_,rfl⟩:=hv;rfl
def rH (sls:List Sl)(bs:List (List Int))(U:Hp)(D:Rg):Prop:=sls.length=bs.length/\∀(i:Nat) s xs,sls[i]?=some s->bs[i]?=some xs->cV s 1 (Wu xs) U D/\s.len<=s.cap
theorem rH.loc (sls:List Sl)(bs:List (List Int)):dN (rH sls bs):=λU m F G h g j=>⟨h.1,λi s b d a=>⟨cV.loc _ _ _ _ _ _ _ (h.2 i s b d a).1 g j,(h.2 i s b d a).2⟩⟩
def Dj (sls:List Sl):Prop:=sls.Pairwise λs t=>∀a a',s.a=some a->t.a=some a'->a.block≠a'.block
def k5 (s:Sl)(b:Nat):Prop:=∃a,s.a=some a/\a.block=b
theorem _root_.Go.Vc.cV.mC {s:Sl}{sz:Nat}{xs:List Value}{D:Rg}(h:cV s sz xs U D):cV s sz xs U λb=>D b/\k5 s b:=
 ⟨h.1,h.2.imp id λ⟨b,o,g,d,a,r⟩=>⟨b,o,g,⟨d,_,a,rfl⟩,a,r⟩⟩
theorem _root_.Go.Vc.cV.bV {s:Sl}{sz:Nat}{xs:List Value}{D:Rg}(h:cV s sz xs U D)(hx:xs≠[]){b:Nat}(hb:k5 s b):D b/\b<U.size:=by
 rcases h.2 with h0|⟨b',o,cs,hq,ha,hc,_⟩
 ·exact absurd h0 hx
 ·obtain⟨a,d,rfl⟩:=hb;rw[ha]at d;cases d;exact⟨hq,hc.lt⟩
theorem Dj.snoc {sls:List Sl}{bs:List (List Int)}{D:Rg}{z:Nat}{s':Sl}{xs:List Value}{v:Hp}(h:Dj sls)(hB:rH sls bs U D)(hne:∀xs∈bs,xs≠[])(hz:∀b,D b->b<z)(hs:bS s' 1 xs v λb=>z<=b)(hx:xs≠[]):Dj (sls++[s']):=by
 refine qE.2 ⟨h,List.pairwise_singleton _ _,λs j u m a p x w=>?_⟩;rw[zN]at m;subst m;obtain⟨i,hi⟩:=zP j;have g:=(cY.1 hi).1;have d:bs[i]?=some (bs[i]'(by rw[←hB.1];exact g)):=cX _;have r:=((hB.2 i s _ hi d).1.bV (by simp only[Wu,ne_eq,AT];exact hne _ (zG d)) ⟨a,x,rfl⟩).1;have y:=(hs.fW.bV hx ⟨p,w,rfl⟩).1;have:=hz _ r;omega
structure iV (U:Hp) (F:Rg) (p batch room:Nat) (t:gQ):Prop where
 mem:∃(sl:Sl) (sls:List Sl) (D:Rg),bZ U p [.int .i64 (batch:Int),.int .i64 (room:Int),.int .i64 (t.low:Int),.slice sl.a sl.len sl.cap]/\bS sl 1 (sls.map qL) U (λb=>F b/\b≠p/\¬D b)/\rH sls t.bs U D/\(∀b,D b->F b/\b≠p)/\Dj sls
 fp:F p
 b1:1<=batch/\batch<=32
 r1:room<=8
 qN:t.bs.length<=room
 low:t.low<=t.bs.length
 all:∀xs∈t.bs,xs.length=batch
theorem iV.loc:dN λU F=>iV U F p batch room t:=λU x F G h m d=>by
 obtain⟨sl,i,D,a,w,s,j,u⟩:=h.mem;refine⟨⟨sl,i,λb=>D b/\b<U.size,?_,?_,?_,λb a=>⟨(d b a.2 (j b a.1).1).1,(j b a.1).2⟩,u⟩,(d p a.lt h.fp).1,h.b1,h.r1,h.qN,h.low,h.all⟩
 ·obtain⟨e,r⟩:=a;exact⟨e,(d p (bZ.lt ⟨e,r⟩) h.fp).2.trans r⟩
 ·exact bS.loc _ _ _ _ _ _ _ w m λb a g=>⟨⟨(d b a g.1).1,g.2.1,λhd=>g.2.2 hd.1⟩,(d b a g.1).2⟩
 ·exact rH.loc _ _ _ _ _ _ s m λb a hd=>⟨⟨hd,a⟩,(d b a (j b hd).1).2⟩
theorem iV.bP {σ':Hp}(h:iV U F p batch room t)(e:aG U σ'):iV σ' F p batch room t:=dN.bP iV.loc h e
theorem B8 (h:iV U F p batch room t){R:aO}(hR:R true U):Xz.c (aW p) U R:=by
 refine Xz.o ?_;unfold Xz.v;obtain⟨sl,a,D,b,_⟩:=h.mem;have:=h.b1;refine bX.intro (cF rfl (bL (b.rI rfl ?_)));rw[zI O];exact hR
theorem _root_.Go.Vc.cV.Pp {s:Sl}{F:Rg}{sls:List Sl}(h:cV s 1 (sls.map qL) U F){i:Nat}{x:Sl}(hx:sls[i]?=some x){K:Sl->Prop}(hK:K x):Ix s.a s.len (i:Int) 1 λa=>jJ a U K:=by
 have hi:=(cY.1 hx).1;obtain⟨b,o,g,m⟩:=h.cell (j:=i) (v:=qL x) (by simp[hx]);have d:=h.1;rw[zj]at d;rw[g];refine ix O O ?_;rw[add_lit];exact oE (by simpa[qL]using m) hK
theorem O0 (h1:1<=batch)(h2:batch<=32)(h3:room<=8){R:Option Addr->Int->Hp->Prop}(hR:∀σ' p,aG U σ'->U.size<=p->p<σ'.size->iV σ' (· = p) p batch room ⟨0,[]⟩->R (some ⟨p,0,none⟩) 0 σ'):Qg.c batch room U R:=by
 refine Qg.o ?_;unfold Qg.v;refine bX.intro (gg O (bX.intro (gg O (bX.intro (gg O (gg O ?_))))));refine nw (cs:=[.int .i64 batch,.int .i64 room,.int .i64 0,.slice none 0 0]) λv d e a=>?_;exact hR v _ e (zD _) O ⟨⟨⟨none,0,0⟩,[],λ_=>False,a,bS.nil _ _ _ _,⟨rfl,λi s g h=>by simp at h⟩,λb h=>h.elim,List.Pairwise.nil⟩,rfl,⟨h1,h2⟩,h3,by simp,by simp,by simp⟩
theorem NU (h:iV U F p batch room t){sl:Sl}{xs:List Int}{X:Rg}(hs:cV sl 1 (Wu xs) U X)(hl:xs.length<=1000000){R:Bool->Int->Hp->Prop}(h1:xs.length≠batch->R false 1 U)(h2:xs.length=batch->room<=t.bs.length->R false 0 U)
 (h3:xs.length=batch->t.bs.length<room->∀σ',Ext F U σ'->iV σ' (Grow F U) p batch room {t with bs:=t.bs++[xs]}->R true 0 σ'):Xq.c (aW p) sl U R:=by
 refine Xq.o ?_;unfold Xq.v;have h:=iV.loc.cut h;obtain⟨B,z,D,d,hr,w,J,hJ⟩:=h.mem;have r:sl.len=xs.length:=by have:=hs.1;simp[Wu]at this;omega
 have hso:B.len=t.bs.length:=by have:=hr.1;rw[zj,w.1]at this;omega
 have hr8:=h.r1;have hb1:=h.b1;refine B8 h (cD rfl (bL (d.rI rfl ?_)));rw[r8];refine cN (λA=>h1 (by rw[←r];simpa using A)) λM=>?_;have g:xs.length=batch:=by rw[←r];simpa using M
 refine bL (d.rS rfl (bL (d.rI rfl (cP (λP=>h2 g (by simp only at P;omega)) λZ=>?_))));simp only at Z;refine⟨λh'=>bZ h' p [.int .i64 (batch:Int),.int .i64 (room:Int),.int .i64 (t.low:Int),.slice B.a B.len B.cap],d,bL ⟨B,λh' W=>by rw[add_lit,W.cell];rfl,?_⟩⟩;refine HJ hs Uc O λy v1 hl1 e1 x=>⟨e1.bV d id,?_⟩;refine nw (cs:=[.slice y.a y.len y.cap]) λv2 hz2 e2 V=>⟨(e1.trans e2).bV d id,?_⟩;have Y:=aI.bP (aI.bP hr e1) e2;refine Y.app (ys:=[qL y]) rfl rfl ?_ (by simp[dU,qL]) ?_ ?_ nu λs2 v3 hl3 Q L=>bL ?_
 ·intro j u hu;rw[add_lit,zH,V.cell];exact hu
 ·simp only;have:(B.len+1)*24<=9*24:=mo O O;omega
 ·simp only;omega
 ·have N:=Q.bV ((e1.trans e2).bV d id) λH=>H.2.1 rfl;have aa:=d.lt;have hs1:=e1.1;refine N.s1 aA λv4 o4 K=>h3 g O v4 ?_ ?_
  ·exact((aG.to (e1.trans e2)).trans (Q.sub λb d=>d.1.1)).trans (o4.ext.sub λb d=>d▸h.fp.1)
  ·refine⟨⟨s2,z++[y],λb=>D b/\b<U.size\/U.size<=b/\b<v1.size,K,?_,⟨by simp[w.1],λi s ys hi m=>?_⟩,λb d=>?_,?_⟩,.inl h.fp.1,h.b1,h.r1,by simp;omega,by have:=h.low;simp;omega,λys m=>?_⟩
   ·rw[zm];refine aI.bT (aI.mono L λb _ d=>?_) o4.ext λb _ d S=>d.2.1 S;rcases d with d|d
    ·exact⟨.inl d.1.1,d.2.1,λhd=>by
      rcases hd with hd|hd
      ·exact d.2.2 hd.1
      ·have:=d.1.2;omega⟩
    ·exact⟨.inr O,O,λhd=>by rcases hd with hd|hd<;>omega⟩
   ·have mv:∀{s:Sl} {ys:List Int} {G:Rg},cV s 1 (Wu ys) v2 G->(∀b,G b->b≠p/\¬(Cut F U b/\b≠p/\¬D b))->cV s 1 (Wu ys) v4 G:=λW hn=>
     aH.bT (aH.bT W Q λb _ d=>(hn b d).2) o4.ext λb _ d S=>(hn b d).1 S
    rcases kg i z.length with hi'|hi'
    ·rw[zd hi']at hi;rw[zd (by rw[←w.1];exact hi')]at m;obtain⟨k1,k2⟩:=w.2 i s ys hi m;refine⟨aH.mono (mv (aH.bP (aH.bP (aH.mono k1 (G:=λb=>D b/\b<U.size) λb d hd=>⟨hd,d⟩) e1) e2) λb hd=>⟨(J b hd.1).2,λH=>H.2.2 hd.1⟩) λb _ hd=>.inl hd,k2⟩
    ·rw[zp hi']at hi;rw[zp (by rw[←w.1];exact hi')]at m;have C:i-z.length=0:=by
      have:=(cY.1 hi).1;simp at this;omega
     rw[C]at hi;rw[show i-t.bs.length=0 by rw[←w.1];exact C]at m;simp at hi m;subst hi;subst m;have E:y.len<=y.cap:=by
      rcases x.2 with⟨q1,q2⟩|⟨_,_,_,_,_,q,_⟩
      ·omega
      ·exact q
     refine⟨aH.mono (mv (aH.bP (aH.mono x.fW (G:=λb=>U.size<=b/\b<v1.size) λb d hd=>⟨hd,d⟩) e2) λb hd=>⟨O,λH=>by have:=H.1.2;omega⟩) λb _ hd=>.inr hd,E⟩
   ·rcases d with hd|hd
    ·exact⟨.inl (J b hd.1).1.1,(J b hd.1).2⟩
    ·exact⟨.inr hd.1,O⟩
   ·have A:∀ys∈t.bs,ys≠[]:=λys m e=>by have:=iV.all ‹_› ys m;rw[e]at this;simp at this;omega
    exact hJ.snoc w A (λb hd=>(J b hd).1.2) x (by simp only[Wu,ne_eq,AT];intro e;rw[e]at g;simp at g;omega)
   ·rcases zM.1 m with h|h
    ·exact iV.all ‹_› ys h
    ·simp at h;subst h;exact g
theorem RY (h:iV U F p batch room t)(h0:t.bs=[]){R:Sl->Int->Hp->Prop}(hR:R ⟨none,0,0⟩ 4 U):WT.c (aW p) U R:=by
 refine WT.o ?_;unfold WT.v;obtain⟨j,d,D,g,i,b,r,m⟩:=h.mem;have a:j.len=t.bs.length:=by have:=i.1;rw[zj,b.1]at this;omega
 refine B8 h (cD rfl (bL (g.rS rfl (cF ?_ hR))));simp[a,h0]
theorem No (h:iV U F p batch room t)(h0:t.bs≠[]){R:Sl->Int->Hp->Prop}(hR:∀out σ',Ext F U σ'->(∀b,k5 out b->F b)->cV out 1 (Wu (t.bs.getLast?.getD [])) σ' (k5 out)->out.len<=out.cap->iV σ' (λb=>F b/\¬k5 out b) p batch room t.rem->R out 0 σ'):WT.c (aW p) U R:=by
 refine WT.o ?_;unfold WT.v;obtain⟨N,g,D,d,H,x,B,X⟩:=h.mem;have hso:N.len=t.bs.length:=by have:=H.1;rw[zj,x.1]at this;omega
 have Y:=py.2 h0;have hr8:=h.r1;have ab:=h.qN;have aa:=h.low;have K:t.bs.length-1<g.length:=by rw[x.1];omega
 obtain⟨o,L⟩:∃o,g[t.bs.length-1]?=some o:=⟨_,cX K⟩;have j:t.bs[t.bs.length-1]?=some (t.bs.getLast?.getD []):=by
  rw[List.getLast?_eq_getElem?,cX O];rfl
 obtain⟨Z,k2⟩:=x.2 _ o _ L j;refine B8 h (cD rfl (bL (d.rS rfl (cD ?_ ?_))))
 ·simp only[mP];omega
 refine bL (d.rS rfl (cT (m:=t.bs.length-1) aC O (bL (d.rS rfl ?_))));refine H.fW.Pp L (bL (d.rS rfl ?_));have W:N.len<=N.cap:=by
  rcases H.2 with⟨q1,q2⟩|⟨_,_,_,_,_,q,_⟩
  ·omega
  ·exact q
 refine jl (lo:=0) O aD aD (bL (d.s1 aA λv1 o1 G=>bL (G.rI rfl (bL ?_))))
 refine G.s1 aA λv2 o2 r=>?_;have u:Ext (· = p) U v2:=o1.ext.trans o2.ext;have C:(if((t.bs.length-1:Nat):Int)<(t.low:Int)then((t.bs.length-1:Nat):Int)else(t.low:Int))=((min t.low (t.bs.length-1):Nat):Int):=by split<;>omega
 rw[C]at r;have S:∀A∈t.bs,A≠[]:=λA w e=>by have V:=h.all A w;have h2:=h.b1;rw[e]at V;simp at V;omega
 have z:∀b,k5 o b->D b:=λb d=>(Z.bV (by simp only[Wu,ne_eq,AT];exact S _ (zG j)) d).1;refine hR o v2 (u.sub λb d=>d▸h.fp) (λb d=>(B b (z b d)).1) (aH.mono (aH.bT Z u λb _ d E=>(B b d).2 E).mC λb _ hd=>hd.2) k2 ⟨⟨_,g.dropLast,λb=>D b/\¬k5 o b,r,?_,⟨by simp[x.1,gQ.rem],λi s A hi w=>?_⟩,λb hd=>⟨⟨(B b hd.1).1,hd.2⟩,(B b hd.1).2⟩,List.Pairwise.sublist (List.dropLast_sublist _) X⟩,⟨h.fp,λd=>(B p (z p d)).2 rfl⟩,h.b1,h.r1,by simp[gQ.rem];omega,by simp[gQ.rem];omega,λA w=>h.all A (List.dropLast_subset _ w)⟩
 ·refine aI.bT ?_ u λb _ d E=>d.2.1 E;refine⟨by simp[x.1],?_⟩;rcases H.2 with⟨q1,q2⟩|⟨b,cs,hq,M,hbb,hle,hcl,ht⟩
  ·omega
  ·refine .inr ⟨b,cs,⟨⟨hq.1,λd=>hq.2.2 (z b d)⟩,hq.2.1,λhd=>hq.2.2 hd.1⟩,?_,hbb,by simp only;omega,by simp only;omega,?_⟩
   ·simp only[M];split<;>simp[add_lit]
   ·simp only[zj]at ht ⊢;have hd:g.dropLast.map qL=(g.map qL).take (g.length-1):=by rw[AK,List.map_take]
    rw[hd,←ht,AI,C9]
    congr 1;omega
 ·have y:i<t.bs.length-1:=by
   have:=(cY.1 w).1;simpa[gQ.rem]using this
  rw[AK,zl]at hi;simp only[gQ.rem,AK,zl]at w;rw[zC (by rw[x.1];exact y)]at hi;rw[zC y]at w;obtain⟨m1,m2⟩:=x.2 i s A hi w;refine⟨aH.mono (aH.bT m1 u λb _ d E=>(B b d).2 E).mC λb _ d=>⟨d.1,λr=>?_⟩,m2⟩;obtain⟨a,M,e1⟩:=d.2;obtain⟨a',J,e2⟩:=r;obtain⟨P,rfl⟩:=cY.1 hi;obtain⟨Q,rfl⟩:=cY.1 L;exact my.1 X i _ P Q y a a' M J (e1.trans e2.symm)
def wO (out:Sl)(bs:List (List Int))(U:Hp)(G:Rg):Prop:=∃sls:List Sl,cV out 1 (sls.map qL) U G/\rH sls bs U G
theorem wO.loc (out:Sl)(bs:List (List Int)):dN (wO out bs):=λU j F G ⟨a,i,g⟩ b d=>⟨a,cV.loc _ _ _ _ _ _ _ i b d,rH.loc _ _ _ _ _ _ g b d⟩
end Go.Ar
namespace Go.Ar
open Go Go.Vc Go.Proofs
open Go.Bu (Zx)
variable {U:Hp}{F:Rg}{p:Nat}{ow:Nat->Nat}
def vA (ow:Nat->Nat)(x:Nat)(l:List (Nat×Nat×Nat)):Prop:=
 l.length<=x/\(∀r∈l,1<=r.2.1/\r.1+r.2.1<=x/\∀y,r.1<=y->y<r.1+r.2.1->ow y=r.2.2)/\∀y,y<x->ow y≠0->∃r∈l,r.1<=y/\y<r.1+r.2.1
theorem vA.new {x:Nat}{l:List (Nat×Nat×Nat)}(h:vA ow x l):vA ow (x+1) (l++[(x,1,ow x)]):=by
 refine⟨by simp;exact h.1,λr d=>?_,λy i g=>?_⟩
 ·rcases zM.1 d with a|a
  ·exact⟨(h.2.1 r a).1,by have:=(h.2.1 r a).2.1;omega,(h.2.1 r a).2.2⟩
  ·simp at a;subst a;exact⟨zD _,zD _,λy a b=>by simp only at a b ⊢;rw[show y=x by omega]⟩
 ·rcases kg y x with a|a
  ·obtain⟨r,d,b⟩:=h.2.2 y a g;exact⟨r,kL _ d,b⟩
  ·exact⟨(x,1,ow x),by simp,by simp only;omega⟩
theorem vA.more {x a m no:Nat}{l:List (Nat×Nat×Nat)}(h:vA ow x (l++[(a,m,no)]))(he:a+m=x)(hno:ow x=no):vA ow (x+1) (l++[(a,m+1,no)]):=by
 refine⟨by have:=h.1;simp at this ⊢;omega,λr g=>?_,λy j i=>?_⟩
 ·rcases zM.1 g with b|b
  ·have:=h.2.1 r (kL _ b);exact⟨this.1,O,this.2.2⟩
  ·simp at b;subst b;have:=h.2.1 (a,m,no) aA;refine⟨by simp only;omega,by simp only;omega,λy b d=>?_⟩;simp only at b d ⊢;rcases kg y (a+m)with h3|h3
   ·exact this.2.2 y b h3
   ·rw[show y=x by omega];exact hno
 ·rcases kg y x with b|b
  ·obtain⟨r,g,d⟩:=h.2.2 y b i;rcases zM.1 g with h3|h3
   ·exact⟨r,kL _ h3,d⟩
   ·simp at h3;subst h3;exact⟨(a,m+1,no),by simp,by simp only at d ⊢;omega⟩
  ·exact⟨(a,m+1,no),by simp,by simp only;have:=h.2.1 (a,m,no) aA;simp only at this;omega⟩
end Go.Ar
namespace Go.Proofs
open Go.Vc
set_option maxRecDepth 100000
def Yy.h:Hn:=.q .o1 (.q (.q .o4 (.q .o2 .aJ)) (.q .o5 .aM))
def Yy.v (a:R2)(b c:Int)(d:Hp)(e:aN):Prop:=XI.c a b 1 d λf g=>If (f != 0) (e f g) (Nz 8<|bM (b.tdiv 8) λh=>Zs.c a h c g λi=>e 0 i)
theorem Yy.o {a b c d e}(f:Yy.v a b c d e):Yy.c a b c d e:=Wa Tryz.func62 (x:=Yy.h) (R0 f)
def YX.h:Hn:=.q .o2 (.q (.q .o4 (.q .o2 (.c (.q .o3 .l) .l))) (.q .o6 .l))
def YX.v (a:R2)(b:Int)(c:Hp)(d:Int->Int->Hp->Prop):Prop:=XI.c a b 1 c λe f=>If (e != 0) (d 0 e f) (Nz 8<|bM (b.tdiv 8) λg=>Zj.c a g f λh i=>d h 0 i)
theorem YX.o {a b c d}(e:YX.v a b c d):YX.c a b c d:=Wa Tryz.func65 (x:=YX.h) (R0 e)
def XI.h:Hn:=.q .o1 (.q (.k (.q .o4 (.c .aM (.q .o3 (.c .aM (.q (.cU (.seq [.op,.op,.op,.cW false 3 (RI.ops 3),.op])) .aK)))))) (.q .gC (.q (.q (.cU (.gI true [] [(50,.one .b)] (.tk [0,1,2,3,4,5,6,7] (.split 39 (.tk [8,9,10,11,12,13,14,15,16,17,18] (.done)) (.tk [8,9,10,11,12,13,14,15,16] (.all [(17,.take 18 (.done))])))))) .aK) .aM)))
def XI.v (a:R2)(b c:Int)(d:Hp)(e:aN):Prop:=XU.c a d λf g=>If (!f) (e 5 g) (If (c==0) (e 0 g) (bX (λh i=>If h (e 7 i) (Nz 256<|bM (b.tdiv 256) λj=>Nz 8<|bM (b.tdiv 8) λk=>bM (k+c) λl=>bM (l-1) λm=>Nz 32<|bM (m.tdiv 32) λn=>Jn [.b] (λ(o:Bool) p=>If o (e 7 p) (e 0 p)) λq=>dV i λr=>bW a λs=>aT r s 0 λt=>If (n≥((t.len:Nat):Int)) (q true i) (bW a λu=>aT r u 0 λv=>bM (n+1) λw=>fA v 2 j w (v.cap:Nat) λx=>gK r .b ((Addr.mk 0 0 none).add 0) λ(y:Bool)=>gK r .b ((Addr.mk 0 0 none).add 1) λ(z:Bool)=>Wq.c x y z i λaa ab=>And (r ab) <| q aa ab))) λac=>If (b<0) (ac true g) (Nz 8 <| ac ((b.tmod 8) != 0) g)))
theorem XI.o {a b c d e}(f:XI.v a b c d e):XI.c a b c d e:=Wa Tryz.func104 (x:=XI.h) (R0 f)
def Zs.h:Hn:=.q .o3 (.kK [] (.q (.oq 9) (.c (.q (.cU (.tail 7 (RI.ops 7) [.op])) (.q (.cU (.held true [6] (.tk [0,1,2,3,4] (.all [(5,.all [(6,.done)])])))) (.cU (.tail 13 (RI.ops 13) [.op])))) .l)) (.o 11))
def Zs.v (a:R2)(b c:Int)(d:Hp)(e:aP):Prop:=Nz 32<|bM (b.tdiv 32) λf=>Jn [] (λg=>bJ a 1 g λi=>Lk .i64 .s i f g λj=>Nz 32 <| Ix (j.getD ⟨none,0,0⟩).a (j.getD ⟨none,0,0⟩).len (b.tmod 32) 1 λk=>dZ k (.I c) g λl=>e l) λm=>bF a 0 d λo=>Ix o.a o.len f 2 λp=>aZ p 0 d λq=>aZ p 1 d λr=>mj ((Addr.mk 1 0 none).add 0) d λs=>mj ((Addr.mk 1 0 none).add 1) d λt=>If (!((q==s)&&((r==t)&&true))) (bF a 0 d λv=>mj ((Addr.mk 1 0 none).add 0) d λw=>mj ((Addr.mk 1 0 none).add 1) d λx=>Ix v.a v.len f 2 λy=>aR y 0 (.bool w) d λz=>aR y 1 (.bool x) z λaa=>dV aa λab=>bW a λac=>gK ab .m (ac.add 1) λ(ad:Option Nat)=>Mk 32 32 8 3 [.I 0] aa λae af=>And (ab af) <| kQ .i64 .s ad f ae af λag=>bE a 2 ag λai=>bJ a 1 ag λak=>qR .i64 .s ak ag λal=>bW a λam=>aR am 2 (.I (if al>ai then al else ai)) ag λan=>m an) (m d)
theorem Zs.o {a b c d e}(f:Zs.v a b c d e):Zs.c a b c d e:=Wa Tryz.func105 (x:=Zs.h) (R0 f)
def Zj.h:Hn:=.q .o1 (.q (.q (.o 12) (.q .o1 (.c (.q .o6 .l) .l))) .aM)
def Zj.v (a:R2)(b:Int)(c:Hp)(d:aN):Prop:=bJ a 1 c λf=>Nz 32<|bM (b.tdiv 32) λg=>Lk .i64 .s f g c λh=>If h.isSome (Nz 32 <| Ix (h.getD ⟨none,0,0⟩).a (h.getD ⟨none,0,0⟩).len (b.tmod 32) 1 λi=>bN i c λj=>d j c) (d 0 c)
theorem Zj.o {a b c d}(e:Zj.v a b c d):Zj.c a b c d:=Wa Tryz.func110 (x:=Zj.h) (R0 e)
def X2.h:Hn:=.q .o1 (.q (.q .o3 .aK) (.q .o6 .l))
def X2.v (a:R2)(b:Hp)(c:aN):Prop:=XU.c a b λd e=>If (!d) (c 0 e) (bF a 0 e λg=>c ((g.len:Nat):Int) e)
theorem X2.o {a b c}(d:X2.v a b c):X2.c a b c:=Wa Tryz.func130 (x:=X2.h) (R0 d)
def XU.h:Hn:=.q .o1 (.q (.cU (.seq [.op,.op,.op,.cW true 6 (RI.ops 6),.op])) .l)
def XU.v (a:R2)(b:Hp)(c:aO):Prop:=bX (λd e=>c d e) λf=>If (!a.isNone) (bF a 0 b λh=>f (decide (((h.len:Nat):Int)>0)) b) (f false b)
theorem XU.o {a b c}(d:XU.v a b c):XU.c a b c:=Wa Tryz.func131 (x:=XU.h) (R0 d)
def Kx.h:Hn:=.q .o2 (.q (.q (.cU (.seq [.op,.op,.op,.cW false 2 [.op,.op]])) .aJ) (.q .o7 .l))
def Kx.v (a:Int)(b:Hp)(c:Option Addr->Int->Hp->Prop):Prop:=bX (λd e=>If d (c none 1 e) (Mk a a 2 181 [.bool false,.bool false] e λf g=>Nw (.map #[] 0) g λh i=>aV #[.slice f.a f.len f.cap,.map (some h.block),.I 0] 185 i λj k=>c (some j) 0 k)) λl=>If (a<1) (l true b) (l (decide (a>1024)) b)
theorem Kx.o {a b c}(d:Kx.v a b c):Kx.c a b c:=Wa Tryz.func153 (x:=Kx.h) (R0 d)
def Zr.h:Hn:=.q .o2 (.q (.k (.q .o4 (.c .aL (.q (.cU (.seq [.op,.op,.op,.cW false 2 [.op,.op],.op,.cW false 7 (RI.ops 7),.op,.cW false 9 (RI.ops 9),.op])) .aJ)))) (.q (.o 11) .l))
def Zr.v (a:R2)(b c:Int)(d:Hp)(e:Sl->Int->Hp->Prop):Prop:=XU.c a d λf g=>If (!f) (e ⟨none,0,0⟩ 5 g) (bX (λh i=>bX (λj k=>bX (λl m=>If l (e ⟨none,0,0⟩ 1 m) (bF a 0 m λo=>bM (b+c) λp=>fA o 2 b p (o.cap:Nat) λq=>e q 0 m)) λr=>If j (r true k) (bF a 0 k λt=>bM (((t.len:Nat):Int)-b) λu=>r (decide (c>u)) k)) λv=>If h (v true i) (bF a 0 i λx=>v (decide (b>((x.len:Nat):Int))) i)) λy=>If (b<0) (y true g) (y (decide (c<1)) g))
theorem Zr.o {a b c d e}(f:Zr.v a b c d e):Zr.c a b c d e:=Wa Tryz.func306 (x:=Zr.h) (R0 f)
def Zm.h:Hn:=.q .o1 (.q .o2 (.k (.loop [(8,.I)] (.q (.q .o5 (.c .l .l)) (.q (.k (.q (.cU (.tail 7 (RI.ops 7) [.op])) .o6)) .o3)))))
def Zm.v (a:R2)(b c:Int)(d e:Bool)(f:Hp)(g:aP):Prop:=aV #[.bool d,.bool e] 181 f λh i=>Yb [bO] (λj=>j b i) λk (l:Int) m=>bM (b+c) λn=>If (l<n) (bF a 0 m λp=>aZ h 0 m λq=>aZ h 1 m λr=>Ix p.a p.len l 2 λs=>aR s 0 (.bool q) m λt=>aR s 1 (.bool r) t λu=>bJ a 1 u λw=>l6 .i64 .s w l u λx=>bM (l+1) λy=>k y x) (g m)
theorem Zm.o {a b c d e f g}(h:Zm.v a b c d e f g):Zm.c a b c d e f g:=Wa Tryz.func307 (x:=Zm.h) (R0 h)
def Zl.h:Hn:=.q .o1 (.q .o9 (.q (.k (.q .o3 (.c .aL (.q .o3 .aK)))) (.q .o5 .aM)))
def Zl.v (a:R2)(b c:Int)(d:Hp)(e:aN):Prop:=Zr.c a b c d λf g h=>If (g != 0) (e g h) (Wk.c f ⟨342,#[],#[]⟩ h λi j=>If i (e 5 j) (mj ((Addr.mk 2 0 none).add 0) j λk=>mj ((Addr.mk 2 0 none).add 1) j λl=>Zm.c a b c k l j λm=>e 0 m))
theorem Zl.o {a b c d e}(f:Zl.v a b c d e):Zl.c a b c d e:=Wa Tryz.func318 (x:=Zl.h) (R0 f)
def YN.h:Hn:=.q .o2 (.q .o4 .l)
def YN.v (a b:Bool)(c:Hp)(d:aO):Prop:=aV #[.bool a,.bool b] 181 c λe f=>aZ e 0 f λg=>aZ e 1 f λh=>mj ((Addr.mk 0 0 none).add 0) f λi=>mj ((Addr.mk 0 0 none).add 1) f λj=>d (!((g==i)&&((h==j)&&true))) f
theorem YN.o {a b c d}(e:YN.v a b c d):YN.c a b c d:=Wa Tryz.func342 (x:=YN.h) (R0 e)
end Go.Proofs
namespace Go.Ar
open Go Go.Vc Go.Proofs
open Go.Bu (Zx)
variable {U:Hp}{F:Rg}{p q r:Nat}{sp:Sp}
structure Gl (U:Hp):Prop where
 c0:cell U ⟨2,0,none⟩=some (.bool true)
 c1:cell U ⟨2,1,none⟩=some (.bool false)
 u0:cell U ⟨0,0,none⟩=some (.bool false)
 u1:cell U ⟨0,1,none⟩=some (.bool false)
structure Gc (U:Hp):Prop where
 d0:cell U ⟨1,0,none⟩=some (.bool true)
 d1:cell U ⟨1,1,none⟩=some (.bool true)
structure Gd (U:Hp):Prop where
 lt:1<U.size
def jf (F:Rg):Prop:=∀b,F b->b≠2/\b≠0
theorem KO {h:Hp}{b o:Nat}{v:Value}(hc:cell h ⟨b,o,none⟩=some v):b<h.size:=(JZ hc).1
theorem Gl.bT {σ':Hp}(g:Gl U)(e:Ext F U σ')(hF:jf F):Gl σ':=by
 have a:¬F 2:=λh=>(hF _ h).1 rfl;have b:¬F 0:=λh=>(hF _ h).2 rfl;exact⟨(KR e (KO g.c0) a).trans g.c0,(KR e (KO g.c1) a).trans g.c1,(KR e (KO g.u0) b).trans g.u0,(KR e (KO g.u1) b).trans g.u1⟩
theorem Gc.bT {σ':Hp}(g:Gc U)(e:Ext F U σ')(hF:¬F 1):Gc σ':=⟨(KR e (KO g.d0) hF).trans g.d0,(KR e (KO g.d1) hF).trans g.d1⟩
theorem Gc.bP {σ':Hp}(g:Gc U)(e:aG U σ'):Gc σ':=g.bT e id
theorem Gd.bT {σ':Hp}(g:Gd U)(e:Ext F U σ')(hF:¬F 1):Gd σ':=⟨vo g.lt e.1⟩
theorem Gd.bP {σ':Hp}(g:Gd U)(e:aG U σ'):Gd σ':=g.bT e id
theorem Gc.gd (g:Gc U):Gd U:=⟨KO g.d0⟩
theorem Gl.bP {σ':Hp}(g:Gl U)(e:aG U σ'):Gl σ':=g.bT e λ_ h=>h.elim
theorem jf.grow (hF:jf F)(g:Gl U):jf (Grow F U):=λb a=>by
 rcases a with h|h
 ·exact hF b h
 ·have i:=KO g.c0;have d:=KO g.u0;exact⟨O,O⟩
theorem jf.sub {G:Rg}(hF:jf F)(h:∀b,G b->F b):jf G:=λb a=>hF b (h b a)
def gE:Nat->Bool×Bool
 | 0=>(false,false)
 | 1=>(true,false)
 | _=>(true,true)
def gZ (st:List Nat):List Value:=st.flatMap λx=>[.bool (gE x).1,.bool (gE x).2]
theorem V1 (l:List Nat):(gZ l).length=2*l.length:=by
 induction l with
 | nil=>rfl
 | cons x l ih=>simp only[gZ,pE,zK,zS,k9]at *;omega
theorem F7 {l:List Nat}{i x:Nat}(h:l[i]?=some x):(gZ l)[2*i]?=some (.bool (gE x).1)/\(gZ l)[2*i+1]?=some (.bool (gE x).2):=by
 induction l generalizing i with
 | nil=>simp at h
 | cons y l ih=>
  have e:gZ (y::l)=[.bool (gE y).1,.bool (gE y).2]++gZ l:=by simp[gZ]
  rw[e];cases i with
  | zero=>simp at h;subst h;simp
  | succ i=>
   have:=ih (i:=i) (by simpa using h);rw[show 2*(i+1)=2*i+2 by omega];simpa using this
theorem IA {l:List Nat}{i v:Nat}(h:i<l.length)(rest:List Value):((gZ l++rest).set (2*i) (.bool (gE v).1)).set (2*i+1) (.bool (gE v).2)=gZ (l.set i v)++rest:=by
 induction l generalizing i with
 | nil=>simp at h
 | cons y l ih=>
  have e:∀z m,gZ (z::m)=.bool (gE z).1 :: .bool (gE z).2::gZ m:=λz m=>by simp[gZ]
  cases i with
  | zero=>simp[e]
  | succ i=>
   have:=ih (i:=i) (by simpa using h);rw[sk,e,e,show 2*(i+1)=2*i+1+1 by omega];simp only[lN,sk];rw[this]
theorem BY {x y:Nat}(hx:x<=2)(hy:y<=2):(((gE x).1==(gE y).1)&&(((gE x).2==(gE y).2)&&true))=(x==y):=by
 match x,y,hx,hy with
 | 0,0,_,_=>rfl
 | 1,1,_,_=>rfl
 | 2,2,_,_=>rfl
 | 0,1,_,_=>rfl
 | 0,2,_,_=>rfl
 | 1,0,_,_=>rfl
 | 1,2,_,_=>rfl
 | 2,0,_,_=>rfl
 | 2,1,_,_=>rfl
theorem KU {α:Type}(x:Int×α)(l:List (Int×α))(k:Int):bU (x::l) k=if x.1=k then some x.2 else bU l k:=by
 unfold bU;rw[vS];by_cases h:x.1=k
 ·simp[h]
 ·have:(x.1==k)=false:=by simpa using h
  rw[this,zB h]
theorem TB {α:Type}(l:List (Int×α))(n k:Int)(v:α):bU (l.map λx=>if x.1==n then(n,v)else x) k=if k=n then(if l.any (λx=>x.1==n)then some v else none)else bU l k:=by
 induction l with
 | nil=>simp[bU]
 | cons x l ih=>
  rw[zR,KU,ih,KU,List.any_cons];by_cases hx:x.1=n
  ·by_cases hk:k=n
   ·subst hk;simp[hx]
   ·have:¬n=k:=λe=>hk e.symm;simp[hx,hk,this]
  ·have a:(x.1==n)=false:=by simpa using hx
   simp only[a,zZ,jU,yl];by_cases hk:k=n
   ·subst hk;simp[hx]
   ·simp[hk]
theorem Wht {α:Type}(l:List (Int×α))(n k:Int)(v:α)(h:l.any (λx=>x.1==n)=false):bU (l++[(n,v)]) k=if k=n then some v else bU l k:=by
 induction l with
 | nil=>
  rw[tu,KU];by_cases hk:k=n
  ·simp[hk]
  ·have:¬n=k:=λe=>hk e.symm;simp[hk,this,bU]
 | cons x l ih=>
  rw[List.any_cons,xm]at h;rw[lN,KU,ih h.2,KU];have a:¬x.1=n:=by simpa using h.1
  by_cases hk:k=n
  ·subst hk;simp[a]
  ·simp[hk]
theorem UJ {α:Type}(l:List (Int×α))(n k:Int)(v:α):bU (dA l n v) k=if k=n then some v else bU l k:=by
 unfold dA;cases h:l.any (λx=>x.1==n)
 ·rw[zB aA,Wht l n k v h]
 ·rw[zC rfl,TB,h];simp
theorem BX {α:Type}(l:List (Int×α))(n k:Int):bU (cO l n) k=if k=n then none else bU l k:=by
 unfold cO
 induction l with
 | nil=>simp[bU]
 | cons x l ih=>
  rw[tZ,KU];by_cases hx:x.1=n
  ·have:(!(x.1==n))=false:=by simp[hx]
   rw[this];simp only[zZ,jU,ih];by_cases hk:k=n
   ·simp[hk]
   ·have:¬x.1=k:=λe=>hk (e.symm.trans hx);simp[hk,this]
  ·have:(!(x.1==n))=true:=by simpa using hx
   rw[this,zC rfl,KU,ih];by_cases hk:k=n
   ·subst hk;simp[hx]
   ·simp[hk]
theorem Z8 {α:Type}{l:List (Int×α)}{k:Int}{v:α}(h:bU l k=some v):(k,v)∈l:=by
 unfold bU at h;cases hf:l.find? (λx=>x.1==k)with
 | none=>rw[hf]at h;cases h
 | some x=>
  rw[hf]at h;have g:=uV hf;have d:=tK hf;have b:x.1=k:=by simpa using g
  have a:x.2=v:=by simpa using h
  rw[←b,←a];exact d
theorem Tu {α:Type}{l:List (Int×α)}{k:Int}:(bU l k).isSome=true↔k∈l.map (·.1):=by
 unfold bU;rw[Option.isSome_map,CP];simp
def Fx (U:Hp)(s:Sl)(b:Nat)(f:Nat->Int):Prop:=s.a=some ⟨b,0,none⟩/\s.len=32/\32<=s.cap/\∃cs,bZ U b cs/\32<=cs.length/\∀j,j<32->cs[j]?=some (.int .i64 (f j))
structure fI (U:Hp) (F:Rg) (p q r:Nat) (l:List (Int×Sl)) (B:Nat->Nat) (sp:Sp):Prop where
 hd:∃cap,sp.st.length<=cap/\bZ U p [.slice (some ⟨q,0,none⟩) sp.st.length cap,.map (some r),.int .i64 (sp.pk:Int)]
 row:∃rest,bZ U q (gZ sp.st++rest)
 map:dK U r .i64 .s l
 keys:∀x:Int,(bU l x).isSome=true↔∃k:Nat,x=k/\sp.st[k]?=some 2
 wd:∀(k:Nat) s,bU l (k:Int)=some s->Fx U s (B k) λj=>sp.wd (32*k+j)
 inj:∀k k':Nat,sp.st[k]?=some 2->sp.st[k']?=some 2->B k=B k'->k=k'
 out:∀k:Nat,sp.st[k]?=some 2->F (B k)/\B k≠p/\B k≠q/\B k≠r
 fs:F p/\F q/\F r/\p≠q/\p≠r/\q≠r
 zero:∀w:Nat,sp.st[w/32]?≠some 2->sp.wd w=0
 n1:1<=sp.st.length
 n2:sp.st.length<=1024
 sJ:∀x∈sp.st,x<=2
 pk:sp.pk<=1024
def dO (U:Hp)(F:Rg)(p:Nat)(sp:Sp):Prop:=∃q r l B,fI U F p q r l B sp
theorem fI.entry {l:List (Int×Sl)}{B:Nat->Nat}(h:fI U F p q r l B sp){k:Nat}(hk:sp.st[k]?=some 2):∃s,bU l (k:Int)=some s/\Fx U s (B k) λj=>sp.wd (32*k+j):=by
 have:=(h.keys (k:Int)).2 ⟨k,rfl,hk⟩;obtain⟨s,a⟩:=pw.1 this;exact⟨s,a,h.wd k s a⟩
theorem fI.lT {l:List (Int×Sl)}{B:Nat->Nat}(h:fI U F p q r l B sp){k:Nat}{s:Sl}(hs:bU l (k:Int)=some s):sp.st[k]?=some 2:=by
 obtain⟨k',e,a⟩:=(h.keys (k:Int)).1 (by rw[hs];rfl);have:k=k':=by omega
 subst this;exact a
theorem dO.loc:dN λU F=>dO U F p sp:=λU J F G ⟨q,r,l,B,h⟩ P C=>by
 have i:∀{b:Nat} {g:List Value},bZ U b g->F b->bZ J b g/\G b:=by
  rintro b g ⟨e,y⟩ H;have:=C b (bZ.lt ⟨e,y⟩) H;exact⟨⟨e,this.2.trans y⟩,this.1⟩
 obtain⟨c,M,hd⟩:=h.hd;obtain⟨m,a⟩:=h.row;obtain⟨L,u,E,N⟩:=h.map;have j:=C r (j9.1 E).1 h.fs.2.2.1;refine⟨q,r,l,B,⟨c,M,(i hd h.fs.1).1⟩,⟨m,(i a h.fs.2.1).1⟩,⟨L,u,j.2.trans E,N⟩,h.keys,λk s d=>?_,h.inj,λk d=>?_,⟨(i hd h.fs.1).2,(i a h.fs.2.1).2,j.1,h.fs.2.2.2⟩,h.zero,h.n1,h.n2,h.sJ,h.pk⟩
 ·obtain⟨D,z,x,g,w,A⟩:=h.wd k s d;exact⟨D,z,x,g,(i w (h.out k (h.lT d)).1).1,A⟩
 ·obtain⟨s,K,D,z,x,g,w,A⟩:=h.entry d;exact⟨(i w (h.out k d).1).2,(h.out k d).2⟩
theorem dO.bP {σ':Hp}(h:dO U F p sp)(e:aG U σ'):dO σ' F p sp:=dN.bP dO.loc h e
variable {l:List (Int×Sl)}{B:Nat->Nat}
theorem fI.rS (h:fI U F p q r l B sp){K:Sl->Prop}(hK:∀cap,sp.st.length<=cap->K ⟨some ⟨q,0,none⟩,sp.st.length,cap⟩):jJ (Addr.add ⟨p,0,none⟩ 0) U K:=by
 obtain⟨c,a,hd⟩:=h.hd;exact hd.rS rfl (hK c a)
theorem fI.rM (h:fI U F p q r l B sp){K:Option Nat->Prop}(hK:K (some r)):lL (Addr.add ⟨p,0,none⟩ 1) U K:=by
 obtain⟨c,a,hd⟩:=h.hd;exact hd.rM rfl hK
theorem fI.yu (h:fI U F p q r l B sp){i x:Nat}(hx:sp.st[i]?=some x){K:Bool->Bool->Prop}(hK:K (gE x).1 (gE x).2):mj (Addr.add ⟨q,2*i,none⟩ 0) U λa=>mj (Addr.add ⟨q,2*i,none⟩ 1) U λb=>K a b:=by
 obtain⟨g,d⟩:=h.row;have hi:=(cY.1 hx).1;have j:=F7 hx;refine d.rB (x:=(gE x).1) ?_ (d.rB (x:=(gE x).2) ?_ hK)
 ·rw[ko,zd (by rw[V1];omega)];exact j.1
 ·rw[zd (by rw[V1];omega)];exact j.2
theorem DQ (h:dO U F p sp){R:aO}(hR:R true U):XU.c (aW p) U R:=by
 refine XU.o ?_;unfold XU.v;obtain⟨q,r,l,B,h⟩:=h;have:=h.n1;refine bX.intro (cF rfl (bL (h.rS λcap _=>?_)));rw[zI aC];exact hR
theorem JE (h:dO U F p sp){R:aN}(hR:R (sp.st.length:Int) U):X2.c (aW p) U R:=by
 refine X2.o ?_;unfold X2.v;have a:=h;obtain⟨q,r,l,B,h⟩:=h;exact DQ a (cD rfl (bL (h.rS λcap _=>hR)))
theorem fI.xd (h:fI U F p q r l B sp):l.length=sp.st.count 2:=by
 have s:=h.map.nodup;have m:(l.map (·.1)).Perm (((List.range sp.st.length).filter λk=>sp.st[k]?==some 2).map λk=>((k:Nat):Int)):=by
  rw[Bp s]
  ·intro x;rw[←Tu,h.keys];simp only[zE,zL,zg,zT];constructor
   ·rintro⟨k,rfl,hk⟩;exact⟨k,⟨(cY.1 hk).1,hk⟩,rfl⟩
   ·rintro⟨k,⟨_,hk⟩,rfl⟩;exact⟨k,rfl,hk⟩
  ·have i:((List.range sp.st.length).filter λk=>sp.st[k]?==some 2).Pairwise (· ≠ ·):=List.Pairwise.sublist uT List.nodup_range;exact List.Pairwise.map _ (λa b (g:a≠b) d=>g (by exact_mod_cast d)) i
 have j:=m.length_eq;simp only[zj]at j;rw[j,←Aw];have key:∀st:List Nat,(List.range st.length).countP (λk=>st[k]?==some 2)=st.count 2:=by
  intro st
  induction st with
  | nil=>rfl
  | cons x st ih=>
   rw[zS,List.range_succ_eq_map,xy,List.countP_map,List.count_cons,←ih]
   congr 1
 exact key sp.st
end Go.Ar
namespace Go.Ar
open Go Go.Vc Go.Proofs
open Go.Bu (Zx)
variable {U:Hp}{F:Rg}{p q r:Nat}{sp:Sp}{l:List (Int×Sl)}{B:Nat->Nat}
theorem Nq (l:List Nat)(n:Nat):gZ (l.take n)=(gZ l).take (2*n):=by
 induction l generalizing n with
 | nil=>simp[gZ]
 | cons y l ih=>
  have e:∀z m,gZ (z::m)=.bool (gE z).1 :: .bool (gE z).2::gZ m:=λz m=>by simp[gZ]
  cases n with
  | zero=>simp[gZ]
  | succ n=>
   rw[vz,e,e,ih,show 2*(n+1)=2*n+1+1 by omega];simp
theorem Pa (l:List Nat)(n:Nat):gZ (l.drop n)=(gZ l).drop (2*n):=by
 induction l generalizing n with
 | nil=>simp[gZ]
 | cons y l ih=>
  have e:∀z m,gZ (z::m)=.bool (gE z).1 :: .bool (gE z).2::gZ m:=λz m=>by simp[gZ]
  cases n with
  | zero=>simp[gZ]
  | succ n=>
   rw[wk,e,ih,show 2*(n+1)=2*n+1+1 by omega];simp
theorem Pz (n v:Nat):gZ (List.replicate n v)=(List.replicate n [Value.bool (gE v).1,.bool (gE v).2]).flatten:=by
 induction n with
 | zero=>rfl
 | succ n ih=>rw[tg,tg,vp,←ih];simp[gZ]
theorem _root_.Go.Vc.cV.yu {s:Sl}{l:List Nat}(h:cV s 2 (gZ l) U F){i x:Nat}(hx:l[i]?=some x){K:Bool->Bool->Prop}(hK:K (gE x).1 (gE x).2) :
 Ix s.a s.len (i:Int) 2 λa=>mj (a.add 0) U λu=>mj (a.add 1) U λw=>K u w:=by
 have hi:=(cY.1 hx).1;have j:=F7 hx;obtain⟨b,o,m,p⟩:=h.cell j.1;obtain⟨y,o1,d,g⟩:=h.cell j.2;rw[m]at d;cases d;have r:=h.1;rw[V1]at r;rw[m];refine ix O O ?_;rw[add_lit];refine nR ?_ (nR ?_ hK)<;>rw[add_lit]
 ·rw[show o+(i:Int).toNat*2+0=o+2*i by omega];exact p
 ·rw[show o+(i:Int).toNat*2+1=o+(2*i+1) by omega];exact g
theorem _root_.Go.Vc.cV.xe {s:Sl}{l:List Nat}(h:cV s 2 (gZ l) U F):s.len=l.length:=by
 have:=h.1;rw[V1]at this;omega
theorem R6 {s:Sl}{xs:List Nat}(h:cV s 2 (gZ xs) U F)(hl:xs.length<=1000000)(h2:∀x∈xs,x<=2){v:Nat}(hv:v<=2){R:aN}
 (hR:∀(t:Int) σ',aG U σ'->decide (t≥0)=xs.contains v->R t σ'):Wv.c s (gE v).1 (gE v).2 U R:=by
 refine Wv.o ?_;unfold Wv.v;have u:=h.xe;refine nw (cs:=[.bool (gE v).1,.bool (gE v).2]) λw E e z=>?_;have h:=aH.bP h e;refine Qp (a:=bO) (λ(t:Int) A=>∃i:Nat,t=(i:Int)/\i<=xs.length/\A=w/\∀j,j<i->xs[j]?≠some v) (λt _=>xs.length-t.toNat) ⟨0,rfl,O,rfl,λj g=>O⟩ ?_;rintro t A ⟨i,rfl,hi,rfl,d⟩;refine cP (λC=>?_) λD=>?_
 ·have b:i<xs.length:=by omega
  have y:xs[i]?=some xs[i]:=cX b;refine z.rB rfl (z.rB rfl (h.yu y ?_));rw[BY hv (h2 _ (kv b))];refine cN (λr=>?_) λr=>?_
  ·have:v=xs[i]:=by simpa using r
   refine hR _ _ e ?_;have B:xs.contains v=true:=by rw[this];simp
   rw[B,zI O]
  ·have p:¬v=xs[i]:=by simpa using r
   refine cT (m:=i+1) O O ⟨⟨i+1,rfl,O,rfl,λj g=>?_⟩,O⟩;by_cases e:j=i
   ·subst e;rw[y];intro e2;cases e2;exact p rfl
   ·exact d j O
 ·refine hR _ _ e ?_;have:xs.contains v=false:=by
   simp only[se,decide_eq_false_iff_not];intro hm;obtain⟨j,g⟩:=zP hm;have:=(cY.1 g).1;exact d j O g
  rw[this];rfl
theorem S4 {s:Sl}{xs:List Nat}(h:cV s 2 (gZ xs) U F)(hl:xs.length<=1000000)(h2:∀x∈xs,x<=2){v:Nat}(hv:v<=2){R:aO}
 (hR:∀σ',aG U σ'->R (xs.contains v) σ'):Wq.c s (gE v).1 (gE v).2 U R:=by
 refine Wq.o ?_;unfold Wq.v;refine nw (cs:=[.bool (gE v).1,.bool (gE v).2]) λw g e a=>a.rB rfl (a.rB rfl ?_);refine R6 (aH.bP h e) hl h2 hv λt σ' b d=>?_;rw[d];exact hR σ' (Ext.trans e b)
theorem Pm (g:Gl U){x:Nat}(hx:x<=2){R:aO}(hR:∀σ',aG U σ'->R (x != 0) σ'):YN.c (gE x).1 (gE x).2 U R:=by
 refine YN.o ?_;unfold YN.v;refine nw (cs:=[.bool (gE x).1,.bool (gE x).2]) λv d e a=>a.rB rfl (a.rB rfl ?_);have g:=g.bP e;refine nR (by rw[←g.u0];rfl) (nR (by rw[←g.u1];rfl) ?_);have b:(((gE x).1==false)&&(((gE x).2==false)&&true))=(x==0):=BY hx (y:=0) O;rw[b];exact hR v e
theorem To {s:Sl}{xs:List Nat}(h:cV s 2 (gZ xs) U F)(g:Gl U)(hl:xs.length<=1000000)(h2:∀x∈xs,x<=2){R:aO}
 (hR:∀σ',aG U σ'->R (xs.any (· != 0)) σ'):Wk.c s ⟨342,#[],#[]⟩ U R:=by
 refine Wk.o ?_;unfold Wk.v;refine Wt.o ?_;unfold Wt.v;have z:=h.xe;refine Qp (a:=bO) (λ(t:Int) G=>∃i:Nat,t=(i:Int)/\i<=xs.length/\aG U G/\∀(j x:Nat),j<i->xs[j]?=some x->x=0) (λt _=>xs.length-t.toNat) ⟨0,rfl,O,Ext.refl _ _,λj x r=>O⟩ ?_;rintro t w ⟨i,rfl,hi,e,p⟩;refine cP (λD=>?_) λE=>?_
 ·have b:i<xs.length:=by omega
  have A:xs[i]?=some xs[i]:=cX b;refine(aH.bP h e).yu A ?_;refine G5 (all := #[.agg #[.bool (gE xs[i]).1,.bool (gE xs[i]).2]]) (by kernel_rfl) aA ?_;refine Pm (g.bP e) (h2 _ (kv b)) λC B=>?_;refine cN (λy=>?_) λy=>?_
  ·have:xs.any (· != 0)=true:=zy.2 ⟨_,kv b,y⟩;have:=hR C (Ext.trans e B);rw[‹xs.any (· != 0)=true›]at this;show R (decide ((i:Int)≥0)) _;rw[zI O];exact this
  ·have u:xs[i]=0:=by simpa using y
   refine cT (m:=i+1) O O ⟨⟨i+1,rfl,O,Ext.trans e B,λj x r d=>?_⟩,O⟩;by_cases e:j=i
   ·subst e;rw[A]at d;cases d;exact u
   ·exact p j x O d
 ·have:xs.any (· != 0)=false:=by
   rw[mr];intro x hm;obtain⟨j,r⟩:=zP hm;have:=(cY.1 r).1;simpa using p j x O r
  have:=hR w e;rw[‹xs.any (· != 0)=false›]at this;exact this
theorem fI.part (h:fI U F p q r l B sp){x y c:Nat}(hl:x+y<=sp.st.length):cV ⟨some ⟨q,2*x,none⟩,y,c⟩ 2 (gZ ((sp.st.drop x).take y)) U F:=by
 obtain⟨d,b⟩:=h.row;have a:(gZ ((sp.st.drop x).take y)).length=y*2:=by rw[V1,zY,ky];omega
 refine⟨a,.inr ⟨q,2*x,_,h.fs.2.1,rfl,b.q,λj g=>?_⟩⟩;rw[a]at g;rw[zd (by rw[V1];omega),Nq,Pa,zl,zC O,lG]
theorem RN (h:dO U F p sp)(a m:Int){R:Sl->Int->Hp->Prop}(h0:Zx sp.st.length a m=false->R ⟨none,0,0⟩ 1 U)
 (h1:∀(x y:Nat) s,a=x->m=y->1<=y->x+y<=sp.st.length->cV s 2 (gZ ((sp.st.drop x).take y)) U F->R s 0 U):Zr.c (aW p) a m U R:=by
 refine Zr.o ?_;unfold Zr.v;have A:=h;obtain⟨q,r,l,B,h⟩:=h;have n2:=h.n2;have b:¬(0<=a/\1<=m/\m<=sp.st.length-a)->R ⟨none,0,0⟩ 1 U:=λz=>h0 (by simp only[Zx,←wh];exact zJ z);refine DQ A (cD rfl (bX.intro (cP (λg=>bX.intro (cF rfl (bX.intro (cF rfl (cF rfl (b O)))))) λg=>?_)));refine bX.intro (cP (λw=>bX.intro (cF rfl (cF rfl (b O)))) λw=>bL (h.rS λcap d=>?_));simp only;refine bX.intro (cP (λi=>cF rfl (b O)) λi=>?_);refine bL (h.rS λcap d=>ar aC aC ?_);simp only;refine cP (λj=>b O) λj=>?_;obtain⟨x,rfl⟩:=zc (show 0<=a by omega);obtain⟨y,rfl⟩:=zc (show 0<=m by omega);refine bL (h.rS λcap d=>cT (m:=x+y) O O ?_);refine jl O aC (zD _) ?_;simp only;rw[zB O];refine h1 x y _ rfl rfl O O ?_;have:=h.part (x:=x) (y:=y) (c:=cap-x) O;have e:(Option.map (λ(u:Addr)=>u.add (x*2)) (some (⟨q,0,none⟩:Addr)))=some ⟨q,2*x,none⟩:=by
  simp only[ze,add_lit];congr 2;omega
 rw[e,Ck];exact this
def Sp.kf (s:Sp)(k v:Nat):Sp:={s with st:=s.st.set k v,wd:=λw=>if k*32<=w/\w<(k+1)*32 then 0 else s.wd w}
theorem EU {st:List Nat}(h:∀x∈st,x<=2){k v:Nat}(hv:v<=2):∀x∈st.set k v,x<=2:=by
 intro x hx;rcases AV hx with h1|h1
 ·exact h x h1
 ·omega
theorem fI.kf (h:fI U F p q r l B sp){k v:Nat}(hk:k<sp.st.length)(hv:v<=1){σ':Hp}(e:Ext (λb=>b=q\/b=r) U σ'){rest:List Value}
 (hb:bZ σ' q (gZ (sp.st.set k v)++rest)) (hm:dK σ' r .i64 .s (cO l (k:Int))):fI σ' F p q r (cO l (k:Int)) B (sp.kf k v):=by
 have a:∀j:Nat,(sp.st.set k v)[j]?=some 2↔j≠k/\sp.st[j]?=some 2:=λj=>by
  rw[nJ];by_cases hjk:k=j
  ·subst hjk;rw[zC rfl,zC hk];constructor
   ·intro h;have:v=2:=by simpa using h
    omega
   ·intro h;exact absurd rfl h.1
  ·rw[zB hjk];exact⟨λh=>⟨λe=>hjk e.symm,h⟩,λh=>h.2⟩
 obtain⟨c,C,hd⟩:=h.hd;have L:¬(p=q\/p=r):=by have:=h.fs;omega
 refine⟨⟨c,by simpa[Sp.kf]using C,by simpa[Sp.kf]using e.bV hd L⟩,⟨rest,hb⟩,hm,λx=>?_,λj s g=>?_,λj y G m=>?_,λj d=>?_,h.fs,λw u=>?_,by simpa[Sp.kf]using h.n1,by simpa[Sp.kf]using h.n2,EU h.sJ O,h.pk⟩
 ·rw[BX];by_cases hx:x=(k:Int)
  ·rw[zC hx];constructor
   ·intro h;cases h
   ·rintro⟨j,rfl,d⟩;have:=(a j).1 d;omega
  ·rw[zB hx,h.keys];constructor
   ·rintro⟨j,rfl,d⟩;exact⟨j,rfl,(a j).2 ⟨O,d⟩⟩
   ·rintro⟨j,rfl,d⟩;exact⟨j,rfl,((a j).1 d).2⟩
 ·rw[BX]at g;by_cases hx:(j:Int)=(k:Int)
  ·rw[zC hx]at g;cases g
  ·rw[zB hx]at g;obtain⟨J,A,H,E,K,D,z⟩:=h.wd j s g;have M:=h.out j (h.lT g);refine⟨J,A,H,E,e.bV K O,D,λi hi=>?_⟩;rw[z i hi];simp only[Sp.kf];rw[zB O]
 ·exact h.inj j y ((a j).1 G).2 ((a y).1 m).2
 ·exact h.out j ((a j).1 d).2
 ·simp only[Sp.kf]at u ⊢;by_cases hin:k*32<=w/\w<(k+1)*32
  ·rw[zC hin]
  ·rw[zB hin];refine h.zero w λm=>u ((a _).2 ⟨O,m⟩)
theorem Sp.pT (s:Sp)(a v:Nat):s.set a 0 v=s:=by
 have d:gF s.st a (a+0) v=s.st:=by
  apply zt;intro i;rw[HX];cases s.st[i]? with
  | none=>rfl
  | some x=>simp only[ze];rw[zB O]
 have b:(λw=>if a*32<=w/\w<(a+0)*32 then 0 else s.wd w)=s.wd:=by
  funext w;rw[zB O]
 simp only[Sp.set,d,b]
theorem Sp.oT (s:Sp)(a m v:Nat)(h:a+m<s.st.length):(s.set a m v).kf (a+m) v=s.set a (m+1) v:=by
 have d:(gF s.st a (a+m) v).set (a+m) v=gF s.st a (a+(m+1)) v:=by
  apply zt;intro i;rw[nJ,HX,HX,Vl];by_cases hi:a+m=i
  ·subst hi;rw[zC rfl,zC h,cX h,ze,zC O]
  ·rw[zB hi];cases s.st[i]? with
   | none=>rfl
   | some x=>
    simp only[ze];by_cases hin:a<=i/\i<a+m
    ·rw[zC hin,zC O]
    ·rw[zB hin,zB O]
 have b:(λw=>if(a+m)*32<=w/\w<(a+m+1)*32 then 0 else(if a*32<=w/\w<(a+m)*32 then 0 else s.wd w))=λw=>if a*32<=w/\w<(a+(m+1))*32 then 0 else s.wd w:=by
  funext w
  by_cases d:(a+m)*32<=w/\w<(a+m+1)*32
  ·rw[zC d,zC O]
  ·rw[zB d];by_cases b:a*32<=w/\w<(a+m)*32
   ·rw[zC b,zC O]
   ·rw[zB b,zB O]
 simp only[Sp.set,Sp.kf,d,b]
theorem M4 (h:dO U F p sp){x y v:Nat}(hl:x+y<=sp.st.length)(hv:v<=1){R:aP}(hR:∀σ',Ext F U σ'->dO σ' F p (sp.set x y v)->R σ') :
 Zm.c (aW p) x y (gE v).1 (gE v).2 U R:=by
 refine Zm.o ?_;unfold Zm.v;have Q:sp.st.length<=1024:=by obtain⟨q,r,l,B,h⟩:=h;exact h.n2
 have z:dO U (Cut F U) p sp:=dN.cut dO.loc h;refine nw (cs:=[.bool (gE v).1,.bool (gE v).2]) λu hz e g=>?_;have W:=z.bP e;refine Qp (a:=bO) (λ(t:Int) w=>∃i:Nat,t=((x+i:Nat):Int)/\i<=y/\Ext (Cut F U) u w/\bZ w U.size [.bool (gE v).1,.bool (gE v).2]/\dO w (Cut F U) p (sp.set x i v)) (λt _=>x+y-t.toNat)
  ⟨0,rfl,O,Ext.refl _ _,g,by rw[Sp.pT];exact W⟩ ?_
 rintro t w ⟨i,rfl,hi,G,j,q,r,l,B,d⟩;refine cT (m:=x+y) O O (cP (λZ=>?_) λV=>?_)
 ·have E:(sp.set x i v).st.length=sp.st.length:=Vl _ _ _ _;refine bL (d.rS λcap H=>j.rB rfl (j.rB rfl (ix O aC ?_)));rw[add_lit,show 0+((x+i:Nat):Int).toNat*2=2*(x+i) by omega];obtain⟨M,s⟩:=d.row;have K:x+i<(sp.set x i v).st.length:=by omega
  refine s.s1 (by rw[zK,V1];omega) λw1 o1 Y=>Y.s1 (by rw[pn,zK,V1];omega) λw2 o2 J=>?_;rw[ko,IA K]at J;have e2:Ext (· = q) w w2:=o1.ext.trans o2.ext;obtain⟨c,X,hd⟩:=d.hd;have C:=e2.bV hd d.fs.2.2.2.1;refine bL (C.rM rfl ⟨l,e2.fX d.map (λe=>d.fs.2.2.2.2.2 e.symm),λw3 A _ D=>?_⟩);have o3:=A r rfl;have L:Ext (λb=>b=q\/b=r) w w3:=(e2.sub λb g=>.inl g).trans (o3.ext.sub λb g=>.inr g);have P:=d.kf K hv L (WE o3 J d.fs.2.2.2.2.2) D;rw[Sp.oT _ _ _ _ O]at P;have N:Ext (Cut F U) w w3:=L.sub λb g=>by
   rcases g with rfl|rfl
   ·exact d.fs.2.1
   ·exact d.fs.2.2.1
  refine cT (m:=x+(i+1)) O O ⟨⟨i+1,rfl,O,G.trans N,N.bV j λS=>by have:=S.2;omega,_,_,_,_,P⟩,O⟩
 ·have:i=y:=by omega
  subst this;refine hR w (Ext.cut (e.to.trans G)) (dN.mono dO.loc ⟨q,r,l,B,d⟩ λb _ g=>g.1)
theorem PX (h:dO U F p sp)(g:Gl U)(hF:jf F)(a m:Int){R:aN}(hR:∀σ',Ext F U σ'->dO σ' F p (gA sp a m)->R (fE sp a m) σ') :
 Zl.c (aW p) a m U R:=by
 refine Zl.o ?_;unfold Zl.v;have j:(∀x∈sp.st,x<=2)/\sp.st.length<=1024:=by obtain⟨q,r,l,B,h⟩:=h;exact⟨h.sJ,h.n2⟩
 refine RN h a m (λi=>?_) λx y s G C L w H=>?_
 ·have e1:fE sp a m=1:=by unfold fE;rw[i];rfl
  have e2:gA sp a m=sp:=by unfold gA;rw[e1];rfl
  have:=hR U (Ext.refl _ _);rw[e1,e2]at this;exact cF rfl (this h)
 ·subst G;subst C;have i:Zx sp.st.length (x:Int) (y:Int)=true:=by simp only[Zx,zF,zV];omega
  refine cD rfl (To H g (by rw[zY,ky];omega) (λz A=>j.1 z (uH (wo A))) λE e1=>?_);have d:fE sp x y=if((sp.st.drop x).take y).any (· != 0)then 5 else 0:=by unfold fE;rw[i];rfl
  refine cN (λb=>?_) λb=>?_
  ·rw[b]at d;have e2:gA sp x y=sp:=by unfold gA;rw[d];rfl
   have:=hR E (aG.to e1);rw[d,e2]at this;exact this (h.bP e1)
  ·rw[b]at d;have e2:gA sp x y=sp.set x y 1:=by unfold gA;rw[d];rfl
   have u:=g.bP e1;refine nR (by rw[←u.c0];rfl) (nR (by rw[←u.c1];rfl) ?_);refine M4 (v:=1) (h.bP e1) w O λJ D K=>?_;have:=hR J (Ext.trans (aG.to e1) D);rw[d,e2]at this;exact this K
theorem F5 (h:dO U F p sp)(g:Gl U)(x:Int)(hx:x<=9223372036854775807){R:aN}(hR:∀σ',aG U σ'->R (eO sp x) σ') :
 XI.c (aW p) x 1 U R:=by
 refine XI.o ?_;unfold XI.v;have G:=h;obtain⟨q,r,l,B,h⟩:=h;have n2:=h.n2;have d:(x<0\/x%8≠0)->R 7 U:=λj=>by
  have:=hR U (Ext.refl _ _);unfold eO at this;rw[zC j]at this;exact this
 refine DQ G (cD rfl (cD rfl (bX.intro (cP (λA=>cF rfl (d (.inl A))) λA=>nz aB ?_))));obtain⟨y,rfl⟩:=zc (show 0<=x by omega);refine cN (λi=>?_) λi=>?_
 ·refine d (.inr ?_);rw[Kg O]at i;simpa using i
 have J:y%8=0:=by
  rw[Kg O]at i;have:((y:Int)%8)=0:=by simpa using i
  omega
 have ok:¬((y:Int)<0\/(y:Int)%8≠0):=by omega
 refine nz aB (cT (m:=y/256) (by rw[YO O];simp) O (nz aB (cT (m:=y/8) (by rw[YO O];simp) O ?_)));refine cT (m:=y/8+1) O O (cT (m:=y/8) O O (nz aB (cT (m:=y/256) (by rw[YO O];simp;omega) O ?_)));have fin:∀(b:Bool) σ',aG U σ'->(b=true↔sp.st.getD (y/256) 0=0)->If b (R 7 σ') (R 0 σ'):=λb σ' e j=>by
  have:=hR σ' e;unfold eO at this;rw[zB ok]at this;refine cN (λh=>?_) λh=>?_
  ·rw[zC (by simpa using j.1 h)]at this;exact this
  ·rw[zB (λE=>by rw[j.2 (by simpa using E)]at h;cases h)]at this;exact this
 obtain⟨c,H,hd⟩:=h.hd;refine Jn.intro ⟨λm=>bZ m p [.slice (some ⟨q,0,none⟩) sp.st.length c,.map (some r),.int .i64 (sp.pk:Int)]/\Gl m,⟨hd,g⟩,?_⟩;refine bL ⟨⟨some ⟨q,0,none⟩,sp.st.length,c⟩,λm a=>by rw[add_lit,a.1.cell];rfl,?_⟩;refine cP (λw=>?_) λw=>?_
 ·simp only at w;refine fin _ U (Ext.refl _ _) ⟨λ_=>?_,λ_=>rfl⟩;rw[zQ,zX O];rfl
 simp only at w;refine bL ⟨⟨some ⟨q,0,none⟩,sp.st.length,c⟩,λm a=>by rw[add_lit,a.1.cell];rfl,?_⟩;refine cT (m:=y/256+1) O O (jl O aC (zD _) ?_);simp only;rw[zB O];refine⟨false,λm a=>a.2.u0,⟨false,λm a=>a.2.u1,?_⟩⟩;have e:(Option.map (λ(u:Addr)=>u.add (y/256*2)) (some (⟨q,0,none⟩:Addr)))=some ⟨q,2*(y/256),none⟩:=by
  simp only[ze,add_lit];congr 2;omega
 rw[e,Ck];have C:=h.part (x:=y/256) (y:=1) (c:=c-y/256) O;refine S4 (v:=0) C (by rw[zY,ky];omega) (λz D=>h.sJ z (uH (wo D))) O λσ' s=>?_;refine⟨⟨s.bV hd id,g.bP s⟩,fin _ σ' s ?_⟩;have hi:y/256<sp.st.length:=by omega
 rw[zQ,cX hi,yq hi,vz,vt];simp[eq_comm]
theorem Nk (h:dO U F p sp){w:Nat}(hw:w<=2305843009213693952){R:aN}(hR:R (sp.wd w) U):Zj.c (aW p) (w:Int) U R:=by
 refine Zj.o ?_;unfold Zj.v;obtain⟨q,r,l,B,h⟩:=h;refine bL (h.rM (nz aB (cT (m:=w/32) (by rw[YO O];simp) O ⟨l,h.map,?_⟩)));cases hg:bU l ((w/32:Nat):Int)with
 | none=>
  refine cD rfl ?_;have:sp.st[w/32]?≠some 2:=λg=>by
   have:=(h.keys _).2 ⟨_,rfl,g⟩;rw[hg]at this;cases this
  rw[h.zero w this]at hR;exact hR
 | some s=>
  obtain⟨i,j,y,x,a,u,b⟩:=h.wd _ s hg;refine cF rfl (nz aB ?_);simp only[qn];have d:((w:Int).tmod 32)=((w%32:Nat):Int):=by rw[Kg O];simp
  rw[i,d];refine ix O O ?_;rw[add_lit];refine a.uj ?_ hR;rw[show 0+((w%32:Nat):Int).toNat*1=w%32 by omega,b _ O];simp only;rw[show 32*(w/32)+w%32=w by omega]
theorem π (h:dO U F p sp)(g:Gl U)(x:Int)(hx:x<=9223372036854775807){R:Int->Int->Hp->Prop}(hR:∀σ',aG U σ'->R (if eO sp x=0 then sp.wd (x.toNat/8)else 0) (eO sp x) σ') :
 YX.c (aW p) x U R:=by
 refine YX.o ?_;unfold YX.v;refine F5 h g x hx λσ' e=>?_;have:=hR σ' e;refine cN (λd=>?_) λd=>?_
 ·have b:¬eO sp x=0:=by simpa using d
  rw[zB b]at this;exact this
 ·have a:eO sp x=0:=by simpa using d
  rw[zC a,a]at this;have i:0<=x:=by
   rcases(by omega:x<0\/0<=x)with hlt|hge
   ·unfold eO at a;rw[zC (.inl hlt)]at a;cases a
   ·exact hge
  obtain⟨y,rfl⟩:=zc i;exact nz aB (cT (m:=y/8) (by rw[YO O];simp) O (Nk (h.bP e) O this))
theorem fI.BP (h:fI U F p q r l B sp){k:Nat}(hk:k<sp.st.length)(hn:sp.st[k]?≠some 2){σ':Hp}{b:Nat}{s:Sl}{T:Rg}(e:Ext T U σ')(hT:∀i,i<U.size->T i->i=q\/i=r)(hz:U.size<=b){rest:List Value}
 (hb:bZ σ' q (gZ (sp.st.set k 2)++rest)) (hm:dK σ' r .i64 .s (dA l (k:Int) s)) (ha:s.a=some ⟨b,0,none⟩) (hl:s.len=32) (hc:s.cap=32) (hw:bZ σ' b (List.replicate 32 (.int .i64 0))) :
 fI σ' (Grow F U) p q r (dA l (k:Int) s) (λj=>if j=k then b else B j) {sp with st:=sp.st.set k 2}:=by
 have u:∀j:Nat,(sp.st.set k 2)[j]?=some 2↔j=k\/sp.st[j]?=some 2:=λj=>by
  rw[nJ];by_cases hjk:k=j
  ·subst hjk;rw[zC rfl,zC hk];simp
  ·rw[zB hjk];exact⟨λh=>.inr h,λh=>h.resolve_left λe=>hjk e.symm⟩
 obtain⟨c,G,hd⟩:=h.hd;obtain⟨_,z⟩:=h.row;have R:=hd.lt;have S:=z.lt;have W:=h.map.lt;have V:=e.1;have g:=h.fs;have A:∀{j:Nat},sp.st[j]?=some 2->B j<U.size:=λ{j} d=>by
  obtain⟨t,_,_,_,_,cs,H,_⟩:=h.entry d;exact H.lt
 have cZ:∀{i:Nat} {cs:List Value},bZ U i cs->i≠q->i≠r->bZ σ' i cs:=λ{i cs} hi D y=>e.bV hi λL=>by
  rcases hT i hi.lt L with h|h
  ·exact D h
  ·exact y h
 refine⟨⟨c,by simpa using G,by simpa using cZ hd g.2.2.2.1 g.2.2.2.2.1⟩,⟨rest,hb⟩,hm,λx=>?_,λj t d=>?_,λj C D y m=>?_,λj d=>?_,⟨.inl g.1,.inl g.2.1,.inl g.2.2.1,g.2.2.2⟩,λw E=>?_,by simpa using h.n1,by simpa using h.n2,EU h.sJ O,h.pk⟩
 ·rw[UJ];by_cases hx:x=(k:Int)
  ·rw[zC hx];subst hx;simp only[Option.isSome_some,true_iff];exact⟨k,rfl,(u k).2 (.inl rfl)⟩
  ·rw[zB hx,h.keys];constructor
   ·rintro⟨j,rfl,d⟩;exact⟨j,rfl,(u j).2 (.inr d)⟩
   ·rintro⟨j,rfl,d⟩;exact⟨j,rfl,((u j).1 d).resolve_left O⟩
 ·rw[UJ]at d;by_cases hx:(j:Int)=(k:Int)
  ·have:j=k:=by omega
   subst this;rw[zC rfl]at d;cases d;rw[zC rfl];refine⟨ha,hl,O,_,hw,by simp,λi hi=>?_⟩;rw[mH,zC hi];simp only;rw[h.zero _ (by rw[show(32*j+i)/32=j by omega];exact hn)]
  ·rw[zB hx]at d;obtain⟨Q,N,K,cs,H,P,M⟩:=h.wd j t d;have J:=h.out j (h.lT d);rw[zB O];exact⟨Q,N,K,cs,cZ H J.2.2.1 J.2.2.2,P,M⟩
 ·by_cases e1:j=k
  ·by_cases e2:C=k
   ·omega
   ·rw[zC e1,zB e2]at m;have:=A (((u C).1 y).resolve_left e2);omega
  ·rw[zB e1]at m;by_cases e2:C=k
   ·rw[zC e2]at m;have:=A (((u j).1 D).resolve_left e1);omega
   ·rw[zB e2]at m;exact h.inj j C (((u j).1 D).resolve_left e1) (((u C).1 y).resolve_left e2) m
 ·by_cases e1:j=k
  ·rw[zC e1];exact⟨.inr hz,O,O,O⟩
  ·rw[zB e1];have:=h.out j (((u j).1 d).resolve_left e1);exact⟨.inl this.1,this.2⟩
 ·refine h.zero w λy=>E ((u _).2 (.inr y))
theorem fI.DL (h:fI U F p q r l B sp){σ':Hp}{n c:Nat}(hn:n<=1024)(ho:Q3 U σ' p)(hc:sp.st.length<=c)(hb:bZ σ' p [.slice (some ⟨q,0,none⟩) sp.st.length c,.map (some r),.int .i64 (n:Int)]):fI σ' F p q r l B {sp with pk:=n}:=by
 have d:=h.fs;obtain⟨b,a⟩:=h.row;refine⟨⟨c,hc,hb⟩,⟨b,WE ho a O⟩,HV ho h.map O,h.keys,λj t g=>?_,h.inj,h.out,d,h.zero,h.n1,h.n2,h.sJ,hn⟩;obtain⟨y,s,x,w,i,u,m⟩:=h.wd j t g;exact⟨y,s,x,w,WE ho i (h.out j (h.lT g)).2.1,u,m⟩
theorem fI.word (h:fI U F p q r l B sp){w:Nat}{v:Int}(hk:sp.st[w/32]?=some 2){σ':Hp}{cs:List Value}(h32:32<=cs.length)(ho:Q3 U σ' (B (w/32)))(hcs:∀j,j<32->cs[j]?=some (.int .i64 (sp.wd (32*(w/32)+j))))
 (hb:bZ σ' (B (w/32)) (cs.set (w%32) (.int .i64 v))):fI σ' F p q r l B {sp with wd:=λu=>if u=w then v else sp.wd u}:=by
 have z:=h.out _ hk;obtain⟨c,D,hd⟩:=h.hd;obtain⟨b,a⟩:=h.row;refine⟨⟨c,D,WE ho hd O⟩,⟨b,WE ho a O⟩,HV ho h.map O,h.keys,λj t A=>?_,h.inj,h.out,h.fs,λu y=>?_,h.n1,h.n2,h.sJ,h.pk⟩
 ·obtain⟨x,m,s,d,G,E,C⟩:=h.wd j t A;by_cases hjk:j=w/32
  ·subst hjk;refine⟨x,m,s,_,hb,by simpa using h32,λi hi=>?_⟩;rw[nJ];by_cases hiw:w%32=i
   ·rw[zC hiw,zC O];simp only;rw[zC O]
   ·rw[zB hiw];simp only;rw[zB O];exact hcs i hi
  ·have g:B j≠B (w/32):=λe=>hjk (h.inj _ _ (h.lT A) hk e);refine⟨x,m,s,d,WE ho G g,E,λi hi=>?_⟩;rw[C i hi];simp only;rw[zB O]
 ·have:u≠w:=λe=>by subst e;exact y hk
  simp only;rw[zB this];exact h.zero u y
theorem RG (h:dO U F p sp)(g:Gc U){w:Nat}(hw:w/32<sp.st.length)(v:Int){R:aP}(hR:∀σ',Ext F U σ'->dO σ' (Grow F U) p (nU sp w v)->R σ') :
 Zs.c (aW p) (w:Int) v U R:=by
 refine Zs.o ?_;unfold Zs.v;obtain⟨q,r,l,B,h⟩:=h;have P:=h.n2;have j:sp.st[w/32]?=some sp.st[w/32]:=cX hw;have tm:((w:Int).tmod 32)=((w%32:Nat):Int):=by rw[Kg O];simp
 have word:∀(u:Hp) (s':Sp) (l':List (Int×Sl)) (B':Nat->Nat),Ext F U u->fI u (Grow F U) p q r l' B' s'->s'.st[w/32]?=some 2->({s' with wd:=λz=>if z=w then v else s'.wd z}:Sp)=nU sp w v →
  bW (some ⟨p,0,none⟩) λS=>lL (S.add 1) u λab=>Lk .i64 .s ab ((w/32:Nat):Int) u λJ=>Nz 32<|Ix (J.getD ⟨none,0,0⟩).a (J.getD ⟨none,0,0⟩).len ((w:Int).tmod 32) 1 λW=>dZ W (.int .i64 v) u λv1=>R v1:=by
  intro u s' l' B' eu hu A he;refine bL (hu.rM ⟨l',hu.map,nz aB ?_⟩);obtain⟨s,hs,w1,w2,w3,cs,w4,w5,w6⟩:=hu.entry A;rw[hs,tm];simp only[qn];rw[w1];refine ix O O ?_;rw[add_lit,show 0+((w%32:Nat):Int).toNat*1=w%32 by omega];refine w4.s0 O λu2 o2 L=>?_;have h2:=hu.word (v:=v) A w5 o2 w6 L;rw[he]at h2;exact hR u2 (eu.dW o2.ext λb d=>by subst d;exact(hu.out _ A).1) ⟨_,_,_,_,h2⟩
 refine nz aB (cT (m:=w/32) (by rw[YO O];simp) O (Jn.intro (bL (h.rS λcap H=>ix O aC ?_))));rw[add_lit,show 0+((w/32:Nat):Int).toNat*2=2*(w/32) by omega];refine h.yu j (nR (n:=true) g.d0 (nR (n:=true) g.d1 ?_));have e0:(((gE sp.st[w/32]).1==true)&&(((gE sp.st[w/32]).2==true)&&true))=(sp.st[w/32]==2):=BY (h.sJ _ (kv hw)) (y:=2) O;rw[e0];refine cN (λhd=>?_) λhd=>?_
 ·have E:sp.st[w/32]≠2:=by simpa using hd
  refine bL (h.rS λcap H=>nR (n:=true) g.d0 (nR (n:=true) g.d1 (ix O aC ?_)));rw[add_lit,show 0+((w/32:Nat):Int).toNat*2=2*(w/32) by omega];obtain⟨D,C⟩:=h.row;refine C.s1 (by rw[zK,V1];omega) λu1 o1 b1=>b1.s1 (by rw[pn,zK,V1];omega) λu2 o2 L=>?_;rw[ko]at L;have ac:bZ u2 q (gZ (sp.st.set (w/32) 2)++D):=by rw[←IA hw];exact L
  have e2:Ext (· = q) U u2:=o1.ext.trans o2.ext;obtain⟨c,hc,G⟩:=h.hd;have K:=e2.bV G h.fs.2.2.2.1;refine⟨λm=>bZ m p [.slice (some ⟨q,0,none⟩) sp.st.length c,.map (some r),.int .i64 (sp.pk:Int)],K,bL ⟨some r,λm hm=>by rw[add_lit,hm.cell];rfl,?_⟩⟩;refine mk (n:=32) O O λu3 hz3 N b3=>⟨Ext.bV N K id,?_⟩;have V:bZ u3 u2.size (List.replicate 32 (.int .i64 0)):=b3;have q3:=Ext.bV N ac id;have X:=e2.fX h.map (λe=>h.fs.2.2.2.2.2 e.symm);refine⟨r,l,rfl,Ext.fX N X id,λu4 o4 Q=>?_⟩;have sz2:u2.size=U.size:=by rw[o2.1,o1.1]
  have hrlt:=h.map.lt;have hplt:=G.lt;have e4:Ext (λb=>b=q\/b=r) U u4:=((e2.sub λb d=>.inl d).trans (aG.to N)).trans (o4.ext.sub λb d=>.inr d);have M:=h.BP hw (by rw[j];simpa using E) (s:=⟨some ⟨u2.size,0,none⟩,32,32⟩) (b:=u2.size) e4 (λi _ hi=>hi) O (WE o4 q3 h.fs.2.2.2.2.2) Q rfl rfl rfl (WE o4 V O);obtain⟨c4,aa,x⟩:=M.hd;refine bL (x.rI rfl (bL (x.rM rfl ⟨_,M.map,bL ?_⟩)));rw[M.xd];have hcl:(sp.st.set (w/32) 2).count 2<=1024:=kr List.count_le_length (by simpa using P);have hpk:=h.pk;have hv:(if((List.count 2 (sp.st.set (w/32) 2):Nat):Int)>(sp.pk:Int)then((List.count 2 (sp.st.set (w/32) 2):Nat):Int)else(sp.pk:Int))=((max sp.pk ((sp.st.set (w/32) 2).count 2):Nat):Int):=by
   by_cases hgt:((List.count 2 (sp.st.set (w/32) 2):Nat):Int)>(sp.pk:Int)
   ·rw[zC hgt];omega
   ·rw[zB hgt];omega
  simp only;rw[hv];refine x.s1 aA λu5 o5 b5=>?_;have h5:=M.DL O o5 aa b5;have e5:Ext F U u5:=(e4.sub λb d=>by
   rcases d with rfl|rfl
   ·exact h.fs.2.1
   ·exact h.fs.2.2.1).trans (o5.ext.sub λb d=>by subst d;exact h.fs.1)
  refine word u5 _ _ _ e5 h5 (by simp only;rw[nJ,zC rfl,zC hw]) ?_;unfold nU;rw[zB (by rw[zQ,j];exact E)]
 ·have Z:sp.st[w/32]=2:=by simpa using hd
  rw[Z]at j;have Y:fI U (Grow F U) p q r l B sp:={h with out:=λk A=>⟨.inl (h.out k A).1,(h.out k A).2⟩,fs:=⟨.inl h.fs.1,.inl h.fs.2.1,.inl h.fs.2.2.1,h.fs.2.2.2⟩};refine word U sp l B (Ext.refl _ _) Y j ?_;unfold nU;rw[zC (by rw[zQ,j];rfl)];have:sp.st.set (w/32) 2=sp.st:=by
   apply zt;intro i;rw[nJ];by_cases hi:w/32=i
   ·subst hi;rw[zC rfl,zC hw,j]
   ·rw[zB hi]
  rw[this]
theorem Mr (h:dO U F p sp)(g:Gl U)(gd:Gc U)(x:Int)(hx:x<=9223372036854775807)(v:Int){R:aN}(hR:∀σ',Ext F U σ'->dO σ' (Grow F U) p (ZD sp x v)->R (eO sp x) σ') :
 Yy.c (aW p) x v U R:=by
 refine Yy.o ?_;unfold Yy.v;have j:dO U (Cut F U) p sp:=dN.cut dO.loc h;refine F5 h g x hx λA e=>?_;have w:=j.bP e;have C:=g.bP e;refine cN (λs=>?_) λs=>?_
 ·have r:¬eO sp x=0:=by simpa using s
  refine hR A (aG.to e) ?_;unfold ZD;rw[zB r];exact dN.mono dO.loc w λb _ a=>.inl a.1
 ·have d:eO sp x=0:=by simpa using s
  have i:0<=x/\sp.st.getD (x.toNat/256) 0≠0:=by
   unfold eO at d;by_cases a:x<0\/x%8≠0
   ·rw[zC a]at d;cases d
   ·rw[zB a]at d;by_cases hz:sp.st.getD (x.toNat/256) 0=0
    ·rw[zC hz]at d;cases d
    ·exact⟨O,hz⟩
  obtain⟨y,rfl⟩:=zc i.1;have u:y/8/32<sp.st.length:=by
   rcases kg (y/256) sp.st.length with h|h
   ·omega
   ·exact absurd (by rw[zQ,zX (by simpa using h)];rfl) i.2
  refine nz aB (cT (m:=y/8) (by rw[YO O];simp) O (RG w (gd.bP e) u v λz e2 B=>?_));have:=hR z (Ext.cut ((aG.to e).trans e2)) ?_
  ·rw[d]at this;exact this
  ·unfold ZD;rw[zC d];exact dN.mono dO.loc B λb _ a=>by
    rcases a with a|a
    ·exact .inl a.1
    ·exact .inr (kr e.1 a)
def VY (n:Nat):Sp:=⟨List.replicate n 0,λ_=>0,0⟩
theorem LL {U:Hp}{F:Rg}{p q r n c:Nat}(h1:1<=n)(h2:n<=1024)(hc:n<=c)(hd:bZ U p [.slice (some ⟨q,0,none⟩) n c,.map (some r),.int .i64 0])(hq:bZ U q (gZ (List.replicate n 0)))(hr:dK U r .i64 .s [])
 (hF:F p/\F q/\F r) (hne:p≠q/\p≠r/\q≠r):fI U F p q r [] (λ_=>0) (VY n):=by
 have b:∀k:Nat,(List.replicate n 0)[k]?≠some 2:=λk a=>by
  rw[mH]at a;split at a<;>cases a
 refine⟨⟨c,by simpa[VY]using hc,by simpa[VY]using hd⟩,⟨[],by simpa[VY]using hq⟩,hr,λx=>?_,λk s d=>(by cases d),λk i h1=>absurd h1 (b k),λk a=>absurd a (b k),⟨hF.1,hF.2.1,hF.2.2,hne⟩,λw _=>rfl,by simpa[VY]using h1,by simpa[VY]using h2,λx g=>?_,by simp[VY]⟩
 ·constructor
  ·intro h;cases h
  ·rintro⟨k,_,a⟩;exact absurd a (b k)
 ·have:=CA g;omega
theorem Θ {n:Nat}(h1:1<=n)(h2:n<=1024){R:Option Addr->Int->Hp->Prop}(hR:∀σ' p',aG U σ'->U.size<=p'->dO σ' (λb=>U.size<=b) p' (VY n)->R (some ⟨p',0,none⟩) 0 σ'):Kx.c (n:Int) U R:=by
 refine Kx.o ?_;unfold Kx.v;refine bX.intro (gg O ?_);rw[zJ O];refine cD rfl (mk O O λd w e1 g=>tE λu y e2 j=>nw (cs:=[.slice (some ⟨U.size,0,none⟩) n n,.map (some d.size),.int .i64 0]) λm x a i=>?_);have p:=Ext.bV a (Ext.bV e2 g id) id;have r:=Ext.fX a (j .i64 .s) id;refine hR m _ (Ext.trans (Ext.trans e1 e2) a) O ⟨U.size,d.size,[],_,LL h1 h2 (zD _) i ?_ r ⟨O,O,O⟩ O⟩;rw[Pz];exact p
end Go.Ar