/- Texts joined. -/
import Derived.Lib.Overlaps
import Derived.Laws.Externs
import Derived.Test.YtoeidadjhkkioaaGreatDoorZ2
set_option linter.unusedVariables false
set_option linter.unusedSimpArgs false
namespace Go.Proofs
open Go.Vc
set_option maxRecDepth 100000
def ZO.h:Hn:=.q .o1 (.q (.q (.cW (.seq [.op,.op,.op,.op,.cR false 3 (RI.ops 3)])) .aK) (.q (.q .o3 (.k (.loop [(15,.I)] (.q .o1 (.q (.c .l .l) (.q (.k (.q .o6 (.q (.cW (.gH true [1] [(37,.one .b)] (.take 0 (.all [(1,.take 2 (.take 3 (.split 23 (.take 4 (.take 5 (.take 6 (.take 7 (.take 8 (.take 9 (.take 10 (.take 11 (.take 12 (.take 13 (.take 14 (.take 15 (.take 16 (.take 17 (.done))))))))))))))) (.take 4 (.take 5 (.take 6 (.split 26 (.take 7 (.take 9 (.take 10 (.take 11 (.take 12 (.take 13 (.all [(8,.all [(14,.take 15 (.take 16 (.take 17 (.done))))]),(14,.all [(8,.take 15 (.take 16 (.take 17 (.done))))])]))))))) (.take 7 (.take 8 (.take 9 (.take 10 (.take 11 (.take 12 (.take 13 (.take 14 (.take 15 (.take 16 (.take 17 (.done)))))))))))))))))))])))) .aK))) .o2)))))) .aM))
def ZO.v (a:Sl)(b:Hp)(c:aO):Prop:=bV (λd e=>If d (c false e) (Ya [bO] (λf=>f 0 e) λg (h:Int) i=>If (h<((a.len:Nat):Int)) (Ix a.a a.len h 3 λj=>aQ j 0 i λk=>aQ j 1 i λl=>aQ j 2 i λm=>aV #[.I 0,.I 0,.I 0] 149 i λn o=>aR n 0 (.I k) o λp=>aR n 1 (.I l) p λq=>aR n 2 (.I m) q λr=>Jn [.b] (λ(s:Bool) t=>If s (c false t) (bM (h+1) λu=>g u t)) λv=>dZ r λw=>aS w n 0 λx=>aS w n 1 λy=>aS w n 2 λz=>QX.c x y z r λaa ab=>If (!aa) (v true ab) (If (h>0) (bM (h-1) λac=>Ix a.a a.len ac 3 λad=>(aQ n 0 ab λae=>aQ ad 0 ab λaf=>v (decide (ae<=af)) ab) ∧ (aQ ad 0 ab λag=>aQ n 0 ab λah=>v (decide (ah<=ag)) ab)) (v false ab))) (c true i))) λai=>If (((a.len:Nat):Int)<1) (ai true b) (ai (decide (((a.len:Nat):Int)>40)) b)
theorem ZO.o {a b c}(d:ZO.v a b c):ZO.c a b c:=Wa Tryz.func151 (x:=ZO.h) (R0 d)
def Qx.h:Hn:=.q .o4 (.q (.k (.q .o4 (.c .aL (.q (.cW (.gH true [] [(13,.one .b)] (.tk [0,1,2] (.split 16 (.tk [3,4,5,6,7,8,9,10,11,12,13,14,15,16] (.done)) (.tk [3,4,5,6] (.split 20 (.tk [7,8,9,10,11,12,13,14,15,16] (.done)) (.tk [7,8,9,10] (.split 24 (.tk [11,12,13,14,15,16] (.done)) (.take 11 (.take 13 (.all [(12,.take 14 (.take 15 (.take 16 (.done))))]))))))))))) .aJ)))) (.q .o4 (.q (.q .o2 .aJ) (.q .o3 .l))))
def Qx.v (a:Sl)(b c:Int)(d:Hp)(e:Int->Int->Hp->Prop):Prop:=aV #[.I b] 3 d λf g=>aV #[.I c] 3 g λh i=>ZO.c a i λj k=>If (!j) (e 0 2 k) (Jn [.b] (λ(l:Bool) m=>If l (e 0 1 m) (Wu.c a ⟨228,#[],#[.pointer (some f),.pointer (some h)]⟩ m λn o=>If (n<0) (e 0 4 o) (e n 0 o))) λp=>dZ k λq=>gE q bO f λ(r:Int)=>If (r<1) (p true k) (gE q bO h λ(s:Int)=>If (s<1) (p true k) (gE q bO h λ(t:Int)=>If (t>256) (p true k) (gE q bO h λ(u:Int)=>gE q bO h λ(v:Int)=>Qv.c u k λw x=>And (q x) <| p (w != v) x))))
theorem Qx.o {a b c d e}(f:Qx.v a b c d e):Qx.c a b c d e:=Wa Tryz.func164 (x:=Qx.h) (R0 f)
def QX.h:Hn:=.q .o2 (.q (.cW (.seq [.op,.op,.op,.op,.cR true 3 (RI.ops 3),.op,.cR true 4 (RI.ops 4),.op,.cR true 3 (RI.ops 3),.op,.cR true 3 (RI.ops 3),.op,.cR true 6 (RI.ops 6),.op,.cR true 3 (RI.ops 3),.op,.cR true 3 (RI.ops 3),.op])) .l)
def QX.v (a b c:Int)(d:Hp)(e:aO):Prop:=aV #[.I a,.I b,.I c] 149 d λf g=>aQ f 0 g λh=>bV (λi j=>bV (λk l=>bV (λm n=>bV (λo p=>bV (λq r=>bV (λs t=>bV (λu v=>e u v) λw=>If s (aQ f 2 t λx=>w (decide (x<=32)) t) (w false t)) λy=>If q (aQ f 2 r λz=>y (decide (z≥1)) r) (y false r)) λaa=>If o (aQ f 1 p λab=>bM (ab*256) λac=>aQ f 0 p λad=>aa (decide (ac≥ad)) p) (aa false p)) λae=>If m (aQ f 1 n λaf=>ae (decide (af<=4)) n) (ae false n)) λag=>If k (aQ f 1 l λah=>ag (decide (ah≥1)) l) (ag false l)) λai=>If i (aQ f 0 j λaj=>Nz 8 <| ai ((aj.tmod 8)==0) j) (ai false j)) λak=>If (h≥8) (aQ f 0 g λal=>ak (decide (al<=512)) g) (ak false g)
theorem QX.o {a b c d e}(f:QX.v a b c d e):QX.c a b c d e:=Wa Tryz.func195 (x:=QX.h) (R0 f)
def ZR.h:Hn:=.q .o2 (.q .o7 .l)
def ZR.v (a b c:Int)(d:Hp)(e:aN):Prop:=aV #[.I a,.I b,.I c] 149 d λf g=>aQ f 1 g λh=>bM (h*256) λi=>aQ f 0 g λj=>Nz j<|bM (i.tdiv j) λk=>e k g
theorem ZR.o {a b c d e}(f:ZR.v a b c d e):ZR.c a b c d e:=Wa Tryz.func196 (x:=ZR.h) (R0 f)
def Qv.h:Hn:=.q .o1 (.q .o1 (.q (.q .o1 (.k (.loop [(3,.I),(4,.I)] (.q (.q .o3 (.c .l .l)) (.q (.k .o2) .o3))))) .aL))
def Qv.v (a:Int)(b:Hp)(c:aN):Prop:=Ya [bO,bO] (λd=>d 0 1 b) λe (f:Int) (g:Int) h=>If (g<=a) (bM (g*2) λi=>e g i h) (c f h)
theorem Qv.o {a b c}(d:Qv.v a b c):Qv.c a b c:=Wa Tryz.func226 (x:=Qv.h) (R0 d)
def Z7.h:Hn:=.q .o2 (.q (.cW (.seq [.op,.op,.op,.op,.op,.cR true 5 (RI.ops 5),.op])) .l)
def Z7.v (a b c:Int)(d e:Addr)(f:Hp)(g:aO):Prop:=aV #[.I a,.I b,.I c] 149 f λh i=>aQ h 0 i λj=>bN d i λk=>bV (λl m=>g l m) λn=>If (j≥k) (aQ h 0 i λo=>bN e i λp=>Nz p <| n ((o.tmod p)==0) i) (n false i)
theorem Z7.o {a b c d e f g}(h:Z7.v a b c d e f g):Z7.c a b c d e f g:=Wa Tryz.func228 (x:=Z7.h) (R0 h)
def ZI.h:Hn:=.q .o3 (.q (.q .o3 .aJ) (.q .o4 .l))
def ZI.v (a b c:Int)(d:Hp)(e:Int->Int->Hp->Prop):Prop:=aV #[.I a,.I b,.I c] 149 d λf g=>aQ f 0 g λh=>aQ f 1 g λi=>aQ f 2 g λj=>QX.c h i j g λk l=>If (!k) (e 0 1 l) (aQ f 0 l λm=>aQ f 1 l λn=>aQ f 2 l λo=>ZR.c m n o l λp q=>e p 0 q)
theorem ZI.o {a b c d e}(f:ZI.v a b c d e):ZI.c a b c d e:=Wa Tryz.func274 (x:=ZI.h) (R0 f)
end Go.Proofs
namespace Go.Ar
open Go Go.Vc Go.Proofs
variable {U:Hp}
theorem Fi (x y z:Int){R:aO}(hR:∀σ',bL U σ'->R (Uz x y z) σ'):QX.c x y z U R:=by
 refine QX.o ?_;unfold QX.v;refine nw (cs:=[.int .i64 x,.int .i64 y,.int .i64 z]) λh A e b=>?_;have p:Uz x y z=false->R false h:=λg=>g▸hR h e;have a:¬(8<=x/\x<=512/\x%8=0/\1<=y/\y<=4/\x<=y*256/\1<=z/\z<=32)->R false h:=λg=>p (by rw[←qT,Hs];exact g);refine b.rI rfl (bV.intro ?_);refine cQ (λw=>b.rI rfl (bV.intro ?_)) λw=>?_
 case refine_2=>
  iterate 6 refine bV.intro (cE rfl ?_)
  exact a O
 refine cQ (λr=>b.rI rfl (nz aB (bV.intro ?_))) λr=>?_
 case refine_2=>
  iterate 5 refine bV.intro (cE rfl ?_)
  exact a O
 rw[Kg O];refine cU (λd=>b.rI rfl (bV.intro ?_)) λd=>?_
 case refine_2=>
  have:¬x%8=0:=by simpa using d
  iterate 4 refine bV.intro (cE rfl ?_)
  exact a O
 have j:x%8=0:=by simpa using d
 refine cQ (λi=>b.rI rfl (bV.intro ?_)) λi=>?_
 case refine_2=>
  iterate 3 refine bV.intro (cE rfl ?_)
  exact a O
 refine cQ (λu=>b.rI rfl (ar O O (b.rI rfl (bV.intro ?_)))) λu=>?_
 case refine_2=>
  iterate 2 refine bV.intro (cE rfl ?_)
  exact a O
 refine cQ (λm=>b.rI rfl (bV.intro ?_)) λm=>?_
 case refine_2=>exact bV.intro (cE rfl (a O))
 refine cQ (λs=>b.rI rfl ?_) λs=>a O;have:decide (z<=32)=Uz x y z:=by
  rw[kT,Hs];simp;omega
 rw[this];exact hR h e
theorem MW {c:cA}(hc:c.ok){R:aN}(hR:∀σ',bL U σ'->R (c.n:Int) σ'):ZR.c c.size c.aF c.batch U R:=by
 refine ZR.o ?_;unfold ZR.v;have h:=hc;unfold cA.ok at h;refine nw (cs:=[.int .i64 c.size,.int .i64 c.aF,.int .i64 c.batch]) λh b e a=>?_;refine a.rI rfl (cS (m:=c.aF*256) aA O (a.rI rfl (nz O ?_)));refine cS (m:=c.n) ?_ (by have:=hc.kq;omega) (hR _ e);rw[YK O];simp[cA.n]
theorem Ei (x y z:Int){R:Int->Int->Hp->Prop}(h1:∀c:cA,c.ok->x=c.size->y=c.aF->z=c.batch->∀σ',bL U σ'->R (c.n:Int) 0 σ')(h0:Uz x y z=false->∀σ',bL U σ'->R 0 1 σ'):ZI.c x y z U R:=by
 refine ZI.o ?_;unfold ZI.v;refine nw (cs:=[.int .i64 x,.int .i64 y,.int .i64 z]) λh j e b=>?_;refine b.rI rfl (b.rI rfl (b.rI rfl (Fi _ _ _ λm e2=>?_)));have a:=e2.bW b id;cases hk:Uz x y z
 ·exact cD rfl (h0 hk _ (e.trans e2))
 ·obtain⟨c,d,_,rfl,rfl,rfl⟩:=G4 hk;exact cE rfl (a.rI rfl (a.rI rfl (a.rI rfl (MW d λi g=>h1 c d rfl rfl rfl _ ((e.trans e2).trans g)))))
end Go.Ar
namespace Go.Proofs
open Go.Vc
set_option maxRecDepth 100000
def KX.h:Hn:=.q .o2 (.q (.q (.cW (.seq [.op,.op,.op,.cR false 2 [.op,.op],.op,.cR false 3 (RI.ops 3)])) .aJ) (.q .o6 .l))
def KX.v (a:Int)(b:Hp)(c:Option Addr->Int->Hp->Prop):Prop:=bV (λd e=>bV (λf g=>If f (c none 1 g) (Mk a a 8 3 [.I 0] g λh i=>aV #[.slice h.a h.len h.cap] 342 i λj k=>c (some j) 0 k)) λl=>If d (l true e) (Nz 16 <| l ((a.tmod 16) != 0) e)) λm=>If (a<16) (m true b) (m (decide (a>1024)) b)
theorem KX.o {a b c}(d:KX.v a b c):KX.c a b c:=Wa Tryz.func211 (x:=KX.h) (R0 d)
def XD.h:Hn:=.q .o1 (.q .o6 .l)
def XD.v (a:R2)(b c:Int)(d:Hp)(e:aN):Prop:=aV #[.I 1] 3 d λf g=>XV.c a b c 2 ⟨some f,1,1⟩ g λh i=>e h i
theorem XD.o {a b c d e}(f:XD.v a b c d e):XD.c a b c d e:=Wa Tryz.func245 (x:=XD.h) (R0 f)
def XA.h:Hn:=.q .o1 (.q (.cW (.seq [.op,.op,.op,.cR true 6 (RI.ops 6),.op])) .l)
def XA.v (a:R2)(b:Hp)(c:aO):Prop:=bV (λd e=>c d e) λf=>If (!a.isNone) (bF a 0 b λh=>f (decide (((h.len:Nat):Int)>0)) b) (f false b)
theorem XA.o {a b c}(d:XA.v a b c):XA.c a b c:=Wa Tryz.func249 (x:=XA.h) (R0 d)
def Y1.h:Hn:=.q .o1 (.q .o7 .l)
def Y1.v (a:R2)(b:Hp)(c:aN):Prop:=bF a 0 b λe=>Nz 16<|bM (((e.len:Nat):Int).tdiv 16) λf=>c f b
theorem Y1.o {a b c}(d:Y1.v a b c):Y1.c a b c:=Wa Tryz.func250 (x:=Y1.h) (R0 d)
def Zp.h:Hn:=.q .o1 (.q (.o 11) .l)
def Zp.v (a:R2)(b:Int)(c:Hp)(d:Sl->Hp->Prop):Prop:=bF a 0 c λf=>bM (b*16) λg=>bM (b+1) λh=>bM (h*16) λi=>fo f 1 g i (f.cap:Nat) λj=>d j c
theorem Zp.o {a b c d}(e:Zp.v a b c d):Zp.c a b c d:=Wa Tryz.func252 (x:=Zp.h) (R0 e)
def XV.h:Hn:=.q .o2 (.q (.k (.q .o4 (.c .aM (.q (.cW (.seq [.op,.op,.op,.cR false 2 [.op,.op],.op,.cR false 7 (RI.ops 7),.op,.cR false 9 (RI.ops 9),.op])) .aK)))) (.q .fZ (.q (.q .o3 .aK) (.q .o3 .aM))))
def XV.v (a:R2)(b c d:Int)(e:Sl)(f:Hp)(g:aN):Prop:=aV #[.slice e.a e.len e.cap] 31 f λh i=>XA.c a i λj k=>If (!j) (g 5 k) (bV (λl m=>bV (λn o=>bV (λp q=>If p (g 1 q) (bF a 0 q λs=>bM (b+c) λt=>fo s 1 b t (s.cap:Nat) λu=>WN.c u ⟨305,#[],#[.pointer (some h)]⟩ q λv w=>If v (g 5 w) (QI.c u d w λx=>g 0 x))) λy=>If n (y true o) (bF a 0 o λaa=>bM (((aa.len:Nat):Int)-b) λab=>y (decide (c>ab)) o)) λac=>If l (ac true m) (bF a 0 m λae=>ac (decide (b>((ae.len:Nat):Int))) m)) λaf=>If (b<0) (af true k) (af (decide (c<1)) k))
theorem XV.o {a b c d e f g}(h:XV.v a b c d e f g):XV.c a b c d e f g:=Wa Tryz.func256 (x:=XV.h) (R0 h)
def Yu.h:Hn:=.q .o2 (.q (.k (.q .o4 (.c .aL (.q (.cW (.seq [.op,.op,.op,.cR false 4 (RI.ops 4),.op])) .aJ)))) (.q .o5 .l))
def Yu.v (a:R2)(b:Int)(c:Hp)(d:Sl->Int->Hp->Prop):Prop:=XA.c a c λe f=>If (!e) (d ⟨none,0,0⟩ 5 f) (bV (λg h=>If g (d ⟨none,0,0⟩ 1 h) (Zp.c a b h λi j=>d i 0 j)) λk=>If (b<0) (k true f) (Y1.c a f λl m=>k (decide (b≥l)) m))
theorem Yu.o {a b c d}(e:Yu.v a b c d):Yu.c a b c d:=Wa Tryz.func259 (x:=Yu.h) (R0 e)
def QI.h:Hn:=.q .o3 (.k (.loop [(7,.I)] (.q .o1 (.q (.c .l .l) (.q (.k (.q .o2 .o5)) .o2)))))
def QI.v (a:Sl)(b:Int)(c:Hp)(d:aP):Prop:=Ya [bO] (λe=>e 0 c) λf (g:Int) h=>If (g<((a.len:Nat):Int)) (Ix a.a a.len g 1 λi=>dU i (.I b) h λj=>bM (g+1) λk=>f k j) (d h)
theorem QI.o {a b c d}(e:QI.v a b c d):QI.c a b c d:=Wa Tryz.func261 (x:=QI.h) (R0 e)
def XM.h:Hn:=.q .o1 (.q .o6 .l)
def XM.v (a:R2)(b c:Int)(d:Hp)(e:aN):Prop:=aV #[.I 2,.I 3] 3 d λf g=>XV.c a b c 1 ⟨some f,2,2⟩ g λh i=>e h i
theorem XM.o {a b c d e}(f:XM.v a b c d e):XM.c a b c d e:=Wa Tryz.func288 (x:=XM.h) (R0 f)
def YH.h:Hn:=.q .o1 (.q .o5 .l)
def YH.v (a:Int)(b:Addr)(c:Hp)(d:aO):Prop:=ju b c λe=>WA.c e a c λf g=>d (!f) g
theorem YH.o {a b c d}(e:YH.v a b c d):YH.c a b c d:=Wa Tryz.func305 (x:=YH.h) (R0 e)
def X4.h:Hn:=.q .o1 (.q (.q (.cW (.seq [.op,.op,.op,.op,.cR false 2 [.op,.op],.op,.cR false 7 (RI.ops 7)])) .aK) (.q .o8 .l))
def X4.v (a:R2)(b:Int)(c:Hp)(d:aN):Prop:=XA.c a c λe f=>bV (λg h=>bV (λi j=>If i (d (-1) j) (bF a 0 j λl=>Ix l.a l.len b 1 λm=>bN m j λn=>d n j)) λo=>If g (o true h) (bF a 0 h λq=>o (decide (b≥((q.len:Nat):Int))) h)) λr=>If (!e) (r true f) (r (decide (b<0)) f)
theorem X4.o {a b c d}(e:X4.v a b c d):X4.c a b c d:=Wa Tryz.func314 (x:=X4.h) (R0 e)
def Yd.h:Hn:=.q .o1 (.q .o8 (.q (.k (.q .o3 (.c .aL (.q .o5 .aK)))) (.q .o2 .aM)))
def Yd.v (a:R2)(b:Int)(c:Hp)(d:aN):Prop:=Yu.c a b c λe f g=>If (f != 0) (d f g) (Ix e.a e.len 0 1 λh=>bN h g λi=>If (i != 0) (d 5 g) (QI.c e 3 g λj=>d 0 j))
theorem Yd.o {a b c d}(e:Yd.v a b c d):Yd.c a b c d:=Wa Tryz.func319 (x:=Yd.h) (R0 e)
end Go.Proofs
namespace Go.Ar
open Go Go.Vc Go.Proofs
open Go.Bu (Zt)
variable {U:Hp}{F:Rg}{p q:Nat}{st:List Nat}
structure ik (U:Hp) (p q:Nat) (st:List Nat):Prop where
 hd:∃cap,st.length<=cap/\bZ U p [.slice (some ⟨q,0,none⟩) st.length cap]
 row:∃rest,bZ U q (ints st++rest)
 ne:p≠q
 n1:16<=st.length
 n2:st.length<=1024
 n3:st.length%16=0
theorem ik.bT {σ':Hp}(h:ik U p q st)(e:Ext F U σ')(hp:¬F p)(hq:¬F q):ik σ' p q st:=
 ⟨by obtain⟨c,a,b⟩:=h.hd;exact⟨c,a,e.bW b hp⟩,by obtain⟨r,a⟩:=h.row;exact⟨r,e.bW a hq⟩,h.ne,h.n1,h.n2,h.n3⟩
theorem ik.bP {σ':Hp}(h:ik U p q st)(e:bL U σ'):ik σ' p q st:=h.bT e id id
theorem ik.lt (h:ik U p q st):p<U.size/\q<U.size:=by
 obtain⟨_,_,a⟩:=h.hd;obtain⟨_,b⟩:=h.row;exact⟨a.lt,b.lt⟩
theorem ik.rS (h:ik U p q st){K:Sl->Prop}(hK:∀cap,st.length<=cap->K ⟨some ⟨q,0,none⟩,st.length,cap⟩):ju (Addr.add ⟨p,0,none⟩ 0) U K:=by
 obtain⟨c,a,b⟩:=h.hd;exact b.rS rfl (hK c a)
theorem ik.part (h:ik U p q st){s:Sl}{a n:Nat}(ha:s.a=some ⟨q,a,none⟩)(hn:s.len=n)(hl:a+n<=st.length):cV s 1 (ints ((st.drop a).take n)) U (· = q):=by
 obtain⟨r,e⟩:=h.row;have b:((st.drop a).take n).length=n:=by simp;omega
 refine e.fX ha (by rw[Q3,b,hn];simp) λj d=>?_;rw[Q3,b]at d;rw[zd (by rw[Q3];omega)];simp[ints,zj,d,kQ]
theorem jK {b o n c:Nat}{cs:List Value}(hb:bZ U b cs)(hl:o+n<=cs.length)(hn:n<=1000000)(v:Nat){R:aP}
 (hR:∀σ',QR U σ' b->bZ σ' b (cs.take o++List.replicate n (.int .i64 (v:Int))++cs.drop (o+n))->R σ'):QI.c ⟨some ⟨b,o,none⟩,n,c⟩ v U R:=by
 refine QI.o ?_;unfold QI.v;refine Qg (a:=bO) (λ(t:Int) p=>∃i:Nat,t=(i:Int)/\i<=n/\QR U p b/\bZ p b (cs.take o++List.replicate i (.int .i64 (v:Int))++cs.drop (o+i))) (λt _=>n-t.toNat) ⟨0,rfl,O,⟨rfl,λ_ _=>rfl⟩,by simpa using hb⟩ ?_;rintro t p ⟨i,rfl,y,r,d⟩;refine cQ (λs=>?_) λu=>?_
 ·simp only at s;refine ix O aC ?_;rw[add_lit];refine d.s0 aE λx g j=>?_;refine cS (m:=i+1) O O ⟨⟨i+1,rfl,O,⟨g.1.trans r.1,λk w=>(g.2 k w).trans (r.2 k w)⟩,?_⟩,O⟩;have:(cs.take o++List.replicate i (Value.int .i64 (v:Int))++cs.drop (o+i)).set (o+(i:Int).toNat*1) (Value.int .i64 (v:Int))=cs.take o++List.replicate (i+1) (Value.int .i64 (v:Int))++cs.drop (o+(i+1)):=by
   rw[Ce _ _ aE];have e:o+(i:Int).toNat*1-(cs.take o++List.replicate i (Value.int .i64 (v:Int))).length=0:=by simp;omega
   rw[e,C3 O,List.set_cons_zero,Cj];simp[zr,xl]
  rw[this]at j;exact j
 ·simp only at u;have:i=n:=by omega
  subst this;exact hR p r d
theorem ik.fill (h:ik U p q st){a n:Nat}{r:List Value}{σ':Hp}{v:Nat}(hrow:bZ U q (ints st++r))(hl:a+n<=st.length)(ho:QR U σ' q)
 (hb:bZ σ' q ((ints st++r).take a++List.replicate n (.int .i64 (v:Int))++(ints st++r).drop (a+n))):ik σ' p q (gA st a (a+n) v):=by
 obtain⟨c,e,g⟩:=h.hd;have b:=Vf st a (a+n) v;refine⟨⟨c,by rw[b];exact e,?_⟩,⟨r,?_⟩,h.ne,by rw[b];exact h.n1,by rw[b];exact h.n2,by rw[b];exact h.n3⟩
 ·rw[b];exact WH ho g h.ne
 ·rw[MK O hl,U9,U9];have e1:(ints st++r).take a=ints (st.take a):=by
   rw[pJ (by rw[Q3];omega)];simp[ints]
  have e2:(ints st++r).drop (a+n)=ints (st.drop (a+n))++r:=by
   rw[List.drop_append_of_le_length (by rw[Q3];omega)];simp[ints]
  have d:ints (List.replicate (a+n-a) v)=List.replicate n (.int .i64 (v:Int)):=by
   rw[Ck];simp[ints]
  rw[e1,e2]at hb;rw[d];simpa[zr]using hb
theorem ik.jK (h:ik U p q st){a n c:Nat}(hl:a+n<=st.length)(v:Nat){R:aP}(hR:∀σ',Ext (· = q) U σ'->ik σ' p q (gA st a (a+n) v)->R σ') :
 QI.c ⟨some ⟨q,a,none⟩,n,c⟩ v U R:=by
 obtain⟨r,b⟩:=h.row;have:=h.n2;exact Ar.jK b (by simp[Q3];omega) O v λσ' d e=>hR σ' d.ext (h.fill b hl d e)
theorem CV (h:ik U p q st){R:aO}(hR:R true U):XA.c (aW p) U R:=by
 refine XA.o ?_;unfold XA.v;refine bV.intro (cD rfl (aG (h.rS λcap _=>?_)));have:=h.n1;rw[zJ aC];exact hR
theorem OB (h:ik U p q st){R:aN}(hR:R ((st.length/16:Nat):Int) U):Y1.c (aW p) U R:=by
 refine Y1.o ?_;unfold Y1.v;have:=h.n2;refine aG (h.rS λcap _=>nz aB ?_);refine cS (m:=st.length/16) ?_ O hR;rw[YK O];simp
theorem RO (h:ik U p q st){k:Nat}(hk:16*k+16<=st.length){R:Sl->Hp->Prop}(hR:∀c,R ⟨some ⟨q,16*k,none⟩,16,c⟩ U):Zp.c (aW p) (k:Int) U R:=by
 refine Zp.o ?_;unfold Zp.v;have:=h.n2;refine aG (h.rS λcap a=>?_);refine cS (m:=16*k) O O (cS (m:=k+1) O O (cS (m:=16*k+16) O O ?_));refine jj O aC aC ?_;have e:16*k+16-16*k=16:=by omega
 rw[zB aC,e];simp only[ze,add_lit,nH,zH];exact hR _
theorem Lx (h:ik U p q st)(k:Int){R:Sl->Int->Hp->Prop}(h1:∀(x:Nat) c,k=(x:Int)->16*x+16<=st.length->R ⟨some ⟨q,16*x,none⟩,16,c⟩ 0 U)(h0:uT st.length k=false->R ⟨none,0,0⟩ 1 U) :
 Yu.c (aW p) k U R:=by
 refine Yu.o ?_;unfold Yu.v;have n3:=h.n3;refine CV h (cE rfl (bV.intro (cQ (λa=>cD rfl (h0 ?_)) λa=>OB h ?_)))
 ·simp[uT];omega
 ·refine cQ (λd=>h0 ?_) λb=>?_
  ·simp[uT];omega
  ·obtain⟨x,rfl⟩:=zc (show 0<=k by omega);exact RO h O λc=>h1 x c rfl O
theorem Ii {n x:Nat}(h:16*x+16<=n):uT n (x:Int)=true:=by simp[uT];omega
theorem ik.first (h:ik U p q st){x c:Nat}(hx:16*x+16<=st.length){K:Int->Prop}(hK:K ((st.getD (16*x) 0:Nat):Int)) :
 Ix (some ⟨q,16*x,none⟩) 16 0 1 λa=>gJ .i64 a U K:=by
 have b:=h.part (s:=⟨some ⟨q,16*x,none⟩,16,c⟩) (n:=16) rfl rfl hx;refine b.rE (i:=0) (x:=st.getD (16*x) 0) ?_ hK;simp[zj,kQ,zQ];rw[cX O];simp
theorem PW (h:ik U p q st)(k:Int){R:aN}(hR:∀σ',Ext (· = q) U σ'->ik σ' p q (iQ st k)->R (kB st k) σ'):Yd.c (aW p) k U R:=by
 refine Yd.o ?_;unfold Yd.v;refine Lx h k (λx c i g=>?_) λi=>?_
 ·subst i;have b:=Ii g;refine cE rfl (h.first (c:=c) g (cU (λd=>?_) λd=>?_))
  ·have e1:¬st.getD (16*x) 0=0:=by simpa using d
   have:kB st (x:Int)=5:=by simp only[kB,b,dD,zR,zB e1]
   have e2:iQ st (x:Int)=st:=by simp[iQ,this]
   have:=hR U (Ext.refl _ _);rw[e2]at this;simpa[*]using this h
  ·have e1:st.getD (16*x) 0=0:=by simpa using d
   have a:kB st (x:Int)=0:=by simp only[kB,b,dD,zR,e1]
   have e2:iQ st (x:Int)=gA st (16*x) (16*x+16) 3:=by simp[iQ,a]
   refine h.jK g 3 λσ' e j=>?_;have:=hR σ' e;rw[a,e2]at this;exact this j
 ·have a:kB st k=1:=by simp[kB,i]
  have e2:iQ st k=st:=by simp[iQ,a]
  refine cD rfl ?_;have:=hR U (Ext.refl _ _);rw[a,e2]at this;exact this h
theorem EU {s:Sl}{xs:List Nat}(h:cV s 1 (ints xs) U F)(hl:xs.length<=1000000)(v:Nat){R:aN}(h1:∀i:Nat,xs[i]?=some v->(∀j:Nat,j<i->xs[j]?≠some v)->R (i:Int) U)(h0:v∉xs->R (-1) U) :
 W0.c s (v:Int) U R:=by
 refine W0.o ?_;unfold W0.v;have x:=h.oh;refine Qg (a:=bO) (λ(t:Int) w=>∃i:Nat,t=(i:Int)/\i<=xs.length/\w=U/\∀j,j<i->xs[j]?≠some v) (λt _=>xs.length-t.toNat) ⟨0,rfl,O,rfl,λj d=>O⟩ ?_;rintro t w ⟨i,rfl,B,rfl,b⟩;refine cQ (λz=>?_) λA=>?_
 ·have u:i<xs.length:=by omega
  have p:xs[i]?=some xs[i]:=cX u;refine h.rE p ?_;rw[l6];refine cU (λg=>?_) λg=>?_
  ·have:v=xs[i]:=by simpa using g
   exact h1 i (by rw[p,this]) b
  ·have r:¬v=xs[i]:=by simpa using g
   refine cS (m:=i+1) O O ⟨⟨i+1,rfl,O,rfl,λj d=>?_⟩,O⟩;by_cases e:j=i
   ·subst e;rw[p];intro e2;cases e2;exact r rfl
   ·exact b j O
 ·refine h0 λy=>?_;obtain⟨j,d⟩:=zO y;have:=(cZ.1 d).1;exact b j O d
theorem J6 {s:Sl}{xs:List Nat}(h:cV s 1 (ints xs) U F)(hl:xs.length<=1000000)(v:Nat){R:aO}(hR:R (xs.contains v) U):WA.c s (v:Int) U R:=by
 refine WA.o ?_;unfold WA.v;refine EU h hl v (λi b _=>?_) λa=>?_
 ·have:xs.contains v=true:=by simpa using zG b
  rw[this]at hR;rw[zJ O];exact hR
 ·have:xs.contains v=false:=by simpa using a
  rw[this]at hR;exact hR
theorem GD {s:Sl}{xs:List Int}(h:cV s 1 (xs.map (Value.int .i64)) U F)(hl:xs.length<=1000000000)(v:Int){R:aO}(hR:R (xs.contains v) U):WA.c s v U R:=by
 refine WA.o ?_;unfold WA.v;refine W0.o ?_;unfold W0.v;have w:s.len=xs.length:=by have:=h.1;simp at this;omega
 refine Qg (a:=bO) (λ(t:Int) u=>∃i:Nat,t=(i:Int)/\i<=xs.length/\u=U/\∀j,j<i->xs[j]?≠some v) (λt _=>xs.length-t.toNat) ⟨0,rfl,O,rfl,λj d=>O⟩ ?_;rintro t u ⟨i,rfl,A,rfl,b⟩;refine cQ (λy=>?_) λz=>?_
 ·have r:i<xs.length:=by omega
  have x:xs[i]?=some xs[i]:=cX r;refine h.mi x (cU (λg=>?_) λg=>?_)
  ·have e:v=xs[i]:=by simpa using g
   have:xs.contains v=true:=by rw[e];simp
   rw[this]at hR;show R (decide ((i:Int)≥0)) _;rw[zJ O];exact hR
  ·have p:¬v=xs[i]:=by simpa using g
   refine cS (m:=i+1) O O ⟨⟨i+1,rfl,O,rfl,λj d=>?_⟩,O⟩;by_cases e:j=i
   ·subst e;rw[x];intro e2;cases e2;exact p rfl
   ·exact b j O
 ·have:xs.contains v=false:=by
   simp only[r4,decide_eq_false_iff_not];intro hm;obtain⟨j,d⟩:=zO hm;have:=(cZ.1 d).1;exact b j O d
  rw[this]at hR;exact hR
def FK (f:Fv)(p:Nat->Bool)(U:Hp):Prop:=∀(x:Nat) (σ':Hp) (R:aO),bL U σ'->(∀σ'',bL σ' σ''->R (p x) σ'')->VH Tryz.prog f [.int .i64 (x:Int)] [.one .b] σ' R
theorem MI {s:Sl}{xs:List Nat}(h:cV s 1 (ints xs) U F)(hl:xs.length<=1000000){f:Fv}{pr:Nat->Bool}(hf:FK f pr U){R:aO}(hR:∀σ',bL U σ'->R (xs.any pr) σ') :
 WN.c s f U R:=by
 refine WN.o ?_;unfold WN.v;refine Xf.o ?_;unfold Xf.v;have w:=h.oh;refine Qg (a:=bO) (λ(t:Int) u=>∃i:Nat,t=(i:Int)/\i<=xs.length/\bL U u/\∀j x,j<i->xs[j]?=some x->pr x=false) (λt _=>xs.length-t.toNat) ⟨0,rfl,O,Ext.refl _ _,λj x r=>O⟩ ?_;rintro t u ⟨i,rfl,A,e,d⟩;refine cQ (λz=>?_) λy=>?_
 ·have g:i<xs.length:=by omega
  have p:xs[i]?=some xs[i]:=cX g;refine(aH.bP h e).rE p (hf _ _ _ e λB e2=>?_);cases hp:pr xs[i]
  ·refine cE rfl (cS (m:=i+1) O O ⟨⟨i+1,rfl,O,e.trans e2,λj x r b=>?_⟩,O⟩);by_cases e3:j=i
   ·subst e3;rw[p]at b;cases b;exact hp
   ·exact d j x O b
  ·refine cD rfl ?_;have:xs.any pr=true:=zy.2 ⟨_,ka g,hp⟩;show R (decide ((i:Int)≥0)) _;rw[zJ O,←this];exact hR _ (e.trans e2)
 ·have:xs.any pr=false:=by
   rw[mc];intro x p;obtain⟨j,r⟩:=zO p;have:=(cZ.1 r).1;simp[d j x O r]
  show R (decide ((-1:Int)≥0)) _;rw[show decide ((-1:Int)≥0)=false from rfl,←this];exact hR _ e
theorem S7 {c:Nat}{s:Sl}{fr:List Nat}{σ0:Hp}(hb:bZ σ0 c [.slice s.a s.len s.cap])(hs:cV s 1 (ints fr) σ0 F)(hl:fr.length<=1000):FK ⟨305,#[],#[.pointer (some ⟨c,0,none⟩)]⟩ (λx=>!fr.contains x) σ0:=by
 intro x σ' R e hR;refine GR (all := #[.int .i64 (x:Int),.pointer (some ⟨c,0,none⟩)]) (by kernel_rfl) aA ?_;refine YH.o ?_;unfold YH.v;refine(e.bW hb id).uR rfl ?_;exact J6 (aH.bP hs e) O x (hR _ (Ext.refl _ _))
theorem Jw (h:ik U p q st)(a m:Int)(v:Nat){s:Sl}{fr:List Nat}(hs:cV s 1 (ints fr) U F)(hl:fr.length<=1000){R:aN}(hR:∀σ',Ext (· = q) U σ'->ik σ' p q (UI st a m v fr)->R (oC st a m fr) σ') :
 XV.c (aW p) a m v s U R:=by
 refine XV.o ?_;unfold XV.v;have n2:=h.n2;have N:=h.lt.2;refine nw (cs:=[.slice s.a s.len s.cap]) λv1 P j G=>?_;have e:=h.bP j;have b:¬(0<=a/\1<=m/\m<=st.length-a)->R 1 v1:=λJ=>by
  have d:Zt st.length a m=false:=by simp only[Zt,←uN];exact zL J
  have e1:oC st a m fr=1:=by simp[oC,d]
  have e2:UI st a m v fr=st:=by simp[UI,e1]
  have:=hR v1 j.to;rw[e1,e2]at this;exact this e
 refine CV e (cE rfl (bV.intro ?_));refine cQ (λL=>bV.intro (cD rfl (bV.intro (cD rfl (cD rfl (b O)))))) λL=>?_;refine bV.intro (cQ (λE=>bV.intro (cD rfl (cD rfl (b O)))) λE=>?_);refine aG (e.rS λcap u=>bV.intro (cQ (λw=>cD rfl (b (by simp only at *;omega))) λw=>?_));simp only at w;refine aG (e.rS λcap u=>ar aC aC (cQ (λA=>b (by simp only at *;omega)) λA=>?_));simp only at A;obtain⟨x,rfl⟩:=zc (show 0<=a by omega);obtain⟨y,rfl⟩:=zc (show 0<=m by omega);have g:x+y<=st.length:=by omega
 have d:Zt st.length (x:Int) (y:Int)=true:=by simp only[Zt,zE,zU];omega
 refine aG (e.rS λcap u=>cS (m:=x+y) O O (jj O aC aC ?_));rw[zB aC];simp only[ze,add_lit,nH,zH];have C:x+y-x=y:=by omega
 rw[C];have D:=e.part (s:=⟨some ⟨q,x,none⟩,y,cap-x⟩) (n:=y) rfl rfl g;refine MI D aE (S7 (s:=s) G (aH.bP hs j) hl) λK e2=>?_;have B:=e.bP e2;have i:((st.drop x).take y).any (λz=>!fr.contains z) = !ve st x y fr:=by
  rw[ve,List.all_eq_not_any_not,Bool.not_not]
 rw[i];cases hA:ve st x y fr
 ·have e1:oC st (x:Int) (y:Int) fr=5:=by simp[oC,d,hA]
  have r:UI st (x:Int) (y:Int) v fr=st:=by simp[UI,e1]
  have:=hR K (j.to.trans e2.to);rw[e1,r]at this;exact cD rfl (this B)
 ·have e1:oC st (x:Int) (y:Int) fr=0:=by simp[oC,d,hA]
  have r:UI st (x:Int) (y:Int) v fr=gA st x (x+y) v:=by simp[UI,e1]
  refine cE rfl (B.jK g v λv3 M H=>?_);have:=hR v3 (j.to.trans (e2.to.trans M));rw[e1,r]at this;exact this H
theorem yg {h:Hp}{b:Nat}{xs:List Nat}{n c:Nat}(hb:bZ h b (ints xs))(hn:n=xs.length):cV ⟨some ⟨b,0,none⟩,n,c⟩ 1 (ints xs) h (· = b):=
 hb.fX (o:=0) rfl (by rw[Q3];simp[hn]) λj _=>by rw[zH]
theorem PA (h:ik U p q st)(a m:Int){R:aN}(hR:∀σ',Ext (· = q) U σ'->ik σ' p q (UI st a m 1 [2,3])->R (oC st a m [2,3]) σ'):XM.c (aW p) a m U R:=by
 refine XM.o ?_;unfold XM.v;refine nw (cs:=ints [2,3]) λv i e d=>?_;exact Jw (h.bP e) a m 1 (yg d rfl) aA λσ' g b=>hR σ' (e.to.trans g) b
theorem PO (h:ik U p q st)(a m:Int){R:aN}(hR:∀σ',Ext (· = q) U σ'->ik σ' p q (UI st a m 2 [1])->R (oC st a m [1]) σ'):XD.c (aW p) a m U R:=by
 refine XD.o ?_;unfold XD.v;refine nw (cs:=ints [1]) λv i e d=>?_;exact Jw (h.bP e) a m 2 (yg d rfl) aA λσ' g b=>hR σ' (e.to.trans g) b
def yD (st:List Nat)(x:Int):Int:=if 0<=x/\x<st.length then((st.getD x.toNat 0:Nat):Int)else -1
theorem Tg (h:ik U p q st)(x:Int){R:aN}(hR:R (yD st x) U):X4.c (aW p) x U R:=by
 refine X4.o ?_;unfold X4.v;have n2:=h.n2;unfold yD at hR;refine CV h (bV.intro (cE rfl (bV.intro (cQ (λi=>cD rfl ?_) λi=>aG (h.rS λcap g=>cQ (λb=>?_) λb=>?_)))))
 ·rw[zB O]at hR;exact hR
 ·simp only at b;rw[zB O]at hR;exact hR
 ·simp only at b;rw[zC O]at hR;obtain⟨y,rfl⟩:=zc (show 0<=x by omega);refine aG (h.rS λcap g=>?_);have d:=h.part (s:=⟨some ⟨q,0,none⟩,st.length,cap⟩) (a:=0) (n:=st.length) rfl rfl O;rw[ye,l0]at d;have e:y<st.length:=by omega
  refine d.rE (cX e) ?_;simpa[zQ,cX e]using hR
theorem Ho {s:Sl}{vs:List Value}(h:cV s 1 vs U F)(h1:∀v∈vs,dR v=true)(hl:s.len<=1000000){R:Sl->Hp->Prop}
 (hR:∀s' σ',s'.len=s.len->bL U σ'->bS s' 1 vs σ' (λb=>U.size<=b)->R s' σ'):W3.c s U R:=by
 refine W3.o ?_;unfold W3.v;exact Dk h aB rfl h1 aB hl hR
theorem SA {n:Nat}(h1:16<=n)(h2:n<=1024)(h3:n%16=0){R:Option Addr->Int->Hp->Prop}(hR:∀σ' p q,bL U σ'->U.size<=p->U.size<=q->ik σ' p q (List.replicate n 0)->R (some ⟨p,0,none⟩) 0 σ'):KX.c (n:Int) U R:=by
 refine KX.o ?_;unfold KX.v;refine bV.intro (fV O (bV.intro (fV O (nz aB ?_))));rw[Kg O];have:(((n:Int)%16) != 0)=false:=by
  have:((n:Int)%16)=0:=by omega
  rw[this];rfl
 rw[this];refine cE rfl (mk O O λv j e b=>nw (cs:=[.slice (some ⟨U.size,0,none⟩) n n]) λi d e2 a=>?_);have g:(List.replicate n [Value.int .i64 0]).flatten=ints (List.replicate n 0):=by
  have:[Value.int .i64 0]=ints [0]:=rfl;rw[this];clear b hR
  induction n with
  | zero=>rfl
  | succ n ih=>simp[sd,ints]
 rw[g]at b;refine hR _ _ _ (e.trans e2) O (zD _) ⟨⟨n,by simp,by simpa using a⟩,⟨[],by simpa using e2.bW b id⟩,O,by simpa using h1,by simpa using h2,by simpa using h3⟩
end Go.Ar
namespace Go.Proofs
open Go.Vc
set_option maxRecDepth 100000
def ZS.h:Hn:=.q .o1 (.q (.q .o3 .aJ) (.q (.cW (.tail 10 (RI.ops 10) [.op])) .l))
def ZS.v (a:R2)(b:Hp)(c:Int->Int->Hp->Prop):Prop:=aV #[.I 0,.I 0] 268 b λd e=>Yz.c a e λf g=>If (!f) (aR d 0 (.I 0) g λh=>aR d 1 (.I 0) h λi=>aQ d 0 i λj=>aQ d 1 i λk=>c j k i) (bE a 0 g λm=>bX a λn=>bN ((n.add 1).add 1) g λo=>aR d 0 (.I m) g λp=>aR d 1 (.I o) p λq=>aQ d 0 q λr=>aQ d 1 q λs=>c r s q)
theorem ZS.o {a b c}(d:ZS.v a b c):ZS.c a b c:=Wa Tryz.func198 (x:=ZS.h) (R0 d)
def YC.h:Hn:=.q .o1 (.q (.q .o3 .aK) (.q .o6 .l))
def YC.v (a:R2)(b:Hp)(c:aN):Prop:=Yz.c a b λd e=>If (!d) (c 0 e) (bF a 4 e λg=>c ((g.len:Nat):Int) e)
theorem YC.o {a b c}(d:YC.v a b c):YC.c a b c:=Wa Tryz.func201 (x:=YC.h) (R0 d)
def Yz.h:Hn:=.q .o1 (.q (.cW (.seq [.op,.op,.op,.cR true 6 (RI.ops 6),.op])) .l)
def Yz.v (a:R2)(b:Hp)(c:aO):Prop:=bV (λd e=>c d e) λf=>If (!a.isNone) (bF a 4 b λh=>f (decide (((h.len:Nat):Int)>0)) b) (f false b)
theorem Yz.o {a b c}(d:Yz.v a b c):Yz.c a b c:=Wa Tryz.func268 (x:=Yz.h) (R0 d)
def KW.h:Hn:=.q .o3 (.q .o7 (.q (.q (.cW (.seq [.op,.op,.op,.cR false 2 [.op,.op],.op,.cR false 5 (RI.ops 5)])) .aJ) (.q (.cW (.held true [] (.tk [0,1,2] (.all [(3,.take 4 (.all [(5,.take 6 (.take 7 (.done)))]))])))) .l)))
def KW.v (a b c d:Int)(e:Hp)(f:Option Addr->Int->Hp->Prop):Prop:=aV #[.I b,.I c,.I d] 149 e λg h=>aQ g 0 h λi=>aQ g 1 h λj=>aQ g 2 h λk=>ZI.c i j k h λl m n=>bV (λo p=>bV (λq r=>If q (f none 1 r) (dZ r λs=>aS s g 0 λt=>aS s g 1 λu=>aS s g 2 λv=>Mk l l 8 3 [.I 0] r λw x=>And (s x) <| aV #[.I a,.I t,.I u,.I v,.slice w.a w.len w.cap,.I 0] 339 x λy z=>And (s z) <| f (some y) 0 z)) λaa=>If o (aa true p) (aQ g 1 p λab=>bM (1024-ab) λac=>aa (decide (a>ac)) p)) λad=>If (m != 0) (ad true n) (ad (decide (a<0)) n)
theorem KW.o {a b c d e f}(g:KW.v a b c d e f):KW.c a b c d e f:=Wa Tryz.func290 (x:=KW.h) (R0 g)
def ZG.h:Hn:=.q .o1 (.q .o8 (.q (.k (.q .o3 (.c .aL (.q .o9 .aK)))) (.q .o4 .aM)))
def ZG.v (a:R2)(b:Int)(c:Hp)(d:aN):Prop:=Yp.c a b c λe f g=>If (f != 0) (d f g) (bF a 4 g λi=>Ix i.a i.len e 1 λj=>bN j g λk=>If (k==0) (d 9 g) (aV #[.I e] 3 g λl m=>Zf.c a 0 ⟨some l,1,1⟩ m λn=>d 0 n))
theorem ZG.o {a b c d}(e:ZG.v a b c d):ZG.c a b c d:=Wa Tryz.func311 (x:=ZG.h) (R0 e)
def Zy.h:Hn:=.q .o2 (.q (.q .o3 .aJ) (.q .o6 (.q (.q .o2 .aJ) (.q .o4 (.q .o5 .l)))))
def Zy.v (a:R2)(b:Hp)(c:Int->Int->Hp->Prop):Prop:=Yz.c a b λd e=>If (!d) (c 0 5 e) (bF a 4 e λg=>W0.c g 0 e λh i=>If (h<0) (c 0 6 i) (aV #[.I h] 3 i λj k=>Zf.c a 1 ⟨some j,1,1⟩ k λl=>YA.c a h l λm n=>c m 0 n))
theorem Zy.o {a b c}(d:Zy.v a b c):Zy.c a b c:=Wa Tryz.func316 (x:=Zy.h) (R0 d)
def Yi.h:Hn:=.q .o2 (.q (.q .o3 .aJ) (.q .o5 (.q (.q (.cW (.gH false [] [(32,.one .b)] (.take 0 (.take 1 (.all [(2,.take 3 (.take 4 (.split 18 (.take 5 (.take 6 (.take 7 (.take 8 (.take 9 (.take 10 (.take 11 (.take 12 (.take 13 (.take 14 (.take 15 (.take 16 (.take 17 (.take 18 (.done))))))))))))))) (.take 5 (.take 6 (.take 7 (.take 8 (.take 11 (.take 12 (.take 13 (.take 14 (.all [(9,.take 10 (.all [(15,.take 16 (.take 17 (.take 18 (.done))))])),(15,.all [(9,.take 10 (.take 16 (.take 17 (.take 18 (.done)))))])]))))))))))))]))))) .aJ) (.q .o9 .l))))
def Yi.v (a:R2)(b:Int)(c:Hp)(d:Int->Int->Hp->Prop):Prop:=Yz.c a c λe f=>If (!e) (d 0 5 f) (YA.c a 0 f λg h=>bM (b-g) λi=>Jn [.b] (λ(j:Bool) k=>If j (d 0 8 k) (bX a λl=>bN ((l.add 1).add 0) k λm=>Nz m<|bM (i.tdiv m) λn=>d n 0 k)) λo=>YA.c a 0 h λp q=>If (b<p) (o true q) (bX a λr=>bX a λs=>(aX r 4 q λt=>bN ((s.add 1).add 0) q λu=>bM (((t.len:Nat):Int)*u) λv=>o (decide (i≥v)) q) ∧ (bN ((s.add 1).add 0) q λw=>aX r 4 q λx=>bM (((x.len:Nat):Int)*w) λy=>o (decide (i≥y)) q)))
theorem Yi.o {a b c d}(e:Yi.v a b c d):Yi.c a b c d:=Wa Tryz.func322 (x:=Yi.h) (R0 e)
def YE.h:Hn:=.q .o2 (.q .o8 (.q (.q .o2 (.c (.q .o3 .l) .l)) (.q .fZ .l)))
def YE.v (a:R2)(b:Int)(c:Hp)(d:Bool->Int->Hp->Prop):Prop:=Yp.c a b c λe f g=>If (f != 0) (d false f g) (bF a 4 g λi=>Ix i.a i.len e 1 λj=>bN j g λk=>d (k==1) 0 g)
theorem YE.o {a b c d}(e:YE.v a b c d):YE.c a b c d:=Wa Tryz.func324 (x:=YE.h) (R0 e)
def Yp.h:Hn:=.q .o2 (.q .o8 (.q (.q (.cW (.seq [.op,.op,.op,.cR true 5 (RI.ops 5)])) .aJ) (.q .o4 .l)))
def Yp.v (a:R2)(b:Int)(c:Hp)(d:Int->Int->Hp->Prop):Prop:=Yi.c a b c λe f g=>bV (λh i=>If h (d 0 8 i) (d e f i)) λj=>If (f==0) (YA.c a e g λk l=>j (k != b) l) (j false g)
theorem Yp.o {a b c d}(e:Yp.v a b c d):Yp.c a b c d:=Wa Tryz.func335 (x:=Yp.h) (R0 e)
def Zf.h:Hn:=.q .o3 (.k (.loop [(10,.I)] (.q .o1 (.q (.c .l .l) (.q (.k (.q .o3 (.q (.cW (.tail 16 (RI.ops 16) [.op])) .o8))) .o2)))))
def Zf.v (a:R2)(b:Int)(c:Sl)(d:Hp)(e:aP):Prop:=Ya [bO] (λf=>f 0 d) λg (h:Int) i=>If (h<((c.len:Nat):Int)) (Ix c.a c.len h 1 λj=>bN j i λk=>bE a 5 i λm=>bF a 4 i λo=>Ix o.a o.len k 1 λp=>bN p i λq=>bM (b-q) λr=>bM (m+r) λs=>bX a λt=>aR t 5 (.I s) i λu=>bF a 4 u λw=>Ix w.a w.len k 1 λx=>dU x (.I b) u λy=>bM (h+1) λz=>g z y) (e i)
theorem Zf.o {a b c d e}(f:Zf.v a b c d e):Zf.c a b c d e:=Wa Tryz.func336 (x:=Zf.h) (R0 f)
def YA.h:Hn:=.q .o1 (.q (.oq 14) .l)
def YA.v (a:R2)(b:Int)(c:Hp)(d:aN):Prop:=bE a 0 c λf=>bM (f*256) λg=>bX a λh=>bN ((h.add 1).add 0) c λi=>bM (b*i) λj=>bM (g+j) λk=>d k c
theorem YA.o {a b c d}(e:YA.v a b c d):YA.c a b c d:=Wa Tryz.func339 (x:=YA.h) (R0 e)
end Go.Proofs
namespace Go.Ar
open Go Go.Vc Go.Proofs
variable {U:Hp}{F:Rg}{p q:Nat}{c:cA}{s:cH}
def nI (tk:List Bool):List Nat:=tk.map λb=>if b then 1 else 0
theorem vT (tk:List Bool):(nI tk).length=tk.length:=by simp[nI]
theorem H7 {tk:List Bool}{i:Nat}{b:Bool}(h:tk[i]?=some b):(nI tk)[i]?=some (if b then 1 else 0):=by simp[nI,h]
theorem PS (tk:List Bool)(i:Nat)(b:Bool):nI (tk.set i b)=(nI tk).set i (if b then 1 else 0):=by simp[nI,uD]
structure hU (U:Hp) (p q:Nat) (c:cA) (s:cH):Prop where
 hd:∃cap,c.n<=cap/\bZ U p [.int .i64 (s.st:Int),.int .i64 (c.size:Int),.int .i64 (c.aF:Int),.int .i64 (c.batch:Int),.slice (some ⟨q,0,none⟩) c.n cap,.int .i64 (s.many:Int)]
 row:∃rest,bZ U q (ints (nI s.tk)++rest)
 ne:p≠q
 len:s.tk.length=c.n
 ok:c.ok
 fit:s.st+c.aF<=1024
theorem hU.bT {σ':Hp}(h:hU U p q c s)(e:Ext F U σ')(hp:¬F p)(hq:¬F q):hU σ' p q c s:=
 ⟨by obtain⟨c,a,b⟩:=h.hd;exact⟨c,a,e.bW b hp⟩,by obtain⟨r,a⟩:=h.row;exact⟨r,e.bW a hq⟩,h.ne,h.len,h.ok,h.fit⟩
theorem hU.bP {σ':Hp}(h:hU U p q c s)(e:bL U σ'):hU σ' p q c s:=h.bT e id id
theorem hU.lt (h:hU U p q c s):p<U.size/\q<U.size:=by
 obtain⟨_,_,a⟩:=h.hd;obtain⟨_,b⟩:=h.row;exact⟨a.lt,b.lt⟩
theorem hU.rS (h:hU U p q c s){K:Sl->Prop}(hK:∀cap,c.n<=cap->K ⟨some ⟨q,0,none⟩,c.n,cap⟩):ju (Addr.add ⟨p,0,none⟩ 4) U K:=by
 obtain⟨a,b,d⟩:=h.hd;exact d.rS rfl (hK a b)
theorem hU.rI (h:hU U p q c s){i:Nat}{x:Int}(hx:∀a b:Value,([.int .i64 (s.st:Int),.int .i64 (c.size:Int),.int .i64 (c.aF:Int),.int .i64 (c.batch:Int),a,.int .i64 (s.many:Int)]:List Value)[0+i]?=some (.int .i64 x)){K:Int->Prop}(hK:K x):gJ .i64 (Addr.add ⟨p,0,none⟩ i) U K:=by
 obtain⟨e,g,d⟩:=h.hd;exact d.rI (hx _ .nilFunc) hK
theorem hU.gC (h:hU U p q c s){i j:Nat}{x:Int}(hx:∀a b:Value,([.int .i64 (s.st:Int),.int .i64 (c.size:Int),.int .i64 (c.aF:Int),.int .i64 (c.batch:Int),a,.int .i64 (s.many:Int)]:List Value)[0+i+j]?=some (.int .i64 x)){K:Int->Prop}(hK:K x):gJ .i64 (Addr.add (Addr.add ⟨p,0,none⟩ i) j) U K:=by
 obtain⟨e,g,d⟩:=h.hd;exact d.gC (hx _ .nilFunc) hK
theorem hU.lb (h:hU U p q c s)(cap:Nat):cV ⟨some ⟨q,0,none⟩,c.n,cap⟩ 1 (ints (nI s.tk)) U (· = q):=by
 obtain⟨r,a⟩:=h.row;refine a.fX (o:=0) rfl (by rw[Q3,vT,h.len];simp) λj b=>?_;rw[zH,zd b]
theorem yA (h:hU U p q c s){R:aO}(hR:R true U):Yz.c (aW p) U R:=by
 refine Yz.o ?_;unfold Yz.v;refine bV.intro (cD rfl (aG (h.rS λcap _=>?_)));have:=h.ok.rG;rw[zJ aC];exact hR
theorem MA (h:hU U p q c s){R:aN}(hR:R (c.n:Int) U):YC.c (aW p) U R:=by
 refine YC.o ?_;unfold YC.v;exact yA h (cE rfl (aG (h.rS λcap _=>hR)))
theorem y6 (h:hU U p q c s)(i:Nat)(hi:i<=1000){R:aN}(hR:R ((at_ c s i:Nat):Int) U):YA.c (aW p) (i:Int) U R:=by
 refine YA.o ?_;unfold YA.v;have a:=h.ok;unfold cA.ok at a;have:=h.fit;have b:i*c.size<=1000*512:=mb hi O;refine aG (h.rI (λ_ _=>rfl) (cS (m:=s.st*256) aA O (aG (h.gC (λ_ _=>rfl) ?_))));exact cS (m:=i*c.size) aA O (cS (m:=at_ c s i) (by simp[at_]) (by unfold at_;omega) hR)
theorem Bb (h:hU U p q c s)(x:Int)(hx2:x<=9223372036854775807){R:Int->Int->Hp->Prop}(h1:∀i,idx c s x=some i->R (i:Int) 0 U)(h0:idx c s x=none->R 0 8 U):Yi.c (aW p) x U R:=by
 refine Yi.o ?_;unfold Yi.v;have z:=h.ok;unfold cA.ok at z;have A:=h.ok.kq;have u:=h.fit;have a:=h.len;have E:c.n*c.size<=128*512:=mb A O;refine yA h (cE rfl (y6 h 0 O ?_));have r:at_ c s 0=s.st*256:=by simp[at_]
 rw[r];refine xh ?_;refine Jn.intro (y6 h 0 O ?_);rw[r];refine cQ (λB=>cD rfl (h0 ?_)) λC=>?_
 ·unfold idx;rw[zC O]
 ·rw[Ub O O];obtain⟨y,D⟩:=zc (show 0<=x by omega);have key:If (decide (x-((s.st*256:Nat):Int)≥((c.n*c.size:Nat):Int))) (R 0 8 U)
   (bX (some ⟨p,0,none⟩) λg=>gJ .i64 ((g.add 1).add 0) U λd=>Nz d<|Ar .i64 ((x-((s.st*256:Nat):Int)).tdiv d) λe=>R e 0 U):=by
   refine cQ (λw=>h0 ?_) λj=>aG (h.gC (λ_ _=>rfl) (nz O ?_))
   ·unfold idx;rw[a,zC O]
   ·have:idx c s x=some ((x-((s.st*256:Nat):Int)).toNat/c.size):=by unfold idx;rw[a,zB O]
    refine cS (m:=(x-((s.st*256:Nat):Int)).toNat/c.size) ?_ ?_ (h1 _ this)
    ·rw[YK O];have:x-((s.st*256:Nat):Int)=(((x-((s.st*256:Nat):Int)).toNat:Nat):Int):=by omega
     rw[this];simp
    ·have:=Nat.div_le_self (x-((s.st*256:Nat):Int)).toNat c.size;omega
  refine aG (aG ⟨h.rS λcap b=>h.gC (λ_ _=>rfl) (cS (m:=c.n*c.size) aA O key),h.gC (λ_ _=>rfl) (h.rS λcap b=>cS (m:=c.n*c.size) aA O key)⟩)
theorem IS (h:hU U p q c s)(x:Int)(hx2:x<=9223372036854775807){R:Int->Int->Hp->Prop}(h1:∀i,obj c s x=some i->i<c.n->R (i:Int) 0 U)(h0:obj c s x=none->R 0 8 U):Yp.c (aW p) x U R:=by
 refine Yp.o ?_;unfold Yp.v;have g:=h.ok;unfold cA.ok at g;have j:=h.ok.kq;refine Bb h x hx2 (λi b=>bV.intro (cD rfl ?_)) λb=>bV.intro (cE rfl (cE rfl (h0 (by unfold obj;rw[b]))));have a:=((Ud O).1 b).2.2;rw[h.len]at a;refine y6 h i O (cU (λd=>h0 ?_) λd=>h1 i ?_ a)
 ·have:¬x=((at_ c s i:Nat):Int):=λe=>by rw[e]at d;simp at d
  unfold obj;rw[b];simp[this]
 ·have:x=((at_ c s i:Nat):Int):=by
   have:((at_ c s i:Nat):Int)=x:=by simpa using d
   exact this.symm
  unfold obj;rw[b];simp[this]
def cH.is (s:cH)(i:Nat):Bool:=s.tk.getD i false
theorem cH.kV {s:cH}{i:Nat}(hi:i<s.tk.length):s.tk[i]?=some (s.is i):=by
 simp[cH.is,zQ,cX hi]
theorem OT (h:hU U p q c s)(x:Int)(hx2:x<=9223372036854775807){R:Bool->Int->Hp->Prop}(h1:∀i,obj c s x=some i->R (s.is i) 0 U)(h0:obj c s x=none->R false 8 U):YE.c (aW p) x U R:=by
 refine YE.o ?_;unfold YE.v;refine IS h x hx2 (λi b a=>cE rfl (aG (h.rS λcap d=>?_))) λb=>cD rfl (h0 b);rw[←h.len]at a;refine(h.lb cap).rE (H7 (cH.kV a)) ?_;have:=h1 i b;cases hb:s.is i<;>rw[hb]at this<;>simpa using this
theorem xQ {s:cH}{i:Nat}(hi:i<s.tk.length)(v:Bool):((s.put i v).many:Int)=s.many+((if v then 1 else 0)-(if s.is i then 1 else 0)):=by
 have key:∀(l:List Bool) (i:Nat) (b:Bool),l[i]?=some b->(((l.set i v).count true:Nat):Int)=(l.count true:Nat)+((if v then 1 else 0)-(if b then 1 else 0)):=by
  intro l
  induction l with
  | nil=>intro i b h;simp at h
  | cons x l ih=>
   intro i b h;cases i with
   | zero=>
    simp at h;subst h;cases v<;>cases x<;>simp[List.count_cons]<;>omega
   | succ i=>
    have:=ih i b (by simpa using h);simp only[rZ,List.count_cons]
    push_cast
    omega
 exact key s.tk i _ (cH.kV hi)
theorem CX (s:cH):s.many<=s.tk.length:=List.count_le_length
theorem Iv (h:hU U p q c s){i:Nat}(hi:i<c.n)(v:Bool){sl:Sl}{G:Rg}(hs:cV sl 1 (ints [i]) U G){R:aP}(hR:∀σ',Ext (λb=>b=p\/b=q) U σ'->hU σ' p q c (s.put i v)->R σ') :
 Zf.c (aW p) (if v then 1 else 0) sl U R:=by
 refine Zf.o ?_;unfold Zf.v;have L:sl.len=1:=hs.oh;have S:=h.ok.kq;have H:=h.len;have P:=CX s;have A:i<s.tk.length:=by omega
 have g:=xQ A v;refine Qg (a:=bO) (λ(t:Int) C=>t=0/\C=U\/t=1/\Ext (λb=>b=p\/b=q) U C/\hU C p q c (s.put i v)) (λt _=>1-t.toNat) (.inl ⟨rfl,rfl⟩) ?_;rintro t C (⟨rfl,rfl⟩|⟨rfl,e,M⟩)
 ·refine lV O ?_;refine hs.rE (i:=0) (x:=i) rfl (aG (h.rI (λ_ _=>rfl) (aG (h.rS λcap E=>?_))));refine(h.lb cap).rE (H7 (cH.kV A)) ?_;have K:(0:Int)<=(if v then 1 else 0)/\(if v then(1:Int)else 0)<=1:=by cases v<;>simp
  have N:(0:Int)<=((if s.is i then 1 else 0:Nat):Int)/\((if s.is i then 1 else 0:Nat):Int)<=1:=by cases s.is i<;>simp
  have d:((if s.is i then 1 else 0:Nat):Int)=(if s.is i then 1 else 0):=by cases s.is i<;>rfl
  refine ar O O (ar O O (aG ?_));obtain⟨J,D,hd⟩:=h.hd;obtain⟨r,w⟩:=h.row;refine hd.s1 aA λV y z=>?_;have j:=WH y w (Ne.symm h.ne);refine aG (z.rS rfl (ix O aC ?_));rw[add_lit];refine j.s0 (by simp[Q3,vT];omega) λQ B u=>?_;refine cS (m:=1) O O ⟨.inr ⟨rfl,?_,?_⟩,by decide⟩
  ·exact(Ext.eM (F:=λb=>b=p\/b=q) y (.inl rfl)).trans (Ext.eM B (.inr rfl))
  ·refine⟨⟨J,D,?_⟩,⟨r,?_⟩,h.ne,by simp[cH.put,h.len],h.ok,h.fit⟩
   ·have:=WH B z h.ne;rw[g,←d];exact this
   ·have e:(ints (nI s.tk)++r).set (0+(i:Int).toNat*1) (.int .i64 (if v then 1 else 0))=ints (nI (s.put i v).tk)++r:=by
     rw[List.set_append_left _ _ (by simp[Q3,vT];omega)]
     congr 1
     simp only[cH.put,PS,ints,uD];have:(0+(i:Int).toNat*1)=i:=by omega
     rw[this]
     congr 1
     cases v<;>rfl
    rw[e]at u;exact u
 ·exact fV O (hR _ e M)
theorem Mw (h:hU U p q c s){x:Int}{i:Nat}(hx2:x<=9223372036854775807)(ho:obj c s x=some i)(ht:s.is i=true){R:aN}(hR:∀σ',Ext (λb=>b=p\/b=q) U σ'->hU σ' p q c (s.put i false)->R 0 σ') :
 ZG.c (aW p) x U R:=by
 refine ZG.o ?_;unfold ZG.v;refine IS h x hx2 (λj g d=>cE rfl (aG (h.rS λcap r=>?_))) λm=>by rw[ho]at m;cases m
 rw[ho]at g;cases g;have a:i<s.tk.length:=by rw[h.len];exact d
 refine(h.lb cap).rE (H7 (cH.kV a)) ?_;rw[ht];refine cE rfl (nw (cs:=ints [i]) λv z e y=>?_);have A:=h.lt;exact Iv (h.bP e) d false (yg y rfl) λσ' w u=>hR σ' (e.to.trans w) u
theorem NC (h:hU U p q c s){i:Nat}(hlow:low s=some i){R:Int->Int->Hp->Prop}(hR:∀σ',Ext (λb=>b=p\/b=q) U σ'->hU σ' p q c (s.put i true)->R ((at_ c s i:Nat):Int) 0 σ') :
 Zy.c (aW p) U R:=by
 refine Zy.o ?_;unfold Zy.v;have D:=h.ok.kq;have d:=nG.1 hlow;obtain⟨m,B,C⟩:=d;have g:s.tk[i]=false:=by simpa using B
 refine yA h (cE rfl (aG (h.rS λcap z=>?_)));refine EU (h.lb cap) (by simp[vT,h.len];omega) 0 (λj x a=>?_) λa=>?_
 ·have w:j<s.tk.length:=by
   have:=(cZ.1 x).1
   rwa [vT]at this
  have u:j=i:=by
   rcases qi j i with h1|h1|h1
   ·have:=C j h1;rw[H7 (cX w)]at x;have:s.tk[j]=true:=by simpa using this
    simp[this]at x
   ·exact h1
   ·exact absurd (by rw[H7 (cX m),g];rfl) (a i h1)
  subst u;rw[h.len]at m;refine fV O (nw (cs:=ints [j]) λv E e r=>?_);refine Iv (h.bP e) m true (yg r rfl) λσ' A y=>y6 y j O (hR σ' (e.to.trans A) y)
 ·exfalso;apply a;exact zG (i:=i) (by rw[H7 (cX m),g];rfl)
theorem Oj (h:hU U p q c s){R:Int->Int->Hp->Prop}(hR:∀σ',bL U σ'->R (s.st:Int) (c.aF:Int) σ'):ZS.c (aW p) U R:=by
 refine ZS.o ?_;unfold ZS.v;refine nw (cs:=[.int .i64 0,.int .i64 0]) λv w e r=>?_;have j:=h.bP e;refine yA j (cE rfl (aG (j.rI (λ_ _=>rfl) (aG (j.gC (λ_ _=>rfl) ?_)))));refine r.s1 aA λu d g=>g.s1 aA λv3 b a=>?_;refine a.rI rfl (a.rI rfl (hR _ ?_));exact Ext.fresh (Ext.fresh e (Ext.eM (F:=(· = U.size)) d rfl) λi m=>O) (Ext.eM (F:=(· = U.size)) b rfl) λi m=>by omega
theorem Ml (n:Nat):(List.replicate n [Value.int .i64 0]).flatten=ints (List.replicate n 0):=by
 induction n with
 | zero=>rfl
 | succ n ih=>simp only[sd,vu,ih];rfl
theorem PB (hc:c.ok){st:Nat}(hf:st+c.aF<=1024){R:Option Addr->Int->Hp->Prop}(hR:∀σ' p q,bL U σ'->U.size<=p->U.size<=q->hU σ' p q c ⟨st,List.replicate c.n false⟩->R (some ⟨p,0,none⟩) 0 σ') :
 KW.c (st:Int) c.size c.aF c.batch U R:=by
 refine KW.o ?_;unfold KW.v;have F:=hc;unfold cA.ok at F;have K:=hc.kq;refine nw (cs:=[.int .i64 c.size,.int .i64 c.aF,.int .i64 c.batch]) λv P e y=>?_;refine y.rI rfl (y.rI rfl (y.rI rfl (Ei _ _ _ (λg C e1 e2 H B A=>?_) λs=>?_)))
 case refine_2=>rw[(EV c).2 hc]at s;cases s
 have:g=c:=by
  obtain⟨a,b,d⟩:=c;obtain⟨J,L,M⟩:=g;simp only at e1 e2 H
  congr 1<;>omega
 subst this;have i:=A.bW y id;refine bV.intro (cE rfl (bV.intro (fV O (i.rI rfl (cS (m:=1024-g.aF) O O (fV O ?_))))));refine⟨λx=>bZ x U.size [.int .i64 g.size,.int .i64 g.aF,.int .i64 g.batch],i,⟨_,λx u=>by rw[add_lit,u.cell];rfl,⟨_,λx u=>by rw[add_lit,u.cell];rfl,⟨_,λx u=>by rw[add_lit,u.cell];rfl,?_⟩⟩⟩⟩;refine mk O O λN G j w=>⟨j.bW i id,nw (cs:=[.int .i64 (st:Int),.int .i64 g.size,.int .i64 g.aF,.int .i64 g.batch,.slice (some ⟨B.size,0,none⟩) g.n g.n,.int .i64 0]) λv3 E r z=>⟨(j.trans r).bW i id,?_⟩⟩;rw[Ml]at w;have D:=A.1;refine hR _ _ _ (((e.trans A).trans j).trans r) O (show U.size<=B.size by omega) ⟨⟨g.n,zD _,?_⟩,⟨[],?_⟩,O,by simp,hc,hf⟩
 ·have:cH.many ⟨st,List.replicate g.n false⟩=0:=by simp[cH.many,yh]
  rw[this];exact z
 ·have:nI (List.replicate g.n false)=List.replicate g.n 0:=by simp[nI]
  rw[this,lC];exact r.bW w id
end Go.Ar
namespace Go.Proofs
open Go.Vc
set_option maxRecDepth 100000
def X3.h:Hn:=.q .o1 (.q (.q .o3 .aK) (.q .o1 (.q .fZ .aL)))
def X3.v (a:R2)(b:Hp)(c:Sl->Hp->Prop):Prop:=W9.c a b λd e=>If (!d) (c ⟨none,0,0⟩ e) (aV #[.slice none 0 0] 201 e λf g=>bF a 3 g λi=>Wk.c i ⟨248,#[],#[.pointer (some f)]⟩ g λj k=>bX a λl=>aR l 3 (.slice j.a j.len j.cap) k λm=>ju f m λn=>c n m)
theorem X3.o {a b c}(d:X3.v a b c):X3.c a b c:=Wa Tryz.func185 (x:=X3.h) (R0 d)
def W9.h:Hn:=.q .o1 (.q (.cW (.seq [.op,.op,.op,.cR true 6 (RI.ops 6),.op])) .l)
def W9.v (a:R2)(b:Hp)(c:aO):Prop:=bV (λd e=>c d e) λf=>If (!a.isNone) (bX a λg=>bN ((g.add 0).add 0) b λh=>f (decide (h>0)) b) (f false b)
theorem W9.o {a b c}(d:W9.v a b c):W9.c a b c:=Wa Tryz.func197 (x:=W9.h) (R0 d)
def Qy.h:Hn:=.q .o3 (.q (.q .o7 (.q .o2 .aJ)) (.q .o5 .l))
def Qy.v (a b c:Int)(d:Hp)(e:Option Addr->Int->Hp->Prop):Prop:=aV #[.I a,.I b,.I c] 149 d λf g=>aQ f 0 g λh=>aQ f 1 g λi=>aQ f 2 g λj=>ZI.c h i j g λk l m=>If (l != 0) (e none 1 m) (aQ f 0 m λn=>aQ f 1 m λo=>aQ f 2 m λp=>aV #[.I n,.I o,.I p,.slice none 0 0] 274 m λq r=>e (some q) 0 r)
theorem Qy.o {a b c d e}(f:Qy.v a b c d e):Qy.c a b c d e:=Wa Tryz.func212 (x:=Qy.h) (R0 f)
def Xp.h:Hn:=.q .o2 (.q (.k (.q .o4 (.c .aL (.q .o3 .aJ)))) (.q .o1 (.q (.k (.loop [(6,.one .s)] (.q (.q .o4 (.c .l .l)) (.k (.q .o7 (.q (.q .o2 (.c .l .l)) .o5)))))) (.q .o3 .l))))
def Xp.v (a:R2)(b:Int)(c:Hp)(d:Sl->Int->Hp->Prop):Prop:=W9.c a c λe f=>If (!e) (d ⟨none,0,0⟩ 5 f) (If (b<0) (d ⟨none,0,0⟩ 1 f) (Ya [.s] (λg=>g ⟨none,0,0⟩ f) λh (i:Sl) j=>If (((i.len:Nat):Int)<b) (Za.c a j λk l m=>If (!l) (d i 0 m) (aV #[.I k] 3 m λn o=>App i 1 8 3 [.I 0] ⟨some n,1,1⟩ o λp q=>h p q)) (d i 0 j)))
theorem Xp.o {a b c d}(e:Xp.v a b c d):Xp.c a b c d:=Wa Tryz.func233 (x:=Xp.h) (R0 e)
def Y6.h:Hn:=.q .o1 (.q (.q .o3 .aK) (.q (.o 11) (.q (.q .o2 .aJ) (.q (.q .o6 (.k (.loop [(31,.I)] (.q .o1 (.q (.c .l .l) (.q (.k (.q .o4 (.q (.oq 17) .aK))) .o2)))))) (.q (.o 11) (.q (.o 15) .aM))))))
def Y6.v (a:R2)(b:Int)(c:Hp)(d:aN):Prop:=W9.c a c λe f=>If (!e) (d 5 f) (bX a λg=>bN ((g.add 0).add 0) f λh=>bN ((g.add 0).add 1) f λi=>bN ((g.add 0).add 2) f λj=>KW.c b h i j f λk l m=>If (l != 0) (d l m) (bF a 3 m λo=>Ya [bO] (λp=>p 0 m) λq (r:Int) s=>If (r<((o.len:Nat):Int)) (Ix o.a o.len r 3 λt=>aQ t 0 s λu=>aQ t 1 s λv=>aY t 2 s λw=>aV #[.I 0,.I 0,.pointer none] 279 s λx y=>aR x 0 (.I u) y λz=>aR x 1 (.I v) z λaa=>aR x 2 (.pointer w) aa λab=>bN ((x.add 0).add 1) ab λac=>bN ((x.add 0).add 1) ab λad=>bM ((if b>ac then b else ac)-(if b<ad then b else ad)) λae=>bX a λaf=>bN ((af.add 0).add 1) ab λag=>If (ae<ag) (d 9 ab) (bM (r+1) λah=>q ah ab)) (bF a 3 s λaj=>Wc.c aj b ⟨292,#[],#[]⟩ s λak al am=>bF a 3 am λao=>aV #[.I 0,.I b,.pointer k] 279 am λap aq=>Wn.c ao ak ⟨some ap,1,1⟩ aq λar au=>bX a λav=>aR av 3 (.slice ar.a ar.len ar.cap) au λaw=>d 0 aw)))
theorem Y6.o {a b c d}(e:Y6.v a b c d):Y6.c a b c d:=Wa Tryz.func235 (x:=Y6.h) (R0 e)
def X8.h:Hn:=.q .o2 (.kj [] (.q .o4 (.c (.cW (.held true [6] (.tk [0,1,2] (.all [(3,.all [(4,.all [(5,.all [(6,.done)])])])])))) .l)) (.q .o5 .l))
def X8.v (a b:Int)(c:R2)(d:Addr)(e:Hp)(f:aO):Prop:=aV #[.I a,.I b,.pointer c] 279 e λg h=>Jn [] (λi=>bN ((g.add 0).add 0) i λj=>f (j==0) i) λk=>bN ((g.add 0).add 0) h λl=>If (l==0) (dZ h λm=>gE m .s d λ(n:Sl)=>aU m g 2 λo=>ZS.c o h λp q r=>And (m r) <| aV #[.I p,.I q] 268 r λs t=>And (m t) <| App n 2 16 268 [.I 0,.I 0] ⟨some s,1,1⟩ t λu v=>And (m v) <| dU d (.slice u.a u.len u.cap) v λw=>k w) (k h)
theorem X8.o {a b c d e f}(g:X8.v a b c d e f):X8.c a b c d e f:=Wa Tryz.func248 (x:=X8.h) (R0 g)
def YZ.h:Hn:=.q .o2 (.q (.q .o3 .aJ) (.q .o1 (.q (.q .o3 (.k (.loop [(6,.one .b),(19,.I)] (.q .o1 (.q (.c .l .l) (.q (.k (.q .o5 (.q .o8 (.q (.q .o2 (.c (.q .o3 .l) .l)) (.cW (.seq [.op,.op,.cR false 2 [.op,.op],.op,.cR false 5 (RI.ops 5),.op])))))) .o2)))))) (.q (.q .o1 .aJ) (.q (.q .o3 (.k (.loop [(49,.I)] (.q .o1 (.q (.c .l .l) (.q (.k (.q .o3 (.q .o4 (.q .o6 .fZ)))) .o2)))))) (.q .o4 .l))))))
def YZ.v (a:R2)(b:Sl)(c:Hp)(d:Sl->Int->Hp->Prop):Prop:=W9.c a c λe f=>If (!e) (d ⟨none,0,0⟩ 5 f) (Ya [.b,bO] (λg=>g false 0 f) λh (i:Bool) (j:Int) k=>If (j<((b.len:Nat):Int)) (Ix b.a b.len j 1 λl=>bN l k λm=>Xl.c a m k λn o p=>If (o != 0) (d ⟨none,0,0⟩ o p) (bV (λq r=>bV (λs t=>bM (j+1) λu=>h s u t) λv=>If q (v true r) (fo b 1 0 j (b.cap:Nat) λw=>WA.c w m r λx y=>v x y)) λz=>If i (z true p) (z (!n) p))) (If i (d ⟨none,0,0⟩ 9 k) (Ya [bO] (λaa=>aa 0 k) λab (ac:Int) ad=>If (ac<((b.len:Nat):Int)) (Ix b.a b.len ac 1 λae=>bN ae ad λaf=>XW.c a af ad λag ah=>bG ag 2 ah λaj=>ZG.c aj af ah λak al=>bX ag λam=>bN ((am.add 0).add 0) al λan=>bM (an-1) λao=>bX ag λap=>dU ((ap.add 0).add 0) (.I ao) al λaq=>bM (ac+1) λar=>ab ar aq) (X3.c a ad λau av=>d au 0 av))))
theorem YZ.o {a b c d}(e:YZ.v a b c d):YZ.c a b c d:=Wa Tryz.func267 (x:=YZ.h) (R0 e)
def Za.h:Hn:=.q .o2 (.q .o1 (.q (.q .o6 (.k (.loop [(4,.one .p),(14,.I)] (.q .o1 (.q (.c .l .l) (.q (.k (.q .o2 (.q .o7 (.q (.cW (.gH true [] [(48,.one .b)] (.tk [0,1,2,3,4,5,6,7,8] (.all [(9,.take 10 (.take 11 (.split 34 (.take 12 (.take 13 (.take 14 (.split 37 (.take 15 (.take 16 (.take 17 (.take 18 (.take 19 (.take 20 (.take 21 (.take 22 (.take 23 (.take 24 (.take 25 (.done)))))))))))) (.take 15 (.take 16 (.take 17 (.take 19 (.take 20 (.take 21 (.all [(18,.all [(22,.all [(23,.take 24 (.take 25 (.done)))])]),(22,.all [(18,.all [(23,.take 24 (.take 25 (.done)))])])]))))))))))) (.take 12 (.take 13 (.take 14 (.take 15 (.take 16 (.take 17 (.take 18 (.take 19 (.take 20 (.take 21 (.take 22 (.take 23 (.take 24 (.take 25 (.done))))))))))))))))))])))) (.c .o2 .l))))) .o2)))))) (.q (.q .o2 .aJ) (.q .fZ (.q .fZ (.q .o3 .l))))))
def Za.v (a:R2)(b:Hp)(c:Int->Bool->Hp->Prop):Prop:=bF a 3 b λe=>Ya [.p,bO] (λf=>f none 0 b) λg (h:R2) (i:Int) j=>If (i<((e.len:Nat):Int)) (bF a 3 j λl=>Ix l.a l.len i 3 λm=>Jn [.b] (λ(n:Bool) o=>If n (bM (i+1) λp=>g (some m) p o) (bM (i+1) λq=>g h q o)) λr=>dZ j λs=>bX (some m) λt=>gE s bO ((t.add 0).add 0) λ(u:Int)=>bX (some m) λv=>aU s v 2 λw=>YC.c w j λx y=>And (s y) <| If (u<x) (If h.isNone (r true y) (bX (some m) λz=>bX h λaa=>(bN ((z.add 0).add 0) y λab=>bN ((z.add 0).add 1) y λac=>And (s y) <| bN ((aa.add 0).add 0) y λad=>bN ((aa.add 0).add 1) y λae=>And (s y) <| Xk.c ab ac ad ae y λaf ag=>And (s ag) <| r af ag) ∧ (bN ((aa.add 0).add 0) y λah=>bN ((aa.add 0).add 1) y λai=>And (s y) <| bN ((z.add 0).add 0) y λaj=>bN ((z.add 0).add 1) y λak=>And (s y) <| Xk.c aj ak ah ai y λal am=>And (s am) <| r al am))) (r false y)) (If h.isNone (c 0 false j) (bG h 2 j λao=>Zy.c ao j λap aq ar=>bX h λau=>bN ((au.add 0).add 0) ar λav=>bM (av+1) λaw=>bX h λax=>dU ((ax.add 0).add 0) (.I aw) ar λay=>c ap true ay))
theorem Za.o {a b c}(d:Za.v a b c):Za.c a b c:=Wa Tryz.func285 (x:=Za.h) (R0 d)
def YS.h:Hn:=.q .o2 (.q .o6 .l)
def YS.v (a b:Int)(c:R2)(d:Int)(e:Hp)(f:aN):Prop:=aV #[.I a,.I b,.pointer c] 279 e λg h=>bN ((g.add 0).add 1) h λi=>bM (i-d) λj=>f j h
theorem YS.o {a b c d e f}(g:YS.v a b c d e f):YS.c a b c d e f:=Wa Tryz.func292 (x:=YS.h) (R0 g)
def Yv.h:Hn:=.q .o2 (.q (.q .o3 .aJ) (.q .o4 (.q (.q .o2 .aJ) (.q (.o 11) (.q (.oq 16) .l)))))
def Yv.v (a:R2)(b:Int)(c:Hp)(d:Int->Int->Hp->Prop):Prop:=W9.c a c λe f=>If (!e) (d 0 5 f) (XW.c a b f λg h=>If g.isNone (d 0 8 h) (bG g 2 h λj=>Yi.c j b h λk l m=>bX g λn=>bN ((n.add 0).add 1) m λo=>bM (o*256) λp=>bX a λq=>bN ((q.add 0).add 0) m λr=>bM (k*r) λs=>bM (p+s) λt=>d t 0 m))
theorem Yv.o {a b c d}(e:Yv.v a b c d):Yv.c a b c d:=Wa Tryz.func296 (x:=Yv.h) (R0 e)
def Xl.h:Hn:=.q .o2 (.q (.q .o3 .aJ) (.q .o4 (.q (.q .o2 .aJ) (.q .fZ .l))))
def Xl.v (a:R2)(b:Int)(c:Hp)(d:Bool->Int->Hp->Prop):Prop:=W9.c a c λe f=>If (!e) (d false 5 f) (XW.c a b f λg h=>If g.isNone (d false 8 h) (bG g 2 h λj=>YE.c j b h λk l m=>d k l m))
theorem Xl.o {a b c d}(e:Xl.v a b c d):Xl.c a b c d:=Wa Tryz.func299 (x:=Xl.h) (R0 e)
def XW.h:Hn:=.q .o1 (.q (.q .o6 (.k (.loop [(13,.I)] (.q .o1 (.q (.c .l .l) (.q (.k (.q .o2 (.q (.o 15) (.q .o2 (.c (.q .o7 .l) .l))))) .o2)))))) .aM)
def XW.v (a:R2)(b:Int)(c:Hp)(d:Option Addr->Hp->Prop):Prop:=bF a 3 c λf=>Ya [bO] (λg=>g 0 c) λh (i:Int) j=>If (i<((f.len:Nat):Int)) (bF a 3 j λl=>Ix l.a l.len i 3 λm=>aY m 2 j λn=>Yi.c n b j λo p q=>If (p==0) (bF a 3 q λs=>Ix s.a s.len i 3 λt=>d (some t) q) (bM (i+1) λu=>h u q)) (d none j)
theorem XW.o {a b c d}(e:XW.v a b c d):XW.c a b c d:=Wa Tryz.func310 (x:=XW.h) (R0 e)
def Xk.h:Hn:=.q .o3 (.q (.cW (.seq [.op,.op,.op,.op,.op,.op,.cR false 12 [.op,.op,.op,.op,.op,.op,.cR true 5 (RI.ops 5)],.op])) .l)
def Xk.v (a b c d:Int)(e:Hp)(f:aO):Prop:=aV #[.I a,.I b] 276 e λg h=>aV #[.I c,.I d] 276 h λi j=>aQ g 0 j λk=>aQ i 0 j λl=>bV (λm n=>f m n) λo=>If (k>l) (o true j) (aQ g 0 j λp=>aQ i 0 j λq=>bV (λr s=>o r s) λt=>If (p==q) (aQ g 1 j λu=>aQ i 1 j λv=>t (decide (u<v)) j) (t false j))
theorem Xk.o {a b c d e f}(g:Xk.v a b c d e f):Xk.c a b c d e f:=Wa Tryz.func315 (x:=Xk.h) (R0 g)
end Go.Proofs
namespace Go.Ar
open Go Go.Vc Go.Proofs
variable {U:Hp}{F:Rg}{p:Nat}{c:cA}{ps:List (Nat×Nat)}{ss:List cH}
def eA (ps:List (Nat×Nat)):List Nat:=ps.flatMap λx=>[x.1,x.2]
theorem Hq {ps:List (Nat×Nat)}{b:Nat}:b∈eA ps↔∃x∈ps,b=x.1\/b=x.2:=by simp[eA]
def dO:List (Nat×Nat)->List cH->List Value
 | x::ps,s::ss=>.int .i64 (s.many:Int) :: .int .i64 (s.st:Int) :: .pointer (some ⟨x.1,0,none⟩)::dO ps ss
 | _,_=>[]
theorem Kq:∀{ps:List (Nat×Nat)} {ss:List cH},ps.length=ss.length->(dO ps ss).length=3*ss.length
 | [],[],_=>rfl
 | x::ps,s::ss,h=>by simp only[dO,zV]at *;rw[Kq O];omega
theorem Q9:∀{ps:List (Nat×Nat)} {ss:List cH} {i:Nat} {x:Nat×Nat} {s:cH},ps[i]?=some x->ss[i]?=some s →
 (dO ps ss)[3*i]?=some (.int .i64 (s.many:Int))/\(dO ps ss)[3*i+1]?=some (.int .i64 (s.st:Int))/\(dO ps ss)[3*i+2]?=some (.pointer (some ⟨x.1,0,none⟩))
 | [],_,_,_,_,h,_=>by simp at h
 | _::_,[],_,_,_,_,h=>by simp at h
 | y::ps,t::ss,0,x,s,h1,h2=>by simp at h1 h2;subst h1;subst h2;simp[dO]
 | y::ps,t::ss,i+1,x,s,h1,h2=>by
  have:=Q9 (ps:=ps) (ss:=ss) (i:=i) (by simpa using h1) (by simpa using h2);simp only[dO];rw[show 3*(i+1)=3*i+3 by omega];simpa using this
theorem VB:∀{ps ps':List (Nat×Nat)} {ss ss':List cH},ps.length=ss.length->dO (ps++ps') (ss++ss')=dO ps ss++dO ps' ss'
 | [],_,[],_,_=>rfl
 | x::ps,_,s::ss,_,h=>by simp only[lp,dO,VB (ps:=ps) (ss:=ss) (by simpa using h)]
theorem D9:∀{ps:List (Nat×Nat)} {ss:List cH},∀v∈dO ps ss,dR v=true
 | [],_,v,h=>by simp[dO]at h
 | _::_,[],v,h=>by simp[dO]at h
 | x::ps,s::ss,v,h=>by
  simp only[dO,zX]at h;rcases h with rfl|rfl|rfl|h
  ·rfl
  ·rfl
  ·rfl
  ·exact D9 v h
structure fD (U:Hp) (F:Rg) (p:Nat) (c:cA) (ps:List (Nat×Nat)) (ss:List cH):Prop where
 hd:∃sl:Sl,bZ U p [.int .i64 (c.size:Int),.int .i64 (c.aF:Int),.int .i64 (c.batch:Int),.slice sl.a sl.len sl.cap]/\bS sl 3 (dO ps ss) U (λb=>F b/\b≠p/\b∉eA ps)
 sp:∀(i:Nat) (x:Nat×Nat) s,ps[i]?=some x->ss[i]?=some s->hU U x.1 x.2 c s
 fp:F p
 fb:∀b∈eA ps,F b
 nd:(p::eA ps).Nodup
 len:ps.length=ss.length
 ok:c.ok
 qy:ss.Pairwise (λa b=>a.st<b.st)
theorem fD.loc:dM λU F=>fD U F p c ps ss:=λU D F G h J j=>by
 obtain⟨sl,a,u⟩:=h.hd;have bT:∀b,b<U.size->F b->D[b]?=U[b]? := λb a d=>(j b a d).2;have w:∀{b:Nat} {cs:List Value},bZ U b cs->F b->bZ D b cs:=by
  rintro b cs ⟨e,C⟩ d;exact⟨e,(bT b (bZ.lt ⟨e,C⟩) d).trans C⟩
 have lt:∀b∈eA ps,b<U.size:=by
  intro b a;obtain⟨x,m,A⟩:=Hq.1 a;obtain⟨i,B⟩:=zO m;have z:=(cZ.1 B).1;have:=(h.sp i x _ B (cX (by rw[←h.len];exact z))).lt;rcases A with rfl|rfl
  ·exact this.1
  ·exact this.2
 refine⟨⟨sl,w a h.fp,bS.loc _ _ _ _ _ _ _ u J λb a d=>⟨⟨(j b a d.1).1,d.2⟩,(j b a d.1).2⟩⟩,λi x s m y=>?_,(j p a.lt h.fp).1,λb a=>(j b (lt b a) (h.fb b a)).1,h.nd,h.len,h.ok,h.qy⟩;have g:=h.sp i x s m y;have L:x.1∈eA ps:=Hq.2 ⟨x,zG m,.inl rfl⟩;have K:x.2∈eA ps:=Hq.2 ⟨x,zG m,.inr rfl⟩;obtain⟨H,E,hd⟩:=g.hd;obtain⟨r,u⟩:=g.row;exact⟨⟨H,E,w hd (h.fb _ L)⟩,⟨r,w u (h.fb _ K)⟩,g.ne,g.len,g.ok,g.fit⟩
theorem fD.bP {σ':Hp}(h:fD U F p c ps ss)(e:bL U σ'):fD σ' F p c ps ss:=dM.bP fD.loc h e
theorem fD.p8 (h:fD U F p c ps ss):ss.length<=1024:=by
 have key:∀i (hi:i<ss.length),i<=ss[i].st:=by
  intro i
  induction i with
  | zero=>intro _;omega
  | succ i ih=>
   intro hi;have e:=ih O;have d:=mg.1 h.qy i (i+1) O hi O;omega
 rcases B3 ss.length with h0|h0
 ·omega
 ·have a:ss.length-1<ss.length:=by omega
  have e:=key _ a;have b:ss.length-1<ps.length:=by rw[h.len];exact a
  have d:=(h.sp _ _ _ (cX b) (cX a)).fit;have:=h.ok.2.2.2.1;omega
structure rD (U:Hp) (F:Rg) (p:Nat) (ps:List (Nat×Nat)) (ss:List cH) (sl:Sl) (rb:Nat) (cs:List Value):Prop where
 a:sl.a=some ⟨rb,0,none⟩
 bW:bZ U rb cs
 fr:F rb/\rb≠p/\rb∉eA ps
 get:∀{j:Nat} {v:Value},(dO ps ss)[j]?=some v->cs[j]?=some v
 B2:3*ss.length<=cs.length
theorem fD.sl (h:fD U F p c ps ss):∃sl:Sl,bZ U p [.int .i64 (c.size:Int),.int .i64 (c.aF:Int),.int .i64 (c.batch:Int),.slice sl.a sl.len sl.cap]/\sl.len=ss.length/\(ss≠[]->∃rb cs,rD U F p ps ss sl rb cs):=by
 obtain⟨sl,r,g⟩:=h.hd;have m:=g.1;rw[Kq h.len]at m;refine⟨sl,r,O,λe=>?_⟩;have i:0<ss.length:=qg.2 e;rcases g.2 with⟨h0,_⟩|⟨b,cs,hq,ha,hbb,hle,hcl,ht⟩
 ·omega
 ·refine⟨b,cs,ha,hbb,hq,λ{j v} d=>?_,?_⟩
  ·rw[←ht,zj]at d;split at d
   ·exact d
   ·cases d
  ·have:=congrArg List.length ht;rw[zY,Kq h.len]at this;omega
theorem fD.jF (h:fD U F p c ps ss){i:Nat}(hi:i<ss.length):∃x s,ps[i]?=some x/\ss[i]?=some s/\hU U x.1 x.2 c s:=by
 have a:i<ps.length:=by rw[h.len];exact hi
 have b:ps[i]?=some ps[i]:=cX a;exact⟨_,_,b,cX hi,h.sp i _ _ b (cX hi)⟩
theorem Uk (h:fD U F p c ps ss){R:aO}(hR:R true U):W9.c (aW p) U R:=by
 refine W9.o ?_;unfold W9.v;obtain⟨sl,b,d,e⟩:=h.sl;have a:=h.ok;unfold cA.ok at a;refine bV.intro (cD rfl (aG (b.gC rfl ?_)));rw[zJ O];exact hR
def iH (x:Int):Prop:=x<=9223372036854775807
theorem BD (h:fD U F p c ps ss)(x:Int)(hx:iH x){R:Option Addr->Hp->Prop}(h0:kK c ss x=none->R none U)
 (h1:∀(i:Nat) sl rb cs,kK c ss x=some i->i<ss.length->bZ U p [.int .i64 (c.size:Int),.int .i64 (c.aF:Int),.int .i64 (c.batch:Int),.slice sl.a sl.len sl.cap]->rD U F p ps ss sl rb cs->R (some ⟨rb,3*i,none⟩) U):XW.c (aW p) x U R:=by
 refine XW.o ?_;unfold XW.v;obtain⟨sl,A,S,J⟩:=h.sl;have G:=h.p8;refine aG (A.rS rfl ?_);refine Qg (a:=bO) (λ(t:Int) D=>∃i:Nat,t=(i:Int)/\i<=ss.length/\D=U/\∀(j:Nat) s,j<i->ss[j]?=some s->idx c s x=none) (λt _=>ss.length-t.toNat) ⟨0,rfl,O,rfl,λj s z=>O⟩ ?_;rintro t D ⟨i,rfl,Q,rfl,d⟩;refine cQ (λB=>?_) λC=>?_
 ·simp only at B;have b:i<ss.length:=by omega
  obtain⟨L,s,H,y,N⟩:=h.jF b;obtain⟨rb,cs,E⟩:=J (by rintro rfl;simp at b);have P:=Q9 H y;refine aG (A.rS rfl ?_);rw[E.a];refine ix O O ?_;rw[add_lit];refine E.bW.rP (x:=some ⟨L.1,0,none⟩) ?_ ?_
  ·have:=E.get P.2.2;rw[show 0+(i:Int).toNat*3+2=3*i+2 by omega];exact this
  have w:∀r,idx c s x=some r->kK c ss x=some i:=by
   intro r u;refine nG.2 ⟨b,?_,λj z=>?_⟩
   ·have:ss[i]=s:=by rw[cX b]at y;simpa using y
    rw[this,u];rfl
   ·rw[d j _ z (cX O)];simp
  refine Bb N x hx (λr u=>cD rfl (aG (A.rS rfl ?_))) λK=>cE rfl ?_
  ·rw[E.a];refine ix O O ?_;rw[add_lit,show 0+(i:Int).toNat*3=3*i by omega];exact h1 i sl rb cs (w r u) b A E
  ·refine cS (m:=i+1) O O ⟨⟨i+1,rfl,O,rfl,λj M z g=>?_⟩,O⟩;by_cases e:j=i
   ·subst e;rw[y]at g;cases g;exact K
   ·exact d j M O g
 ·refine h0 ?_;refine uB.2 λs y=>?_;obtain⟨j,z⟩:=zO y;have:=(cZ.1 z).1;rw[d j s (by simp only at C;omega) z];rfl
theorem V0 {x:Int}{k:Nat}{s:cH}(hk:kK c ss x=some k)(hs:ss[k]?=some s):dY c ss x=(obj c s x).map s.is:=by
 unfold dY;rw[hk];simp only[hs];rfl
theorem BZ {x:Int}(hk:kK c ss x=none):dY c ss x=none:=by unfold dY;rw[hk]
theorem DF (h:fD U F p c ps ss)(x:Int)(hx:iH x){R:Bool->Int->Hp->Prop}(h1:∀b,dY c ss x=some b->R b 0 U)(h0:dY c ss x=none->R false 8 U):Xl.c (aW p) x U R:=by
 refine Xl.o ?_;unfold Xl.v;refine Uk h (cE rfl (BD h x hx (λd=>cD rfl (h0 (BZ d))) λi sl C A a z B E=>cE rfl (aG ?_)));obtain⟨r,s,w,e,y⟩:=h.jF z;have m:=Q9 w e;refine E.bW.rP (x:=some ⟨r.1,0,none⟩) (E.get m.2.2) ?_;have g:=V0 a e;exact OT y x hx (λj u=>h1 _ (by rw[g,u];rfl)) λd=>h0 (by rw[g,d];rfl)
theorem Ge {x:Int}{k:Nat}{s:cH}(hk:kK c ss x=some k)(hs:ss[k]?=some s):rm c ss x=(idx c s x).map (at_ c s):=by
 unfold rm;rw[hk];simp only[hs]
theorem Fu {x:Int}(hk:kK c ss x=none):rm c ss x=none:=by unfold rm;rw[hk]
theorem Py {x:Int}{k:Nat}{s:cH}(hk:kK c ss x=some k)(hs:ss[k]?=some s):∃i,idx c s x=some i:=by
 obtain⟨b,a,_⟩:=nG.1 hk;have:ss[k]=s:=by rw[cX b]at hs;simpa using hs
 rw[this]at a;exact oA.1 a
theorem Sf (h:fD U F p c ps ss)(x:Int)(hx:iH x){R:Int->Int->Hp->Prop}(h1:∀a,rm c ss x=some a->R (a:Int) 0 U)(h0:rm c ss x=none->R 0 8 U):Yv.c (aW p) x U R:=by
 refine Yv.o ?_;unfold Yv.v;refine Uk h (cE rfl (BD h x hx (λb=>cD rfl (h0 (Fu b))) λi sl K M e C H E=>cE rfl (aG ?_)));obtain⟨G,s,B,j,u⟩:=h.jF C;have z:=Q9 B j;obtain⟨r,g⟩:=Py e j;have D:=Ge e j;have A:=h.ok;unfold cA.ok at A;have w:=((Ud O).1 g).2.2;rw[u.len]at w;have b:=h.ok.kq;have y:=u.fit;have J:r*c.size<=128*512:=mb O O;refine E.bW.rP (x:=some ⟨G.1,0,none⟩) (E.get z.2.2) ?_;refine Bb u x hx (λL d=>?_) λb=>by rw[g]at b;cases b
 rw[g]at d;cases d;refine aG (E.bW.gC (x:=s.st) (E.get z.2.1) (cS (m:=s.st*256) aA O (aG (H.gC rfl ?_))));refine cS (m:=r*c.size) aA O (cS (m:=at_ c s r) (by simp[at_]) (by unfold at_;omega) (h1 _ (by rw[D,g];rfl)))
theorem wO {h:Hp}{rb i:Nat}{cs:List Value}{x y:Int}{z:Option Addr}{e:Nat}(hb:bZ h rb cs)(h0:cs[3*i]?=some (.int .i64 x))(h1:cs[3*i+1]?=some (.int .i64 y))(h2:cs[3*i+2]?=some (.pointer z))
 {K:Int->Int->Option Addr->Prop} (hK:K x y z):gJ .i64 (Addr.add ⟨rb,3*i,none⟩ 0) h λu=>gJ .i64 (Addr.add ⟨rb,3*i,none⟩ 1) h λv=>fS (Addr.add ⟨rb,3*i,none⟩ 2) h λw=>K u v w:=
 hb.rI h0 (hb.rI h1 (hb.rP h2 hK))
theorem Ib {h:Hp}{x y:Int}{z:Option Addr}{e:Nat}{K:Addr->Hp->Prop}(hK:∀h',bL h h'->bZ h' h.size [.int .i64 x,.int .i64 y,.pointer z]->K ⟨h.size,0,none⟩ h') :
 Nw (.cells #[.int .i64 0,.int .i64 0,.pointer none] e (0,0)) h λn v=>dU (n.add 0) (.int .i64 x) v λv1=>dU (n.add 1) (.int .i64 y) v1 λv2=>dU (n.add 2) (.pointer z) v2 λv3=>K n v3:=by
 refine nw (cs:=[.int .i64 0,.int .i64 0,.pointer none]) λv m e j=>j.s1 aA λv1 o1 g=>g.s1 aA λv2 o2 d=>d.s1 aA λv3 o3 b=>?_;refine hK v3 ?_ b;exact Ext.fresh (Ext.fresh (Ext.fresh e o1.ext λi a=>O) o2.ext λi a=>O) o3.ext λi a=>by omega
def iM (c:cA)(l:List Nat):List Value:=l.flatMap λ(s:Nat)=>[.int .i64 (s:Int),.int .i64 (c.aF:Int)]
theorem Rl (c:cA)(l:List Nat):(iM c l).length=2*l.length:=by
 induction l with
 | nil=>rfl
 | cons x l ih=>simp only[iM,qm,zM,zV,lx]at *;omega
theorem TR (hc:c.ok){R:Option Addr->Int->Hp->Prop}(hR:∀σ' p,bL U σ'->U.size<=p->p<σ'.size->fD σ' (· = p) p c [] []->R (some ⟨p,0,none⟩) 0 σ'):Qy.c c.size c.aF c.batch U R:=by
 refine Qy.o ?_;unfold Qy.v;refine nw (cs:=[.int .i64 c.size,.int .i64 c.aF,.int .i64 c.batch]) λv x e d=>?_;refine d.rI rfl (d.rI rfl (d.rI rfl (Ei _ _ _ (λw r e1 e2 s y g=>?_) λb=>?_)))
 case refine_2=>rw[(EV c).2 hc]at b;cases b
 have a:=g.bW d id;refine cE rfl (a.rI rfl (a.rI rfl (a.rI rfl (nw (cs:=[.int .i64 c.size,.int .i64 c.aF,.int .i64 c.batch,.slice none 0 0]) λu m j i=>?_))));exact hR _ _ ((e.trans g).trans j) (by have:=g.1;omega) O ⟨⟨⟨none,0,0⟩,i,bS.nil _ _ _ _⟩,by simp,rfl,by simp[eA],by simp[eA],rfl,hc,by simp⟩
theorem Lm (a b a' b':Nat){R:aO}(hR:∀σ',bL U σ'->R (decide (a>a')||(a==a'&&decide (b<b'))) σ'):Xk.c (a:Int) (b:Int) (a':Int) (b':Int) U R:=by
 refine Xk.o ?_;unfold Xk.v;refine nw (cs:=[.int .i64 a,.int .i64 b]) λv r e p=>nw (cs:=[.int .i64 a',.int .i64 b']) λs m e1 g=>?_;have i:=e1.bW p id;have d:=hR _ (e.trans e1);refine i.rI rfl (g.rI rfl (bV.intro (cQ (λh=>?_) λh=>?_)))
 ·have:decide (a>a')=true:=by simpa using h
  rw[this,Bool.true_or]at d;exact d
 ·have:decide (a>a')=false:=by simpa using h
  rw[this,vJ]at d;refine i.rI rfl (g.rI rfl (bV.intro ?_));rw[l6];refine cU (λj=>?_) λj=>?_
  ·rw[j,rk]at d;refine i.rI rfl (g.rI rfl ?_);have:decide ((b:Int)<(b':Int))=decide (b<b'):=by rw[decide_eq_decide];omega
   rw[this];exact d
  ·rw[j,ux]at d;exact d
theorem Q6:∀{i k:Nat},Zs ss i=some k->k<i/\∃s,ss[k]?=some s/\s.many<s.tk.length
 | 0,_,h=>by simp[Zs]at h
 | i+1,k,h=>by
  have up:Zs ss i=some k->k<i+1/\∃s,ss[k]?=some s/\s.many<s.tk.length:=λh=>by
   have:=Q6 h;exact⟨O,this.2⟩
  simp only[Zs]at h;split at h
  ·rename_i x hx;split at h
   ·rename_i hlt;have a:i<i+1/\∃s,ss[i]?=some s/\s.many<s.tk.length:=⟨O,x,hx,hlt⟩;split at h
    ·rename_i j hj;split at h
     ·split at h
      ·cases h;exact a
      ·cases h;exact up hj
     ·cases h;exact a
    ·cases h;exact a
   ·exact up h
  ·exact up h
theorem G3 {s:cH}(h:s.many<s.tk.length):∃i,low s=some i/\i<s.tk.length/\s.is i=false:=by
 unfold low;cases hf:s.tk.findIdx? (· == false)with
 | some i=>
  obtain⟨a,b,_⟩:=nG.1 hf;refine⟨i,rfl,a,?_⟩;have:s.tk[i]=false:=by simpa using b
  simp[cH.is,zQ,cX a,this]
 | none=>
  exfalso;have d:=uB.1 hf;have:s.many=s.tk.length:=by
   unfold cH.many;rw[List.count_eq_length];intro x hx;have:=d x hx;cases x
   ·simp at this
   ·rfl
  omega
theorem Jg:∀{ps:List (Nat×Nat)} {ss:List cH} {k:Nat} {s s':cH},ps.length=ss.length->ss[k]?=some s->s'.st=s.st->dO ps (ss.set k s')=(dO ps ss).set (3*k) (.int .i64 (s'.many:Int))
 | [],[],_,_,_,_,h,_=>by simp at h
 | [],_::_,_,_,_,h,_,_=>by simp at h
 | _::_,[],_,_,_,_,h,_=>by simp at h
 | x::ps,t::ss,0,s,s',_,h,e=>by simp at h;subst h;simp[dO,e]
 | x::ps,t::ss,k+1,s,s',hl,h,e=>by
  simp only[rZ,dO];rw[Jg (ps:=ps) (ss:=ss) (s:=s) (by simpa using hl) (by simpa using h) e];rw[show 3*(k+1)=3*k+1+1+1 by omega];simp
theorem MU {h:Hp}{b:Nat}{cs cs':List Value}(h1:bZ h b cs)(h2:bZ h b cs'):cs=cs':=by
 obtain⟨e,d⟩:=h1;obtain⟨g,a⟩:=h2;rw[d]at a;simp only[Option.some.injEq,Obj.cells.injEq]at a;simpa using congrArg Array.toList a.1
theorem QH {x:Nat×Nat}{i:Nat}(hx:ps[i]?=some x):x.1∈eA ps/\x.2∈eA ps:=
 ⟨Hq.2 ⟨x,zG hx,.inl rfl⟩,Hq.2 ⟨x,zG hx,.inr rfl⟩⟩
theorem EJ:∀{ps:List (Nat×Nat)},(eA ps).Nodup->∀{i j:Nat} {x y:Nat×Nat},ps[i]?=some x->ps[j]?=some y->i≠j->∀b,(b=x.1\/b=x.2)->¬(b=y.1\/b=y.2)
 | [],_,_,_,_,_,h,_,_=>by simp at h
 | z::ps,hn,i,j,x,y,h1,h2,hij=>by
  have hn':z.1∉eA ps/\z.2∉eA ps/\z.1≠z.2/\(eA ps).Nodup:=by
   simp only[eA,qm,lp,sH,zt,zX,not_or]at hn;exact⟨hn.1.2,hn.2.1,hn.1.1,hn.2.2⟩
  intro b hb hb'
  match i,j,hij with
  | 0,0,h=>exact h rfl
  | 0,j+1,_=>
   simp at h1;subst h1;have:=QH (ps:=ps) (i:=j) (by simpa using h2);rcases hb with rfl|rfl<;>rcases hb' with e|e<;>rw[e]at hn'<;>simp[this]at hn'
  | i+1,0,_=>
   simp at h2;subst h2;have:=QH (ps:=ps) (i:=i) (by simpa using h1);rcases hb with rfl|rfl<;>rcases hb' with e|e<;>rw[←e]at hn'<;>simp[this]at hn'
  | i+1,j+1,h=>exact EJ hn'.2.2.2 (by simpa using h1) (by simpa using h2) O b hb hb'
theorem fD.oF (h:fD U F p c ps ss){k:Nat}{x:Nat×Nat}{s s':cH}(hx:ps[k]?=some x)(hs:ss[k]?=some s)(hst:s'.st=s.st){σ1:Hp}(e1:Ext (λb=>b=x.1\/b=x.2) U σ1)(hS:hU σ1 x.1 x.2 c s')
 {sl:Sl} {rb:Nat} {cs:List Value} (hb:bZ U p [.int .i64 (c.size:Int),.int .i64 (c.aF:Int),.int .i64 (c.batch:Int),.slice sl.a sl.len sl.cap]) (E:rD U F p ps ss sl rb cs)
 {K:aP} (hK:∀σ2,Ext F U σ2->fD σ2 F p c ps (ss.set k s')->K σ2):dU ⟨rb,3*k,none⟩ (.int .i64 (s'.many:Int)) σ1 K:=by
 obtain⟨m7,A,N⟩:=h.hd;have G:m7=sl:=by
  have:=MU A hb;simp at this;obtain⟨a,n,c⟩:=sl;obtain⟨Q,V,S⟩:=m7;simp at this ⊢;exact this
 subst G;have g:=QH hx;have e:=h.nd;simp only[zt]at e;have r:=(cZ.1 hs).1;have J:=(bS.loc m7 3 (dO ps ss)).bT N e1 λb hb P=>λd=>P.2.2 (by rcases d with rfl|rfl;exact g.1;exact g.2);have C:=e1.bW hb λd=>e.1 (by rcases d with h|h<;>rw[h];exact g.1;exact g.2)
 refine J.st (j:=3*k) (by rw[Kq h.len];omega) (λb u=>by rw[E.a]at u;cases u;rfl) λσ2 e2 H=>?_;have D:Ext F U σ2:=(e1.sub λi B=>h.fb i (by rcases B with rfl|rfl;exact g.1;exact g.2)).trans (e2.sub λi B=>B.1);refine hK σ2 D ⟨⟨m7,e2.bW C λd=>d.2.1 rfl,?_⟩,λi y t m z=>?_,h.fp,h.fb,h.nd,by simpa using h.len,h.ok,?_⟩
 ·rw[Jg h.len hs hst];exact H
 ·have w:=QH m;have k2:hU σ1 y.1 y.2 c t:=by
   by_cases hik:i=k
   ·subst hik;rw[hx]at m;cases m;rw[zN r]at z;cases z;exact hS
   ·rw[zg (Ne.symm hik)]at z;have L:=EJ e.2 m hx hik;exact(h.sp i y t m z).bT e1 (L _ (.inl rfl)) (L _ (.inr rfl))
  exact k2.bT e2 (λd=>d.2.2 w.1) (λd=>d.2.2 w.2)
 ·have:(ss.set k s').map (·.st)=ss.map (·.st):=by
   apply zo;intro i;simp only[za];by_cases hik:i=k
   ·subst hik;rw[zN r,hs];simp[hst]
   ·rw[zg (Ne.symm hik)]
  have M:=h.qy;rw[←sB (f:=cH.st) (R:=(· < ·))]at M ⊢;rw[this];exact M
theorem Ns (h:fD U F p c ps ss){R:Int->Bool->Hp->Prop}(h1:∀x ss',iU c ss=some (x,ss')->∀σ',Ext F U σ'->fD σ' F p c ps ss'->R (x:Int) true σ')(h0:iU c ss=none->∀σ',bL U σ'->R 0 false σ') :
 Za.c (aW p) U R:=by
 refine Za.o ?_;unfold Za.v;obtain⟨sl,hb,hl,hr⟩:=h.sl;have hfew:=h.p8;have hn:=h.ok.kq;obtain⟨d,cs,E⟩:∃d cs,ss≠[]->rD U F p ps ss sl d cs:=by
  by_cases hne:ss=[]
  ·exact⟨0,[],λh=>absurd hne h⟩
  ·obtain⟨d,cs,E⟩:=hr hne;exact⟨d,cs,λ_=>E⟩
 refine aG (hb.rS rfl ?_);refine Us (a:=.p) (bb:=bO) (λ(iO:Option Addr) (t:Int) D=>∃i:Nat,t=(i:Int)/\i<=ss.length/\bL U D/\iO=(Zs ss i).map λk=>⟨d,3*k,none⟩) (λ_ t _=>ss.length-t.toNat) ⟨0,rfl,O,Ext.refl _ _,rfl⟩ ?_;rintro iO t D ⟨i,rfl,hi,e,rfl⟩;refine cQ (λhlt=>?_) λW=>?_
 ·simp only at hlt;have M:i<ss.length:=by omega
  have E:=E (by rintro rfl;simp at M);obtain⟨P,s,K,G,A⟩:=h.jF M;have u:=Q9 K G;have ab:=A.len;refine aG ((e.bW hb id).rS rfl ?_);rw[E.a];refine ix O O ?_;rw[add_lit,show 0+(i:Int).toNat*3=3*i by omega];have Eb:=e.bW E.bW id;have B:Zs ss (i+1)=if s.many<s.tk.length then(match Zs ss i with
   | some j=>match ss[j]? with
    | some y=>if xr s y then some i else some j
    | none=>some i
   | none=>some i)else Zs ss i:=by
   simp only[Zs,G];rfl
  have J:∀(r:Bool) (v:Hp),bL U v->(if r then some i else Zs ss i)=Zs ss (i+1) →
   If r (Ar .i64 ((i:Int)+1) λb=>(∃j:Nat,b=(j:Int)/\j<=ss.length/\bL U v/\some (⟨d,3*i,none⟩:Addr)=(Zs ss j).map λk=>⟨d,3*k,none⟩)/\ss.length-b.toNat<ss.length-(i:Int).toNat)
    (Ar .i64 ((i:Int)+1) λb=>(∃j:Nat,b=(j:Int)/\j<=ss.length/\bL U v/\((Zs ss i).map λk=>(⟨d,3*k,none⟩:Addr))=(Zs ss j).map λk=>⟨d,3*k,none⟩)/\ss.length-b.toNat<ss.length-(i:Int).toNat):=by
   intro r v ev hr';cases r
   ·refine cE rfl (cS (m:=i+1) O O ⟨⟨i+1,rfl,O,ev,?_⟩,O⟩);rw[←hr'];rfl
   ·refine cD rfl (cS (m:=i+1) O O ⟨⟨i+1,rfl,O,ev,?_⟩,O⟩);rw[←hr'];rfl
  refine Jn.intro ⟨λH=>bZ H d cs,Eb,aG ⟨_,λH A=>by rw[add_lit,add_lit,A.cell];exact E.get u.1,aG ⟨_,λH A=>by rw[add_lit,A.cell];exact E.get u.2.2,?_⟩⟩⟩;refine MA (A.bP e) ⟨Eb,?_⟩;refine cQ (λhlt2=>?_) λhge2=>?_
  ·have Y:s.many<s.tk.length:=by omega
   rw[zC Y]at B;cases hbf:Zs ss i with
   | none=>
    rw[hbf]at B J;exact cD rfl (J true D e B.symm)
   | some j=>
    rw[hbf]at B J;obtain⟨hji,y,hy,hym⟩:=Q6 hbf;simp only[hy]at B;have V:j<ps.length:=by rw[h.len];omega
    have z:=Q9 (cX V) hy;have fin:Xk.c (s.many:Int) (s.st:Int) (y.many:Int) (y.st:Int) D λZ v3=>bZ v3 d cs ∧
     If Z (Ar .i64 ((i:Int)+1) λb=>(∃j:Nat,b=(j:Int)/\j<=ss.length/\bL U v3/\some (⟨d,3*i,none⟩:Addr)=(Zs ss j).map λk=>⟨d,3*k,none⟩)/\ss.length-b.toNat<ss.length-(i:Int).toNat)
      (Ar .i64 ((i:Int)+1) λb=>(∃j':Nat,b=(j':Int)/\j'<=ss.length/\bL U v3/\((some j).map λk=>(⟨d,3*k,none⟩:Addr))=(Zs ss j').map λk=>⟨d,3*k,none⟩)/\ss.length-b.toNat<ss.length-(i:Int).toNat):=by
     refine Lm _ _ _ _ λv3 e3=>⟨e3.bW Eb id,J _ v3 (e.trans e3) ?_⟩;rw[B];rfl
    refine cE rfl (aG (aG ⟨?_,?_⟩))
    ·exact Eb.gC (E.get u.1) (Eb.gC (E.get u.2.1) ⟨Eb,Eb.gC (E.get z.1) (Eb.gC (E.get z.2.1) ⟨Eb,fin⟩)⟩)
    ·exact Eb.gC (E.get z.1) (Eb.gC (E.get z.2.1) ⟨Eb,Eb.gC (E.get u.1) (Eb.gC (E.get u.2.1) ⟨Eb,fin⟩)⟩)
  ·have Y:¬s.many<s.tk.length:=by omega
   rw[zB Y]at B;exact J false D e B.symm
 ·have S:i=ss.length:=by simp only at W;omega
  subst S;cases hbf:Zs ss ss.length with
  | none=>
   refine cD rfl (h0 ?_ _ e);simp[iU,iO,hbf]
  | some k=>
   obtain⟨hk,s,G,hsm⟩:=Q6 hbf;have E:=E (by rintro rfl;simp at hk);obtain⟨P,s',K,N,A⟩:=h.jF hk;rw[G]at N;cases N;have u:=Q9 K G;obtain⟨r,C,X,hr2⟩:=G3 hsm;have D:=h.bP e;have one:iU c ss=some (at_ c s r,ss.set k (s.put r true)):=by simp[iU,iO,hbf,G,C]
   have E':rD _ F p ps ss sl d cs:=⟨E.a,e.bW E.bW id,E.fr,E.get,E.B2⟩;refine cE rfl (aG (E'.bW.rP (x:=some ⟨P.1,0,none⟩) (E.get u.2.2) ?_));refine NC (A.bP e) C λv5 e5 Q=>aG ?_;have L:=QH K;have aa:¬(d=P.1\/d=P.2):=λhh=>E.fr.2.2 (by rcases hh with h|h<;>rw[h];exact L.1;exact L.2)
   have hml:=CX s;have g:=xQ X true;rw[hr2]at g;have w:(s.put r true).many=s.many+1:=by simp at g;omega
   have ab:=A.len;refine(e5.bW E'.bW aa).gC (E.get u.1) (cS (m:=s.many+1) O O (aG ?_));rw[add_lit,add_lit,kc,kc,←w];exact D.oF (s':=s.put r true) K G rfl e5 Q (e.bW hb id) E' λv6 e6 h6=>h1 _ _ one v6 (e.to.trans e6) h6
theorem TM {k:Nat}{s s':cH}(hs:ss[k]?=some s):pD (ss.set k s')+(s.tk.length-s.many)=pD ss+(s'.tk.length-s'.many):=by
 unfold pD
 induction ss generalizing k with
 | nil=>simp at hs
 | cons x ss ih=>
  cases k with
  | zero=>simp at hs;subst hs;simp;omega
  | succ k=>
   have:=ih (by simpa using hs);simp only[rZ,zS,nU];omega
theorem LG {x:Nat}{ss':List cH}(h:iU c ss=some (x,ss')):pD ss'+1=pD ss:=by
 unfold iU at h;split at h
 ·rename_i k hk;obtain⟨_,s,e,a⟩:=Q6 hk;rw[e]at h;simp only at h;split at h
  ·rename_i i hi;cases h;obtain⟨r,j,d,b⟩:=G3 a;rw[hi]at j;cases j;have p:=TM (s':=s.put i true) e;have g:=xQ d true;rw[b]at g;have m:(s.put i true).tk.length=s.tk.length:=by simp[cH.put]
   simp at g;omega
  ·cases h
 ·cases h
theorem fD.room (h:fD U F p c ps ss):pD ss<=131072:=by
 have key:∀l:List cH,(∀s∈l,s.tk.length<=128)->pD l<=128*l.length:=by
  intro l
  induction l with
  | nil=>intro _;simp[pD]
  | cons x l ih=>
   intro hl;have r:=hl x aA;have j:=ih λs d=>hl s (by simp[d]);simp only[pD,zS,nU,zV]at *;omega
 have:=key ss λs d=>by
  obtain⟨i,e⟩:=zO d;have b:=(cZ.1 e).1;obtain⟨x,m,_,a,g⟩:=h.jF b;rw[e]at a;cases a;rw[g.len];exact h.ok.kq
 have:=h.p8;omega
theorem Gq {m:Nat}{x:Nat}{ss':List cH}(h:iU c ss=some (x,ss')):Kt c (m+1) ss=(x::(Kt c m ss').1,(Kt c m ss').2):=by
 simp[Kt,h]
theorem Pl (h:fD U F p c ps ss)(m:Int)(hm:0<=m){R:Sl->Int->Hp->Prop}
 (hR:∀s σ',Ext F U σ'->bS s 1 (ints (Kt c m.toNat ss).1) σ' (λb=>U.size<=b)->fD σ' (Cut F U) p c ps (Kt c m.toNat ss).2->R s 0 σ'):Xp.c (aW p) m U R:=by
 refine Xp.o ?_;unfold Xp.v;have h:=fD.loc.cut h;have E:=fD.room h;refine Uk h (cE rfl (fV O ?_));refine Qg (a:=.s) (λ(out:Sl) B=>∃j d,Ext F U B/\bS out 1 (ints j) B (λb=>U.size<=b)/\fD B (Cut F U) p c ps d/\j.length<=m.toNat/\j.length+pD d=pD ss/\Kt c m.toNat ss=(j++(Kt c (m.toNat-j.length) d).1,(Kt c (m.toNat-j.length) d).2))
  (λout _=>m.toNat-out.len) ⟨[],ss,Ext.refl _ _,bS.nil _ _ _ _,h,by simp,by simp,by simp⟩ ?_
 rintro out B ⟨j,d,e,g,K,Z,Q,u⟩;have N:=g.oh;refine cQ (λY=>?_) λV=>?_
 ·have r:m.toNat-j.length=(m.toNat-(j.length+1))+1:=by omega
  refine Ns K (λx J w v2 e2 H=>cE rfl ?_) λy v2 e2=>cD rfl ?_
  ·have C:Ext F U v2:=e.trans (e2.sub λi G=>G.1);have z:=aI.bT g e2 λb _ D M=>by have:=M.2;omega
   refine z.push (vs:=[.int .i64 (x:Int)]) (λb D=>j9 C.1 D) rfl rfl (by simp[dR]) O O λs' v4 X P L=>?_;have W:=LG w;refine⟨⟨j++[x],J,C.dS P λi G=>.inr G,by rw[U9];exact L,fD.loc.bT H P λb _ D M=>(by have:=D.2;omega),by simp;omega,by simp;omega,?_⟩,O⟩;rw[u,r,Gq w];simp
  ·have:Kt c (m.toNat-j.length) d=([],d):=by rw[r];simp[Kt,y]
   rw[this]at u;have A:=hR out v2 (e.trans e2.to);rw[u,lC]at A;exact A (aI.bP g e2) (K.bP e2)
 ·have S:m.toNat-j.length=0:=by omega
  rw[S]at u;have A:=hR out B e;rw[u]at A;simp only[Kt,lC]at A;exact A g K
theorem Pf (h:fD U F p c ps ss)(m:Int)(hm:m<0){R:Sl->Int->Hp->Prop}(hR:R ⟨none,0,0⟩ 1 U):Xp.c (aW p) m U R:=by
 refine Xp.o ?_;unfold Xp.v;exact Uk h (cE rfl (lV O hR))
def jd:List (Nat×Nat)->List cH->List (Nat×Nat)
 | x::ps,s::ss=>if s.many != 0 then x::jd ps ss else jd ps ss
 | _,_=>[]
theorem Gf:∀{ps:List (Nat×Nat)} {ss:List cH},ps.length=ss.length->(jd ps ss).length=(cK ss).length
 | [],[],_=>rfl
 | x::ps,s::ss,h=>by
  have ih:=Gf (ps:=ps) (ss:=ss) (by simpa using h);simp only[jd,cK,tM]at *;split<;>simp[ih]
theorem Bq:∀{ps:List (Nat×Nat)} {ss:List cH},(jd ps ss).Sublist ps
 | [],_=>by simp[jd]
 | _::_,[]=>by simp[jd]
 | x::ps,s::ss=>by
  simp only[jd];split
  ·exact Bq.cons_cons x
  ·exact Bq.cons x
theorem I8:∀{ps ps':List (Nat×Nat)} {ss ss':List cH},ps.length=ss.length->jd (ps++ps') (ss++ss')=jd ps ss++jd ps' ss'
 | [],_,[],_,_=>rfl
 | x::ps,_,s::ss,_,h=>by
  simp only[lp,jd,I8 (ps:=ps) (ss:=ss) (by simpa using h)];split<;>rfl
theorem Eh:∀{ps:List (Nat×Nat)} {ss:List cH} {i:Nat} {x:Nat×Nat} {s:cH},ps.length=ss.length->(jd ps ss)[i]?=some x->(cK ss)[i]?=some s->∃j:Nat,ps[j]?=some x/\ss[j]?=some s
 | [],[],_,_,_,_,h,_=>by simp[jd]at h
 | y::ps,t::ss,i,x,s,hl,h1,h2=>by
  have ih:=λi=>Eh (ps:=ps) (ss:=ss) (i:=i) (x:=x) (s:=s) (by simpa using hl);simp only[jd,cK,tM]at h1 h2;cases hm:(t.many != 0)
  ·rw[hm]at h1 h2;obtain⟨j,a,b⟩:=ih i h1 h2;exact⟨j+1,by simpa using a,by simpa using b⟩
  ·rw[hm]at h1 h2;cases i with
   | zero=>simp at h1 h2;exact⟨0,by simp[h1],by simp[h2]⟩
   | succ i=>
    obtain⟨j,a,b⟩:=ih i (by simpa using h1) (by simpa[cK]using h2);exact⟨j+1,by simpa using a,by simpa using b⟩
theorem To (a b:List cH):cK (a++b)=cK a++cK b:=by simp[cK]
theorem TY (a b:List cH):QF (a++b)=QF a++QF b:=by simp[QF]
theorem ζ (c:cA)(a b:List Nat):iM c (a++b)=iM c a++iM c b:=by simp[iM]
theorem Tr {a b:List (Nat×Nat)}(h:a.Sublist b):(eA a).Sublist (eA b):=by
 induction h with
 | slnil=>exact List.Sublist.refl _
 | cons x _ ih=>exact(ih.cons _).cons _
 | cons_cons x _ ih=>exact(ih.cons_cons _).cons_cons _
theorem ES {h:Hp}{Q:Rg}{n3:Nat}{o:Sl}{l:List Nat}{x1 x2:Nat}{s:cH}(hb:bZ h n3 [.slice o.a o.len o.cap])(hrow:bS o 2 (iM c l) h Q)(hQ:∀b,Q b->n3<b)(hl:l.length<=2000)(hS:hU h x1 x2 c s){R:aO}
 (hR:∀h' o',Ext (λb=>b=n3\/Q b) h h'->bZ h' n3 [.slice (Sl.a o') o'.len o'.cap]->bS o' 2 (iM c (l++if s.many=0 then[s.st]else[])) h' (Grow Q h)->R (s.many==0) h') :
 VH Tryz.prog ⟨248,#[],#[.pointer (some ⟨n3,0,none⟩)]⟩ [.agg #[.int .i64 (s.many:Int),.int .i64 (s.st:Int),.pointer (some ⟨x1,0,none⟩)]] [.one .b] h R:=by
 refine GR (all := #[.agg #[.int .i64 (s.many:Int),.int .i64 (s.st:Int),.pointer (some ⟨x1,0,none⟩)],.pointer (some ⟨n3,0,none⟩)]) (by kernel_rfl) aA ?_;refine X8.o ?_;unfold X8.v;refine nw (cs:=[.int .i64 (s.many:Int),.int .i64 (s.st:Int),.pointer (some ⟨x1,0,none⟩)]) λv hz e d=>?_;have S:=hb.lt;have g:=e.bW hb id;have hrow:=(bS.loc o 2 (iM c l)).mono hrow (G:=λb=>Q b/\b<h.size) λb hb y=>⟨y,hb⟩;refine Jn.intro (d.gC rfl ?_);rw[vF];refine cU (λB=>?_) λB=>?_
 ·have p:s.many=0:=by simpa using B
  rw[zC p]at hR;refine⟨λh'=>bZ h' h.size [.int .i64 (s.many:Int),.int .i64 (s.st:Int),.pointer (some ⟨x1,0,none⟩)]/\bZ h' n3 [.slice o.a o.len o.cap],⟨d,g⟩,⟨o,λh' hS=>by rw[hS.2.cell];rfl,⟨some ⟨x1,0,none⟩,λh' hS=>by rw[add_lit,hS.1.cell];rfl,?_⟩⟩⟩;refine Oj (hS.bP e) λZ e2=>⟨⟨e2.bW d id,e2.bW g id⟩,?_⟩;have x:=e.trans e2;have m:=aI.bP hrow x;have z:=m.1;rw[Rl]at z;refine nw (cs:=[.int .i64 (s.st:Int),.int .i64 (c.aF:Int)]) λv3 U w C=>⟨⟨(e2.trans w).bW d id,(e2.trans w).bW g id⟩,?_⟩;have r:=aI.bP m w;have N:=x.1;refine r.app (ys:=[.int .i64 (s.st:Int),.int .i64 (c.aF:Int)]) rfl rfl ?_ (by simp[dR]) ?_ ?_ ng λX K V H F=>?_
  ·intro j u hu;rw[add_lit,zH,C.cell];exact hu
  ·simp only;have:(o.len+1)*16<=2001*16:=mb O O;omega
  ·simp only;omega
  ·have J:bZ K h.size [.int .i64 (s.many:Int),.int .i64 (s.st:Int),.pointer (some ⟨x1,0,none⟩)]:=H.bW ((e2.trans w).bW d id) λE=>by have:=E.2;omega
   have L:bZ K n3 [.slice o.a o.len o.cap]:=H.bW ((e2.trans w).bW g id) λE=>by have:=hQ _ E.1;omega
   refine⟨⟨J,L⟩,L.s0 aA λv5 o5 P=>(WH o5 J O).gC rfl ?_⟩;have A:Ext (λb=>b=n3\/Q b) h v5:=(bL.to ((e.trans e2).trans w)).trans (H.sub λi D=>.inr D.1)|>.trans (o5.ext.sub λi D=>.inl D);rw[vF];refine hR v5 X A P ?_;rw[ζ];have:iM c [s.st]=[.int .i64 (s.st:Int),.int .i64 (c.aF:Int)]:=rfl;rw[this];have M:=aI.mono F (G:=Grow Q h) λb _ W=>by
    rcases W with h|h
    ·exact .inl h.1
    ·exact .inr O
   exact aI.bT M o5.ext λb _ y Y=>by
    rcases y with h|h
    ·have:=hQ _ h;omega
    ·omega
 ·have p:¬s.many=0:=by simpa using B
  rw[zB p,lC]at hR;refine d.gC rfl ?_;rw[vF];exact hR v o e.to g (aI.bP (aI.mono hrow λb _ y=>.inl y.1) e)
def yr (n3:Nat)(c:cA)(l:List Nat)(h:Hp):Prop:=∃o:Sl,bZ h n3 [.slice o.a o.len o.cap]/\bS o 2 (iM c l) h (λb=>n3<b)
theorem CU {A D:List Value}{x y z:Value}{k:Nat}(hk:k=A.length)(hD:3<=D.length):(((A++D).set k x).set (k+1) y).set (k+2) z=A++[x,y,z]++D.drop 3:=by
 subst hk
 match D,hD with
 | d0::d1::d2::D,_=>simp[List.set_append]
theorem Gy {i:Nat}{s:cH}(hs:ss[i]?=some s):QF (ss.take (i+1))=QF (ss.take i)++(if s.many=0 then[s.st]else[]):=by
 rw[ko,hs,TY]
 congr 1
 by_cases hm:s.many=0<;>simp[QF,hm]
theorem Gj {i:Nat}{s:cH}(hs:ss[i]?=some s):cK (ss.take (i+1))=cK (ss.take i)++(if s.many=0 then[]else[s]):=by
 rw[ko,hs,To]
 congr 1
 by_cases hm:s.many=0<;>simp[cK,hm]
theorem Dd {i:Nat}{x:Nat×Nat}{s:cH}(hl:ps.length=ss.length)(hx:ps[i]?=some x)(hs:ss[i]?=some s):jd (ps.take (i+1)) (ss.take (i+1))=jd (ps.take i) (ss.take i)++(if s.many=0 then[]else[x]):=by
 rw[ko,ko,hs,hx,I8 (by simp[hl])]
 congr 1
 by_cases hm:s.many=0<;>simp[jd,hm]
theorem Mq (l:List cH):(QF l).length<=l.length:=by unfold QF;rw[zk];exact pd _ _
theorem MH (l:List cH):(cK l).length<=l.length:=pd _ _
theorem LF (h:fD U F p c ps ss){sl:Sl}{rb n3:Nat}{cs:List Value}{σ1:Hp}(e1:bL U σ1)(hlen:sl.len=ss.length)(hn3:U.size<=n3)(hE:ss≠[]->rD U F p ps ss sl rb cs/\sl.len<=sl.cap/\cs.length=sl.cap*3)(h0:yr n3 c [] σ1){R:Sl->Hp->Prop}
 (hR:∀h' m7,Ext (λb=>F b/\b≠p/\b∉eA ps\/n3<=b) σ1 h'->yr n3 c (QF ss) h'->(m7=sl/\QF ss=[]/\cK ss=ss/\jd ps ss=ps/\Ext (λb=>n3<=b) σ1 h'\/(bS m7 3 (dO (jd ps ss) (cK ss)) h' (λb=>F b/\b≠p/\b∉eA ps)))->R m7 h') :
 Wk.c sl ⟨248,#[],#[.pointer (some ⟨n3,0,none⟩)]⟩ σ1 R:=by
 refine Wk.o ?_;unfold Wk.v;refine Wo.o ?_;unfold Wo.v;have hfew:=h.p8;have r:=h.len;refine Qg (a:=bO) (λ(t:Int) h'=>∃i:Nat,t=(i:Int)/\i<=ss.length/\Ext (λb=>n3<=b) σ1 h'/\yr n3 c [] h'/\QF (ss.take i)=[]/\cK (ss.take i)=ss.take i/\jd (ps.take i) (ss.take i)=ps.take i) (λt _=>ss.length-t.toNat) ⟨0,rfl,O,Ext.refl _ _,h0,by simp[QF],by simp[cK],by simp[jd]⟩ ?_;rintro t h' ⟨i,rfl,hi,e,⟨o,Q,ah⟩,q1,q2,q3⟩;have eo:∀{v:Hp},Ext (λb=>n3<=b) σ1 v->Ext (λb=>n3<=b) U v:=λe=>e1.to.trans e;refine cQ (λhlt=>?_) λhge=>?_
 ·have ac:i<ss.length:=by omega
  obtain⟨E,hcap,hcl⟩:=hE (by rintro rfl;simp at ac);obtain⟨xx,s,hp,J,hS⟩:=h.jF ac;have eg:=Q9 hp J;have hrl:=E.bW.lt;have hSl:=hS.lt;rw[E.a];refine ix O O ?_;rw[add_lit,show 0+(i:Int).toNat*3=3*i by omega];refine wO (e:=0) ((eo e).bW E.bW O) (E.get eg.1) (E.get eg.2.1) (E.get eg.2.2) ?_;have hn3h:n3<h'.size:=Q.lt;refine ES Q ah (λb h=>h) aA (hS.bT (eo e) O O) λh2 o2 e2 ae A=>?_;have e2:Ext (λb=>n3<=b) h' h2:=e2.sub λb g=>by omega
  have A:=aI.mono A (G:=λb=>n3<b) λb _ g=>by
   rcases g with h|h
   ·exact h
   ·omega
  refine cU (λhm=>?_) λhm=>?_
  ·-- the first that goes
   have x:s.many=0:=by simpa using hm
   rw[zC x,sH]at A;have B:((i:Int)==(-1))=false:=by rw[mB];omega
   show If ((i:Int)==(-1)) _ _;refine cE B (cS (m:=i+1) O O ?_);have q1':QF (ss.take (i+1))=[s.st]:=by rw[Gy J,q1,zC x];rfl
   have W:cK (ss.take (i+1))=ss.take i:=by rw[Gj J,q2,zC x,lC]
   have q3':jd (ps.take (i+1)) (ss.take (i+1))=ps.take i:=by rw[Dd r hp J,q3,zC x,lC]
   have hke:∀k,k<=ss.length->(dO (jd (ps.take k) (ss.take k)) (cK (ss.take k))).length=3*(cK (ss.take k)).length:=λk _=>Kq (Gf (by simp[r]));have Eb2:bZ h2 rb cs:=(eo (e.trans e2)).bW E.bW O;refine Us (a:=bO) (bb:=bO) (λ(i1 j1:Int) v=>∃j:Nat,j1=(j:Int)/\i<j/\j<=ss.length/\i1=((cK (ss.take j)).length:Int)/\(cK (ss.take j)).length<j/\Ext (λb=>b=rb\/n3<=b) σ1 v/\yr n3 c (QF (ss.take j)) v ∧
    bZ v rb (dO (jd (ps.take j) (ss.take j)) (cK (ss.take j))++cs.drop (3*(cK (ss.take j)).length))) (λ_ j1 _=>ss.length-j1.toNat) ?_ ?_
   ·refine⟨i+1,rfl,O,O,?_,?_,(e.trans e2).sub λb g=>.inr g,?_,?_⟩
    ·rw[W,zY];omega
    ·rw[W,zY];omega
    ·rw[q1'];exact⟨o2,ae,A⟩
    ·rw[W,q3',zY,pX O];have:dO (ps.take i) (ss.take i)++cs.drop (3*i)=cs:=by
      have h1:(dO (ps.take i) (ss.take i)).length=3*i:=by rw[Kq (by simp[r]),zY];omega
      apply zo;intro k;rcases kb k (3*i)with hk|hk
      ·rw[zd O];have h2:(dO ps ss)[k]?=(dO (ps.take i) (ss.take i))[k]? := by
        conv=>lhs;rw[←oa i ps,←oa i ss,VB (by simp[r])]
        rw[zd O]
       rw[←h2];have h3:k<(dO ps ss).length:=by rw[Kq r];omega
       rw[cX h3];exact(E.get (cX h3)).symm
      ·rw[zm O,kQ,h1]
       congr 1;omega
     rw[this];exact Eb2
   ·rintro i1 j1 v ⟨j,rfl,hij,hj,rfl,hKj,ev,⟨o3,C,L⟩,z⟩;have y:=hke j hj;have evo:Ext (λb=>b=rb\/n3<=b) U v:=e1.to.trans ev;refine cQ (λhlt2=>?_) λhge2=>?_
    ·have hj':j<ss.length:=by omega
     obtain⟨yy,u,N,H,ag⟩:=h.jF hj';have P:=Q9 N H;have hSul:=ag.lt;have ad:=QH N;refine ix O O ?_;rw[add_lit,show 0+(j:Int).toNat*3=3*j by omega];have get:∀d,d<3->∀w,(dO ps ss)[3*j+d]?=some w->(dO (jd (ps.take j) (ss.take j)) (cK (ss.take j))++cs.drop (3*(cK (ss.take j)).length))[3*j+d]?=some w:=by
      intro d hd w hw;rw[zm O,kQ,y,show 3*(cK (ss.take j)).length+(3*j+d-3*(cK (ss.take j)).length)=3*j+d by omega];exact E.get hw
     refine wO (e:=0) z (get 0 O _ P.1) (get 1 O _ P.2.1) (get 2 O _ P.2.2) (Ib λv5 X b5=>b5.rI rfl (b5.rI rfl (b5.rP rfl ?_)));have hn3v:n3<v.size:=C.lt;have Z:=aI.mono L (G:=λb=>n3<b/\b<v.size) λb g hf=>⟨hf,g⟩;have K:=Mq (ss.take j);rw[zY]at K;refine ES (X.bW C id) (aI.bP Z X) (λb g=>g.1) O ((ag.bT evo (λV=>by rcases V with h|h;exact E.fr.2.2 (h▸ad.1);omega) (λV=>by rcases V with h|h;exact E.fr.2.2 (h▸ad.2);omega)).bP X) λv6 o6 e6 ab D=>?_;have hsz5:=X.1;have D:=aI.mono D (G:=λb=>n3<b) λb _ g=>by
      rcases g with h|h
      ·exact h.1
      ·omega
     have b6:bZ v6 v.size [.int .i64 (u.many:Int),.int .i64 (u.st:Int),.pointer (some ⟨yy.1,0,none⟩)]:=e6.bW b5 λV=>by rcases V with h|h;omega;have:=h.2;omega
     have hrb:rb<U.size:=E.bW.lt;have M:=e6.bW (X.bW z id) λV=>by rcases V with h|h;omega;have:=h.1;omega
     have Y:Ext (λb=>b=rb\/n3<=b) σ1 v6:=(ev.trans X.to).trans (e6.sub λb g=>by rcases g with h|h;omega;have:=h.1;omega);rw[←Gy H]at D;have st:=Gj H;have kt:=Dd r N H;by_cases hum:u.many=0
     ·rw[zC hum,lC]at st kt;have:(u.many==0)=true:=by simp[hum]
      rw[this];refine cE rfl (cS (m:=j+1) O O ⟨⟨j+1,rfl,O,O,?_,?_,Y,⟨o6,ab,D⟩,?_⟩,O⟩)
      ·rw[st]
      ·rw[st];omega
      ·rw[st,kt];exact M
     ·rw[zB hum]at st kt;have:(u.many==0)=false:=by simp[hum]
      rw[this];refine cD rfl (b6.rI rfl (b6.rI rfl (b6.rP rfl (ix O O ?_))));rw[add_lit,show 0+((cK (ss.take j)).length:Int).toNat*3=3*(cK (ss.take j)).length by omega];have hlen6:(dO (jd (ps.take j) (ss.take j)) (cK (ss.take j))++cs.drop (3*(cK (ss.take j)).length)).length=cs.length:=by
       rw[zM,y,kg];omega
      refine M.s1 O λv7 o7 b7=>b7.s1 aE λv8 o8 b8=>b8.s1 aE λv9 o9 b9=>?_;rw[kc,CU y.symm (by rw[kg];omega),List.drop_drop]at b9;have ev9:Ext (λb=>b=rb\/n3<=b) σ1 v9:=((Y.trans (o7.ext.sub λb g=>.inl g)).trans (o8.ext.sub λb g=>.inl g)).trans (o9.ext.sub λb g=>.inl g);have af:Ext (· = rb) v6 v9:=(o7.ext.trans o8.ext).trans o9.ext;refine cS (m:=(cK (ss.take j)).length+1) O O (cS (m:=j+1) O O ⟨⟨j+1,rfl,O,O,?_,?_,ev9,⟨o6,af.bW ab O,aI.bT D af λb _ g he=>O⟩,?_⟩,O⟩)
      ·rw[st];simp
      ·rw[st];simp;omega
      ·rw[st,kt,VB (Gf (by simp[r]))];simp only[zM,zV,lx,dO];rw[show 3*((cK (ss.take j)).length+(0+1))=3*(cK (ss.take j)).length+3 by omega];exact b9
    ·have hjj:j=ss.length:=by omega
     subst hjj;rw[l0]at *;have S:ps.take ss.length=ps:=by rw[←r,l0]
     rw[S]at z y;have K:=MH ss;refine jj O O O ?_;have hK3:3*(cK ss).length<=cs.length:=by omega
     have hlt3:(cK ss).length<ss.length:=hKj;rw[zB O];simp only[E.a,ze,add_lit,zH];refine⟨by simp[dR],?_⟩;simp only;have hz:(List.replicate (sl.len-(cK ss).length) [Value.int .i64 0,.int .i64 0,.pointer none]).flatten.length=3*(sl.len-(cK ss).length):=by
      rw[xe,vB,xE];simp;omega
     refine VU (o:=(cK ss).length*3) (i:=0) z (by rw[hz,zM,y,kg];omega) λv10 fZ b10=>?_;refine jj (lo:=0) O O O ?_;have aa:Ext (λb=>b=rb\/n3<=b) σ1 v10:=ev.trans (fZ.ext.sub λb g=>.inl g);refine hR v10 _ (aa.sub λb g=>?_) ⟨o3,WH fZ C (by have:=E.bW.lt;omega),aI.bT L fZ.ext λb _ g he=>by have:=E.bW.lt;omega⟩ (.inr ?_)
     ·rcases g with rfl|h
      ·exact .inl E.fr
      ·exact .inr h
     ·refine⟨by rw[Kq (Gf r)];simp;omega,.inr ⟨rb,_,E.fr,?_,b10,?_,?_,?_⟩⟩
      ·simp only[E.a];split<;>simp[add_lit]
      ·simp only;omega
      ·simp only[zM,zY,kg,hz,y];omega
      ·rw[Kq (Gf r),kc,show(cK ss).length*3=3*(cK ss).length by omega];rw[zr,pJ (by rw[zY,zM,y];omega),yI,Nat.min_self];rw[pJ O,lz O]
  ·have x:¬s.many=0:=by simpa using hm
   rw[zB x,lC]at A;refine cS (m:=i+1) O O ⟨⟨i+1,rfl,O,e.trans e2,⟨o2,ae,A⟩,?_,?_,?_⟩,O⟩
   ·rw[Gy J,q1,zB x];rfl
   ·rw[Gj J,q2,zB x,ko,J];rfl
   ·rw[Dd r hp J,q3,zB x,ko,hp];rfl
 ·have hii:i=ss.length:=by omega
  subst hii;rw[l0]at *;have S:ps.take ss.length=ps:=by rw[←r,l0]
  rw[S]at q3;have B:((-1:Int)==(-1))=true:=rfl;refine cD B (hR h' sl (e.sub λb g=>.inr g) ?_ (.inl ⟨rfl,q1,q2,q3,e⟩));rw[q1];exact⟨o,Q,ah⟩
theorem fD.m7 (h:fD U F p c ps ss):∃sl:Sl,bZ U p [.int .i64 (c.size:Int),.int .i64 (c.aF:Int),.int .i64 (c.batch:Int),.slice sl.a sl.len sl.cap]/\sl.len=ss.length/\bS sl 3 (dO ps ss) U (λb=>F b/\b≠p/\b∉eA ps) ∧
 ∃rb cs,(ss≠[]->rD U F p ps ss sl rb cs/\sl.len<=sl.cap/\cs.length=sl.cap*3):=by
 obtain⟨sl,m,g⟩:=h.hd;have i:=g.1;rw[Kq h.len]at i;refine⟨sl,m,O,g,?_⟩;rcases g.2 with⟨h0,_⟩|⟨b,cs,hq,ha,hbb,hle,hcl,ht⟩
 ·exact⟨0,[],λe=>by have:=qg.2 e;omega⟩
 ·refine⟨b,cs,λ_=>⟨⟨ha,hbb,hq,λ{j v} d=>?_,?_⟩,hle,hcl⟩⟩
  ·rw[←ht,zj]at d;split at d
   ·exact d
   ·cases d
  ·have:=congrArg List.length ht;rw[zY,Kq h.len]at this;omega
theorem MC (h:fD U F p c ps ss){R:Sl->Hp->Prop}
 (hR:∀o σ',Ext F U σ'->bS o 2 (iM c (QF ss)) σ' (λb=>U.size<=b)->fD σ' (Cut F U) p c (jd ps ss) (cK ss)->R o σ'):X3.c (aW p) U R:=by
 refine X3.o ?_;unfold X3.v;have h:=fD.loc.cut h;obtain⟨sl,a,B,w,S,cs,Q⟩:=h.m7;refine Uk h (cE rfl (nw (cs:=[.slice none 0 0]) λV L e1 G=>aG ((e1.bW a id).rS rfl ?_)));refine LF h e1 B (zD _) Q ⟨⟨none,0,0⟩,G,bS.nil _ _ _ _⟩ λW m7 e2 ⟨o,z,C⟩ r=>aG ?_;have J:=a.lt;have e:=h.nd;have d:=Tr (Bq (ps:=ps) (ss:=ss));simp only[zt]at e;refine(e2.bW (e1.bW a id) λE=>by rcases E with h|h;exact h.2.1 rfl;omega).s1 aA λv3 o3 D=>?_;have u:=WH o3 z (by have:=z.lt;omega);refine u.uR rfl (hR o v3 ?_ (aI.bT (aI.mono C λb _ a=>O) o3.ext λb _ a g=>O) ?_)
 ·refine(e1.to.dS e2 λb a=>?_).dS o3.ext λb a=>?_
  ·rcases a with h|h
   ·exact .inl h.1.1
   ·exact .inr h
  ·subst a;exact .inl h.fp.1
 ·have A:∀b,b∈eA ps->b<U.size->¬(Cut F U b/\b≠p/\b∉eA ps\/U.size<=b):=λb a P E=>by
   rcases E with h|h
   ·exact h.2.2 a
   ·omega
  refine⟨⟨m7,D,?_⟩,λi x s N M=>?_,h.fp,λb a=>h.fb b (d.subset a),?_,Gf h.len,h.ok,h.qy.sublist tf⟩
  ·rcases r with⟨rfl,_,q2,q3,ex⟩|hr
   ·rw[q2,q3];exact aI.bT (aI.bT (aI.bP w e1) ex λb _ a g=>by have:=a.1.2;omega) o3.ext λb _ a g=>a.2.1 g
   ·exact aI.bT (aI.mono hr λb _ a=>⟨a.1,a.2.1,λm=>a.2.2 (d.subset m)⟩) o3.ext λb _ a g=>a.2.1 g
  ·obtain⟨j,y,H⟩:=Eh h.len N M;have K:=h.sp j x s y H;have m:=QH y;have B:=K.lt;exact((K.bP e1).bT e2 (A _ m.1 B.1) (A _ m.2 B.2)).bT o3.ext (λg=>e.1 (g▸m.1)) (λg=>e.1 (g▸m.2))
  ·simp only[zt];exact⟨λm=>e.1 (d.subset m),e.2.sublist d⟩
theorem TT {x:Int}{k i:Nat}{s:cH}(hc:0<c.size)(hk:kK c ss x=some k)(hs:ss[k]?=some s)(v:Bool)(y:Int):kK c (ss.set k (s.put i v)) y=kK c ss y:=by
 have a:∀t:cH,∀j w z,idx c (t.put j w) z=idx c t z:=λt j w z=>by unfold idx cH.put;simp only[oZ]
 unfold kK;have b:=(cZ.1 hs).1;have:(ss.set k (s.put i v)).map (λs=>(idx c s y).isSome)=ss.map (λs=>(idx c s y).isSome):=by
  apply zo;intro j;simp only[za];by_cases hjk:j=k
  ·subst hjk;rw[zN b,hs];simp[a]
  ·rw[zg (Ne.symm hjk)]
 have d:∀l:List cH,l.findIdx? (λs=>(idx c s y).isSome)=(l.map λs=>(idx c s y).isSome).findIdx? id:=λl=>by rw[List.findIdx?_map];rfl
 rw[d,d,this]
def kD (c:cA)(ss:List cH)(xs:List Int):Prop:=(∀x∈xs,dY c ss x=some true)/\xs.Nodup
theorem GZ {x:Int}{b:Bool}(h:dY c ss x=some b):∃k s i,kK c ss x=some k/\ss[k]?=some s/\obj c s x=some i/\s.is i=b:=by
 unfold dY at h;split at h
 ·rename_i k hk;split at h
  ·rename_i s hs;cases ho:obj c s x with
   | none=>rw[ho]at h;cases h
   | some i=>rw[ho]at h;exact⟨k,s,i,hk,hs,ho,by simpa[cH.is]using h⟩
  ·cases h
 ·cases h
theorem yX {x:Int}{k i:Nat}{s:cH}(hk:kK c ss x=some k)(hs:ss[k]?=some s)(ho:obj c s x=some i):fE c ss x=ss.set k (s.put i false):=by
 simp[fE,hk,hs,ho]
theorem SQ {x y:Int}(hc:0<c.size)(hx:dY c ss x=some true)(hne:y≠x):dY c (fE c ss x) y=dY c ss y:=by
 obtain⟨k,s,i,u,d,A,_⟩:=GZ hx;rw[yX u d A];have r:=(cZ.1 d).1;have a:=TT hc u d false (i:=i) y;have g:∀t:cH,∀j w z,obj c (t.put j w) z=obj c t z:=λt j w z=>by unfold obj idx at_ cH.put;simp only[oZ]
 cases hy:kK c ss y with
 | none=>rw[BZ (a.trans hy),BZ hy]
 | some m=>
  by_cases hmk:m=k
  ·subst hmk;rw[V0 (a.trans hy) (zN r),V0 hy d,g];cases hoy:obj c s y with
   | none=>rfl
   | some j=>
    simp only[ze,Option.some.injEq];have p:i≠j:=λe=>by
     subst e;exact hne (((U0 hc).1 hoy).1.trans ((U0 hc).1 A).1.symm)
    simp[cH.is,cH.put,zQ,zg p]
  ·have b:m<ss.length:=(nG.1 hy).1;rw[V0 (a.trans hy) ((zg (Ne.symm hmk)).trans (cX b)),V0 hy (cX b)]
theorem kD.next {x:Int}{xs:List Int}(hc:0<c.size)(h:kD c ss (x::xs)):kD c (fE c ss x) xs:=by
 have a:=zt.1 h.2;refine⟨λy b=>?_,a.2⟩;rw[SQ hc (h.1 x aA) λe=>a.1 (e▸b)];exact h.1 y (by simp[b])
theorem Il {xs:List Int}(h:iE c ss xs=0):kD c ss xs:=by
 unfold iE at h;split at h
 ·cases h
 ·rename_i h1;split at h
  ·cases h
  ·rename_i h2;simp only[nr,not_or,qT,mc,Bool.not_eq_false',zU,zT]at h1 h2;refine⟨λx d=>?_,h2.2⟩;have a:=h1 x d;have b:=h2.1 x d;cases ht:dY c ss x with
   | none=>rw[ht]at a;simp at a
   | some v=>
    cases v
    ·rw[ht]at b;exact absurd rfl b
    ·rfl
theorem Tf {sl:Sl}{xs:List Int}{X:Rg}(h:fD U F p c ps ss)(hs:cV sl 1 (xs.map (Value.int .i64)) U X)(hX:∀b,X b->¬F b)(hi:∀x∈xs,iH x)(hA:kD c ss xs)(hl:xs.length<=1000000){K:aP}
 (hK:∀σ',Ext F U σ'->fD σ' F p c ps (xs.foldl (fE c) ss)->K σ') :
 Ya [bO] (λI1=>I1 0 U) λJ3 (t49:Int) v6=>If (decide (t49<((sl.len:Nat):Int))) (Ix sl.a sl.len t49 1 λa51=>gJ .i64 a51 v6 λaddr1=>
  XW.c (aW p) addr1 v6 λvx v7=>bX vx λa57=>fS (a57.add 2) v7 λt59=>ZG.c t59 addr1 v7 λt61 v8=>bX vx λa63=>gJ .i64 ((a63.add 0).add 0) v8 λt66=>
  Ar .i64 (t66-1) λt67=>bX vx λa68=>dU ((a68.add 0).add 0) (.int .i64 t67) v8 λv9=>Ar .i64 (t49+1) λt71=>J3 t71 v9) (K v6):=by
 have hlen:sl.len=xs.length:=by have:=hs.1;simp at this;omega
 have B:0<c.size:=by have:=h.ok.1;omega
 refine Qg (a:=bO) (λ(t:Int) J=>∃(i:Nat) (r:List cH),t=(i:Int)/\i<=xs.length/\Ext F U J/\fD J F p c ps r/\kD c r (xs.drop i)/\(xs.drop i).foldl (fE c) r=xs.foldl (fE c) ss) (λt _=>xs.length-t.toNat) ⟨0,ss,rfl,O,Ext.refl _ _,h,by simpa using hA,by simp⟩ ?_;rintro t J ⟨i,r,rfl,hil,e,N,w,D⟩;refine cQ (λhlt=>?_) λhge=>?_
 ·have y:i<xs.length:=by omega
  have hx:xs[i]?=some xs[i]:=cX y;have hd:xs.drop i=xs[i]::xs.drop (i+1):=C3 y;rw[hd]at w D;refine(aH.bT hs e λb _ W hF=>hX b W hF).mi hx ?_;obtain⟨k,s,j,M,g,L,G⟩:=GZ (w.1 xs[i] ni);have z:=hi xs[i] (ka y);refine BD N xs[i] z (λhn=>by rw[M]at hn;cases hn) λk' m7 rb cs C V W E=>aG ?_;rw[M]at C;cases C;obtain⟨Z,s',P,H,Y⟩:=N.jF V;rw[g]at H;cases H;have eg:=Q9 P g;have hj:=((U0 B).1 L).2;refine E.bW.rP (x:=some ⟨Z.1,0,none⟩) (E.get eg.2.2) ?_;refine Mw Y z L G λv8 e8 R=>aG ?_;have A:=QH P;have S:¬(rb=Z.1\/rb=Z.2):=λhh=>E.fr.2.2 (by rcases hh with h|h<;>rw[h];exact A.1;exact A.2)
  have hml:=CX s;have d:=xQ hj false;rw[G]at d;have hsl:=Y.len;have hnl:=Y.ok.kq;have u:((s.put j false).many:Int)=s.many-1:=by simp at d;omega
  refine(e8.bW E.bW S).gC (E.get eg.1) (ar O O (aG ?_));simp only[add_lit,kc];rw[←u];refine N.oF (s':=s.put j false) P g rfl e8 R W E λv9 e9 Q=>?_;refine cS (m:=i+1) O O ⟨⟨i+1,_,rfl,O,e.trans e9,Q,?_,?_⟩,O⟩
  ·have:=kD.next B w
   rwa [yX M g L]at this
  ·rw[qv,yX M g L]at D;exact D
 ·have:i=xs.length:=by omega
  subst this;rw[List.drop_length,List.foldl_nil]at D;subst D;exact hK J e N
theorem Tu (h:fD U F p c ps ss){sl:Sl}{xs:List Int}{X:Rg}(hs:cV sl 1 (xs.map (Value.int .i64)) U X)(hX:∀b,X b->¬F b)(hi:∀x∈xs,iH x)(hl:xs.length<=1000000)(hcap:sl.len<=sl.cap){R:Sl->Int->Hp->Prop}
 (h0:iE c ss xs≠0->R ⟨none,0,0⟩ (iE c ss xs) U)
 (h1:iE c ss xs=0->∀o σ',Ext F U σ'->bS o 2 (iM c (QF (xs.foldl (fE c) ss))) σ' (λb=>U.size<=b)->fD σ' (Cut F U) p c (jd ps (xs.foldl (fE c) ss)) (cK (xs.foldl (fE c) ss))->R o 0 σ') :
 YZ.c (aW p) sl U R:=by
 refine YZ.o ?_;unfold YZ.v;have hlen:sl.len=xs.length:=by have:=hs.1;simp at this;omega
 refine Uk h (cE rfl ?_);have tw:∀i,(xs.take i).any (λx=>dY c ss x==some false)=true\/¬(xs.take i).Nodup->(∀x∈xs,(dY c ss x).isSome=true)->iE c ss xs=9:=by
  intro i d hall;unfold iE;rw[zB,zC]
  ·rcases d with d|d
   ·rw[zy]at d;obtain⟨x,u,aa⟩:=d;have:xs.any (λx=>dY c ss x==some false)=true:=zy.2 ⟨x,uK u,aa⟩;rw[this];rfl
   ·have:¬xs.Nodup:=λE=>d (E.sublist (Bf _ _));simp[this]
  ·simp only[qT,mc];intro x u;have:=hall x u;cases ht:dY c ss x
   ·rw[ht]at this;cases this
   ·simp
 refine Us (a:=.b) (bb:=bO) (λ(tw:Bool) (t:Int) B=>∃i:Nat,t=(i:Int)/\i<=xs.length/\B=U/\(∀x∈xs.take i,(dY c ss x).isSome=true)/\(tw=true↔(xs.take i).any (λx=>dY c ss x==some false)=true\/¬(xs.take i).Nodup)) (λ_ t _=>xs.length-t.toNat)
  ⟨0,rfl,O,rfl,by simp,by simp⟩ ?_
 rintro w t B ⟨i,rfl,hil,rfl,g,C⟩;refine cQ (λhlt=>?_) λhge=>?_
 ·have D:i<xs.length:=by omega
  have u:xs[i]?=some xs[i]:=cX D;have S:=hi xs[i] (ka D);have K:xs.take (i+1)=xs.take i++[xs[i]]:=by rw[ko,u];rfl
  refine hs.mi u (DF h xs[i] S (λb d=>cE rfl ?_) λE=>cD rfl ?_)
  ·have A:∀x∈xs.take (i+1),(dY c ss x).isSome=true:=by
    rw[K];intro x u;rcases zK.1 u with h1|h1
    ·exact g x h1
    ·simp at h1;subst h1;rw[d];rfl
   have fin:∀G:Bool,(G=true↔(xs.take (i+1)).any (λx=>dY c ss x==some false)=true\/¬(xs.take (i+1)).Nodup)->Ar .i64 ((i:Int)+1) λs=>
    (∃j:Nat,s=(j:Int)/\j<=xs.length/\B=B/\(∀x∈xs.take j,(dY c ss x).isSome=true)/\(G=true↔(xs.take j).any (λx=>dY c ss x==some false)=true\/¬(xs.take j).Nodup))/\xs.length-s.toNat<xs.length-(i:Int).toNat:=
    λG hr1=>cS (m:=i+1) O O ⟨⟨i+1,rfl,O,rfl,A,hr1⟩,O⟩
   have P:∀y:Int,(xs.take i++[y]).Nodup↔(xs.take i).Nodup/\y∉xs.take i:=λy=>by
    rw[nT];constructor
    ·exact λh=>⟨h.1,λM=>h.2.2 y M y aA rfl⟩
    ·exact λh=>⟨h.1,by simp,λa ha z hz e=>by simp at hz;subst hz;exact h.2 (e▸ha)⟩
   have ex:(xs.take (i+1)).any (λx=>dY c ss x==some false)=true\/¬(xs.take (i+1)).Nodup↔(w=true\/b=false)\/xs[i]∈xs.take i:=by
    rw[K,P,List.any_append,C];simp only[List.any_cons,List.any_nil,Bool.or_false,nr,d];have W:((some b==some false)=true)↔b=false:=by cases b<;>simp
    rw[W];constructor
    ·rintro((h|h)|h)
     ·exact .inl (.inl (.inl h))
     ·exact .inl (.inr h)
     ·by_cases E:(xs.take i).Nodup
      ·by_cases M:xs[i]∈xs.take i
       ·exact .inr M
       ·exact absurd ⟨E,M⟩ h
      ·exact .inl (.inl (.inr E))
    ·rintro(((h|h)|h)|h)
     ·exact .inl (.inl h)
     ·exact .inr λJ=>h J.1
     ·exact .inl (.inr h)
     ·exact .inr λJ=>J.2 h
   have J1:∀r:Bool,(r=true↔w=true\/b=false)->bV (λG v4=>Ar .i64 ((i:Int)+1) λs=>
    (∃j:Nat,s=(j:Int)/\j<=xs.length/\v4=B/\(∀x∈xs.take j,(dY c ss x).isSome=true)/\(G=true↔(xs.take j).any (λx=>dY c ss x==some false)=true\/¬(xs.take j).Nodup))/\xs.length-s.toNat<xs.length-(i:Int).toNat) λJ2=>
    If r (J2 true B) (fo sl 1 0 (i:Int) (sl.cap:Nat) λt41=>WA.c t41 xs[i] B λY v5=>J2 Y v5):=by
    intro r hr;refine bV.intro ?_;cases r
    ·refine cE rfl ?_;refine jj (lo:=0) O O O ?_;have L:cV ⟨if sl.cap=0 then sl.a else sl.a.map (·.add (0*1)),i-0,sl.cap-0⟩ 1 ((xs.take i).map (Value.int .i64)) B X:=by
      refine⟨by simp;omega,?_⟩;rcases hs.2 with h0|⟨b',o',cs',hf',ha',hb',hc'⟩
      ·left;have:xs=[]:=by simpa using h0
       simp[this]
      ·refine .inr ⟨b',o',cs',hf',?_,hb',λj hj=>?_⟩
       ·rw[zB O,ha'];simp[add_lit]
       ·simp only[zk,zY]at hj;rw[hc' j aE,List.map_take,zj,zC O]
     refine GD L aE _ (fin _ ?_);rw[ex,←hr];simp
    ·refine cD rfl (fin true ?_);rw[ex,←hr];simp
   refine bV.intro ?_;cases w
   ·refine cE rfl (J1 _ ?_);cases b<;>simp
   ·exact cD rfl (J1 _ aA)
  ·have:iE c ss xs=8:=by
    unfold iE;rw[zC];exact zy.2 ⟨xs[i],ka D,by rw[E];rfl⟩
   have h0:=h0 (by rw[this];decide);rw[this]at h0;exact h0
 ·have:i=xs.length:=by omega
  subst this;rw[l0]at *;cases w
  ·refine cE rfl ?_;have hE:iE c ss xs=0:=by
    unfold iE;have Q:¬(xs.any (λx=>dY c ss x==some false)=true\/¬xs.Nodup):=λJ=>by have:=C.2 J;cases this
    rw[zB,zB]
    ·simp only[not_or,qT,Decidable.not_not]at Q;rw[Q.1];simp[Q.2]
    ·simp only[qT,mc];intro x u;have:=g x u;cases ht:dY c ss x
     ·rw[ht]at this;cases this
     ·simp
   refine Tf (fD.loc.cut h) hs (λb d hf=>hX b d hf.1) hi (Il hE) hl λv6 e6 Z=>?_;refine MC Z λo v10 V N H=>?_;exact h1 hE o v10 ((e6.trans V).sub λb d=>d.1) (aI.mono N λb _ d=>j9 e6.1 d) (fD.loc.mono H λb _ d=>d.1)
  ·refine cD rfl ?_;have h9:=tw xs.length (by rw[l0];exact C.1 rfl) g;have h0:=h0 (by rw[h9];decide);rw[h9]at h0;exact h0
theorem RR {x y:Sl}{a o b o':Nat}{cs ds:List Value}(hx:x.a=some ⟨a,o,none⟩)(hy:y.a=some ⟨b,o',none⟩)(ha:bZ U a cs)(hb:bZ U b ds)(hne:a≠b)(hd:ds≠[]){K:aO}(hK:K false U) :
 tH Tryz.prog 320 [.slice x.a x.len x.cap,.slice y.a y.len y.cap] U K:=by
 rintro w rfl;obtain⟨g,ha⟩:=ha;obtain⟨d,hb⟩:=hb;refine⟨false,w,?_,.refl _,hK⟩;rw[hx,hy,run_callFunc_extern Tryz.func320 (by kernel_rfl) (by kernel_rfl) (by kernel_rfl) (e:=Extern.SlicesOverlaps.overlaps #[272,272] #[4]) (by kernel_rfl)];have:=Lib.run_overlaps_apart (P:=Tryz.prog) w 272 4 279 Tryz.underlying272 3 Tryz.sizeOf279
  ⟨a,o,none⟩ ⟨b,o',none⟩ x.len x.cap y.len y.cap hne g d cs.length ds.length (by simp[World.shape?,ha]) (by simp[World.shape?,hb]) (by simpa using hd) (by simp[World.frozen?,ha]) (by simp[World.frozen?,ha])
 rw[this];rfl
theorem P4 {Q:Rg}{s:Sl}{xs:List Value}{i m vb:Nat}{x y z:Value}(h:bS s 3 xs U Q)(hlen:s.len=m)(hm:m<=2000)(hi:i<=m)(hv:bZ U vb [x,y,z])(hvb:¬Q vb)(h1:∀v∈xs,dR v=true)(h2:dR x=true/\dR y=true/\dR z=true)
 {R:Sl->Hp->Prop} (hR:∀s' σ',Ext Q U σ'->bS s' 3 (xs.take (3*i)++[x,y,z]++xs.drop (3*i)) σ' (Grow Q U)->R s' σ') :
 Wn.c s (i:Int) ⟨some ⟨vb,0,none⟩,1,1⟩ U R:=by
 refine Wn.o ?_;unfold Wn.v;have hxl:=h.1;have hcap:s.len<=s.cap:=by
  rcases h.2 with⟨h0,h0'⟩|⟨b,cs,_,_,_,J,_⟩
  ·omega
  ·exact J
 have aa:Rd U (some ⟨vb,0,none⟩) [x,y,z]:=by
  intro j u hu;rw[add_lit,zH,hv.cell];exact hu
 have X:∀v∈[x,y,z],dR v=true:=by simp[h2]
 refine jj O O O (cE rfl (cU (λY=>?_) λY=>?_))
 ·have ad:i=m:=by
   have:(i:Int)=((s.len:Nat):Int):=by simpa using Y
   omega
  refine h.app (ys:=[x,y,z]) rfl rfl aa X aD aD ng λs' h' hl' e' ag=>hR s' h' e' ?_
  rw[lz O,CE O,lC];exact ag
 ·have ad:i<m:=by
   have:¬(i:Int)=((s.len:Nat):Int):=by simpa using Y
   omega
  obtain⟨b,cs,P,ha,E,J,N,ht⟩:∃b cs,Q b/\s.a=some ⟨b,0,none⟩/\bZ U b cs/\s.len<=s.cap/\cs.length=s.cap*3/\cs.take xs.length=xs:=by
   rcases h.2 with⟨h0,_⟩|h
   ·omega
   ·exact h
  have H:vb≠b:=λe=>hvb (e▸P);have w:∀j v,xs[j]?=some v->cs[j]?=some v:=λj v p=>by
   rw[←ht,zj]at p;split at p
   ·exact p
   ·cases p
  refine cS (m:=m+1) aD O (cQ (λhgt=>?_) λhle2=>?_)
  ·-- no room: a new row
   refine jj (lo:=0) O O O (cS (m:=m+1) aD O (cS (m:=m+1-i) O O ?_))
   have C:¬s.cap=0:=by omega
   rw[zB C];simp only[ha,ze,add_lit,wz,kc,Nat.sub_zero];refine⟨O,xs.take (3*i),by rw[zY];simp only;omega,?_,by simp[dR],by simp only;omega,by simp only;omega,O,λaf=>by simp only at af;omega,λ_ cc K=>?_⟩
   ·intro j v p;rw[add_lit,zH,E.cell];rw[zj]at p;split at p
    ·exact w j v p
    ·cases p
   simp only[dD]at K ⊢;have ac:i+(m+1-i)=m+1:=by omega
   rw[ac]at K ⊢;refine nw λv2 hz2 e2 Z=>?_;have A:∀k,(List.replicate k [Value.int .i64 0,.int .i64 0,.pointer none]).flatten.length=3*k:=λk=>by
    rw[xe,vB,xE];simp;omega
   have g:(xs.take (3*i)).length=3*i:=by rw[zY];omega
   refine jj aD aD aD ?_
   have V:=e2.bW hv id;have n1:(if cc=i then(some ⟨U.size,0,none⟩:Option Addr)else(some ⟨U.size,0,none⟩:Option Addr).map (·.add (i*3)))=some ⟨U.size,i*3,none⟩:=by
    have:¬cc=i:=by omega
    rw[zB this];simp[add_lit]
   rw[n1];refine⟨[x,y,z],by simp only;rw[pX O];rfl,?_,X,?_⟩
   ·intro j u hu;rw[add_lit,zH,V.cell];exact hu
   simp only;refine VU (o:=i*3) (i:=0) Z (by simp only[zM,g,A,zV,lx];omega) λv3 o3 S=>?_;refine cS (m:=i+1) aD O (jj aD aD aD (jj O O O ?_))
   have M:bZ v3 b cs:=WH o3 (e2.bW E id) (by have:=E.lt;omega);have d:(xs.drop (3*i)).length=3*(m-i):=by rw[kg];omega
   refine⟨xs.drop (3*i),by simp only;rw[pX O,d];omega,?_,λv hv=>h1 v (tG hv),?_⟩
   ·have r:¬s.cap=i:=by omega
    rw[zB r];simp only[ha,ze,add_lit];intro j v p;rw[add_lit,M.cell];rw[kQ]at p;have:=w _ _ p;rw[show 0+i*3+j=3*i+j by omega];exact this
   have hbig:(xs.take (3*i)++(List.replicate (m+1-i) [Value.int .i64 0,.int .i64 0,.pointer none]).flatten++(List.replicate (cc-(m+1)) [Value.int .i64 0,.int .i64 0,.pointer none]).flatten).length=3*cc:=by
    simp only[zM,g,A];omega
   have tk:∀L:List Value,((xs.take (3*i)++(List.replicate (m+1-i) [Value.int .i64 0,.int .i64 0,.pointer none]).flatten++(List.replicate (cc-(m+1)) [Value.int .i64 0,.int .i64 0,.pointer none]).flatten).take (3*i))=xs.take (3*i):=λ_=>by
    rw[zr,pJ O,lz O]
   have fin:∀v4,QR v3 v4 U.size->bZ v4 U.size ((xs.take (3*i)++[x,y,z])++xs.drop (3*i)++((xs.take (3*i)++(List.replicate (m+1-i) [Value.int .i64 0,.int .i64 0,.pointer none]).flatten++(List.replicate (cc-(m+1)) [Value.int .i64 0,.int .i64 0,.pointer none]).flatten).drop (3*i+3)).drop (3*(m-i)))->R ⟨some ⟨U.size,0,none⟩,m+1,cc⟩ v4:=by
    intro v4 o4 b4;refine hR _ v4 ?_ ⟨?_,.inr ⟨U.size,_,.inr (zD _),rfl,b4,by simp only;omega,?_,?_⟩⟩
    ·exact((e2.to.dS o3.ext λi hi=>by subst hi;exact .inr (zD _)).dS o4.ext λi hi=>by subst hi;exact .inr (zD _))
    ·simp only[zM,g,d,zV,lx];omega
    ·simp only[zM,g,d,zV,lx,kg,A];omega
    ·rw[zr (xs.take (3*i)++[x,y,z]),←zr,yZ];rfl
   have e3:(xs.take (3*i)++(List.replicate (m+1-i) [Value.int .i64 0,.int .i64 0,.pointer none]).flatten++(List.replicate (cc-(m+1)) [Value.int .i64 0,.int .i64 0,.pointer none]).flatten).take (i*3+0)=xs.take (3*i):=by
    rw[show i*3+0=3*i by omega];exact tk []
   rw[e3]at S;have D:(xs.take (3*i)++[x,y,z]++(xs.take (3*i)++(List.replicate (m+1-i) [Value.int .i64 0,.int .i64 0,.pointer none]).flatten++(List.replicate (cc-(m+1)) [Value.int .i64 0,.int .i64 0,.pointer none]).flatten).drop (i*3+0 + [x,y,z].length)).length=3*cc:=by
    simp only[zM,kg,g,A,zV,lx];omega
   by_cases r:cc=i+1
   ·exfalso;omega
   ·rw[zB r];simp only[ze,add_lit,zH];refine VU (o:=(i+1)*3) (i:=0) S (by rw[D,d];omega) λv4 o4 b4=>fin v4 o4 ?_;have q1:(i+1)*3+0=(xs.take (3*i)++[x,y,z]).length:=by rw[zM,g];simp;omega
    have q2:(i+1)*3+0+(xs.drop (3*i)).length=(xs.take (3*i)++[x,y,z]).length+3*(m-i):=by rw[d,q1]
    rw[q2,q1,yZ,List.drop_append]at b4
    ·rw[CE (show(xs.take (3*i)++[x,y,z]).length<=(xs.take (3*i)++[x,y,z]).length+3*(m-i) by omega),sH]at b4;have q3:i*3+0 + [x,y,z].length=3*i+3:=by simp;omega
     rw[q3]at b4;have q4:(xs.take (3*i)++[x,y,z]).length+3*(m-i)-(xs.take (3*i)++[x,y,z]).length=3*(m-i):=by omega
     rw[q4]at b4;exact b4
    ·rfl
  ·-- room: the rest moves
   have hle3:m+1<=s.cap:=by omega
   have C:¬s.cap=0:=by omega
   have r:¬s.cap=i:=by omega
   refine cS (m:=m+1) aD O (jj (lo:=0) O O O ?_)
   rw[zB C];simp only[ha,ze,add_lit,wz,kc,Nat.sub_zero];refine cS (m:=i+1) aD O (jj aD aD aD ?_)
   have B:cs.take (3*m)=xs:=by rw[←hlen,show 3*s.len=xs.length by omega];exact ht
   have W:∃o',(if s.cap=i+1 then(some ⟨b,0,none⟩:Option Addr)else(some ⟨b,0,none⟩:Option Addr).map (·.add ((i+1)*3)))=some ⟨b,o',none⟩:=by
    split
    ·exact⟨0,rfl⟩
    ·exact⟨_,by simp[add_lit];rfl⟩
   obtain⟨o',W⟩:=W;refine RR (x:=⟨some ⟨vb,0,none⟩,1,1⟩) (a:=vb) (o:=0) (b:=b) rfl W hv E H (λe=>by rw[e]at N;simp at N;omega) (cD rfl ?_);refine cS (m:=i+1) aD O (jj aD aD aD (jj aD aD aD ?_))
   have G:¬s.cap=i+1:=by omega
   rw[zB G,zB r];simp only[ze,add_lit,zH];have d:(xs.drop (3*i)).length=3*(m-i):=by rw[kg];omega
   refine⟨xs.drop (3*i),by simp only;rw[Nat.min_eq_right O,d];omega,?_,λv hv=>h1 v (tG hv),?_⟩
   ·intro j v p;rw[add_lit,E.cell];rw[kQ]at p;have:=w _ _ p;rw[show i*3+j=3*i+j by omega];exact this
   refine VU (o:=(i+1)*3) (i:=0) E (by rw[d];omega) λv3 o3 S=>?_;refine jj aD aD aD ?_
   rw[zB r];simp only[ze,add_lit,zH];have ab:=WH o3 hv H;refine⟨[x,y,z],by simp only;rw[pX O];rfl,?_,X,?_⟩
   ·intro j u hu;rw[add_lit,zH,ab.cell];exact hu
   have ae:(cs.take ((i+1)*3+0)++xs.drop (3*i)++cs.drop ((i+1)*3+0+(xs.drop (3*i)).length)).length=cs.length:=by
    simp only[zM,zY,kg,d];omega
   refine VU (o:=i*3) (i:=0) S (by rw[ae];simp;omega) λv4 o4 b4=>?_;have a1:(cs.take ((i+1)*3+0)).length=3*i+3:=by rw[zY];omega
   have g:(xs.take (3*i)).length=3*i:=by rw[zY];omega
   have p1:(cs.take ((i+1)*3+0)++xs.drop (3*i)++cs.drop ((i+1)*3+0+(xs.drop (3*i)).length)).take (i*3+0)=xs.take (3*i):=by
    rw[zr,pJ O,yI,pX O,←B,yI,pX O]
    congr 1;omega
   have p2:(cs.take ((i+1)*3+0)++xs.drop (3*i)++cs.drop ((i+1)*3+0+(xs.drop (3*i)).length)).drop (i*3+0 + [x,y,z].length)=xs.drop (3*i)++cs.drop ((i+1)*3+0+(xs.drop (3*i)).length):=by
    rw[zr,List.drop_left'];rw[a1];simp;omega
   rw[p1,p2,←zr]at b4;refine hR _ v4 ((Ext.eM (F:=Q) o3 P).trans (Ext.eM o4 P)) ⟨?_,.inr ⟨b,_,.inl P,rfl,b4,aD,?_,?_⟩⟩
   ·simp only[zM,g,zV,lx,d];omega
   ·simp only[zM,g,kg,zV,lx,d];omega
   ·rw[yZ];rfl
def Zx (ss:List cH)(st:Nat):Nat:=(ss.takeWhile (λs=>s.st<st)).length
theorem H8 (l:List cH)(P:cH->Bool):l.takeWhile P=l.take (l.takeWhile P).length/\l.dropWhile P=l.drop (l.takeWhile P).length:=by
 induction l with
 | nil=>simp
 | cons x l ih=>
  simp only[List.takeWhile_cons,List.dropWhile_cons];cases P x
  ·simp
  ·simp only[zR,zV,yd,uM];exact⟨by rw[←ih.1],ih.2⟩
theorem wV (c:cA)(ss:List cH)(st:Nat):il c ss st=ss.take (Zx ss st)++⟨st,List.replicate c.n false⟩::ss.drop (Zx ss st):=by
 have:=H8 ss (λs=>decide (s.st<st));unfold il Zx;rw[this.2,←this.1]
theorem Gm (hs:ss.Pairwise (λa b=>a.st<b.st))(st:Nat):Zx ss st<=ss.length/\∀(i:Nat) s,ss[i]?=some s->(s.st<st↔i<Zx ss st):=by
 unfold Zx
 induction ss with
 | nil=>simp
 | cons x ss ih=>
  have e:=sy.1 hs;obtain⟨j,g⟩:=ih e.2;simp only[List.takeWhile_cons];by_cases hx:x.st<st
  ·simp only[hx,decide_true,zR,zV];refine⟨O,λi s d=>?_⟩;cases i with
   | zero=>simp at d;subst d;simp[hx]
   | succ i=>have:=g i s (by simpa using d);omega
  ·simp only[hx,decide_false,zZ,zp,lx,Nat.zero_le,Nat.not_lt_zero,iff_false,tD];intro i s d;cases i with
   | zero=>simp at d;subst d;exact hx
   | succ i=>
    have:=e.1 s (zG (i:=i) (by simpa using d));omega
theorem NS (h:fD U F p c ps ss){σ1:Hp}(e1:bL U σ1){sl:Sl}{rb:Nat}{cs:List Value}(hl:sl.len=ss.length)(hE:ss≠[]->rD U F p ps ss sl rb cs)(st:Nat)(hst:st<=1024){R:Int->Bool->Hp->Prop}(hR:∀σ' b,bL σ1 σ'->R (Zx ss st:Int) b σ') :
 Wc.c sl (st:Int) ⟨292,#[],#[]⟩ σ1 R:=by
 refine Wc.o ?_;unfold Wc.v;have N:=h.p8;obtain⟨H,j7⟩:=Gm h.qy st;have A:∀(k:Nat) (x:Nat×Nat) s (v:Hp) (K:aN),ps[k]?=some x->ss[k]?=some s->bL σ1 v->(∀D,bL v D->K ((s.st:Int)-(st:Int)) D) →
  VH Tryz.prog ⟨292,#[],#[]⟩ [.agg #[.int .i64 (s.many:Int),.int .i64 (s.st:Int),.pointer (some ⟨x.1,0,none⟩)],.int .i64 (st:Int)] [.one bO] v K:=by
  intro k x s v K w r ev hK;refine GR (all := #[.agg #[.int .i64 (s.many:Int),.int .i64 (s.st:Int),.pointer (some ⟨x.1,0,none⟩)],.int .i64 (st:Int)]) (by kernel_rfl) aA ?_;refine YS.o ?_;unfold YS.v;have hf:=(h.sp k x s w r).fit;refine nw (cs:=[.int .i64 (s.many:Int),.int .i64 (s.st:Int),.pointer (some ⟨x.1,0,none⟩)]) λY hz e J=>J.gC rfl (ar O O (hK Y e))
 refine Us (a:=bO) (bb:=bO) (λ(i j:Int) v=>∃a b:Nat,i=(a:Int)/\j=(b:Int)/\a<=Zx ss st/\Zx ss st<=b/\b<=ss.length/\bL σ1 v) (λi j _=>j.toNat-i.toNat) ⟨0,ss.length,rfl,by rw[hl],O,H,O,Ext.refl _ _⟩ ?_;rintro i j v ⟨a,b,rfl,rfl,ha,J,C,ev⟩;have z:bL U v:=e1.trans ev;refine cQ (λaa=>?_) λW=>?_
 ·have y:ss≠[]:=by rintro rfl;simp at C;omega
  have E:=hE y;refine cS (m:=a+b) O O ?_;have X:IntKind.u64.wrap ((a+b:Nat):Int)=((a+b:Nat):Int):=by
   unfold IntKind.wrap;simp[IntKind.bits,IntKind.signed];omega
  refine xh ?_;rw[X];refine nn O ?_;have M:min (1:Int).toNat IntKind.u64.bits=1:=by decide
  rw[M,Bm];have B:(((a+b:Nat):Int)/2^1)=(((a+b)/2:Nat):Int):=by omega
  refine cS (m:=(a+b)/2) B O ?_;have d:(a+b)/2<ss.length:=by omega
  obtain⟨x,s,w,r,Z⟩:=h.jF d;have u:=Q9 w r;rw[E.a];refine ix O O ?_;rw[add_lit,show 0+(((a+b)/2:Nat):Int).toNat*3=3*((a+b)/2) by omega];refine wO (e:=0) (z.bW E.bW id) (E.get u.1) (E.get u.2.1) (E.get u.2.2) (A _ x s v _ w r ev λD G=>?_);have g:=j7 _ s r;show If (decide (((s.st:Int)-(st:Int))<0)) _ _;refine cQ (λP=>?_) λS=>?_
  ·exact cS (m:=(a+b)/2+1) O O ⟨⟨_,b,rfl,rfl,by have:=g.1 O;omega,J,C,ev.trans G⟩,O⟩
  ·exact⟨⟨a,_,rfl,rfl,ha,by
    apply Classical.byContradiction;intro hc;have:=g.2 O;omega,O,ev.trans G⟩,O⟩
 ·have L:a=Zx ss st:=by omega
  subst L;refine bV.intro (cQ (λQ=>?_) λV=>hR v _ ev);have d:Zx ss st<ss.length:=by omega
  have y:ss≠[]:=by rintro rfl;simp at d
  have E:=hE y;obtain⟨x,s,w,r,Z⟩:=h.jF d;have u:=Q9 w r;rw[E.a];refine ix O O ?_;rw[add_lit,show 0+(Zx ss st:Int).toNat*3=3*Zx ss st by omega];refine wO (e:=0) (z.bW E.bW id) (E.get u.1) (E.get u.2.1) (E.get u.2.2) (A _ x s v _ w r ev λD G=>hR D _ (ev.trans G))
theorem ο (h:fD U F p c ps ss){st:Nat}(hf:st+c.aF<=1024){R:aN}(h9:GN c ss st=9->∀σ',bL U σ'->R 9 σ')
 (h0:GN c ss st=0->∀σ' ps',Ext F U σ'->fD σ' (Grow F U) p c ps' (il c ss st)->R 0 σ'):Y6.c (aW p) (st:Int) U R:=by
 refine Y6.o ?_;unfold Y6.v;have h:=fD.loc.cut h;obtain⟨sl,d,hl,aa,rb,cs,hE⟩:=h.m7;have hfew:=h.p8;have hc:=h.ok;have hck:=hc;unfold cA.ok at hck;refine Uk h (cE rfl (aG (d.gC rfl (d.gC rfl (d.gC rfl ?_)))));refine PB hc hf λv1 D L e1 hpn hqn S=>cE rfl (aG ((e1.bW d id).rS rfl ?_));have hplt:=d.lt;refine Qg (a:=bO) (λ(t:Int) v=>∃i:Nat,t=(i:Int)/\i<=ss.length/\bL v1 v/\∀(j:Nat) s,j<i->ss[j]?=some s->¬max s.st st-min s.st st<c.aF) (λt _=>ss.length-t.toNat) ⟨0,rfl,O,Ext.refl _ _,λj s y=>O⟩ ?_;rintro t v ⟨i,rfl,Z,ev,N⟩;have u:=e1.trans ev;refine cQ (λah=>?_) λhge=>?_
 ·simp only at ah;have ac:i<ss.length:=by omega
  obtain⟨E,hcap,hcl⟩:=hE (by rintro rfl;simp at ac);obtain⟨x,s,z,g,hS⟩:=h.jF ac;have eg:=Q9 z g;have hsf:=hS.fit;rw[E.a];refine ix O O ?_;rw[add_lit,show 0+(i:Int).toNat*3=3*i by omega];refine wO (e:=0) (u.bW E.bW id) (E.get eg.1) (E.get eg.2.1) (E.get eg.2.2) (Ib λv6 e6 b6=>b6.gC rfl (b6.gC rfl ?_));have hd:(if(st:Int)>(s.st:Int)then(st:Int)else(s.st:Int))-(if(st:Int)<(s.st:Int)then(st:Int)else(s.st:Int))=((max s.st st-min s.st st:Nat):Int):=by
   split<;>split<;>omega
  refine cS (m:=max s.st st-min s.st st) hd O (aG (((u.trans e6).bW d id).gC rfl ?_));refine cQ (λhlt2=>h9 ?_ _ (u.trans e6)) λhge2=>?_
  ·unfold GN;rw[zC];exact zy.2 ⟨s,zG g,by simpa using(by omega:max s.st st-min s.st st<c.aF)⟩
  ·refine cS (m:=i+1) O O ⟨⟨i+1,rfl,O,ev.trans e6,λj s' y W=>?_⟩,O⟩;by_cases e:j=i
   ·subst e;rw[g]at W;cases W;omega
   ·exact N j s' O W
 ·have hii:i=ss.length:=by simp only at hge;omega
  subst hii;have hE0:GN c ss st=0:=by
   unfold GN;rw[zB];simp only[qT,mc,zU];intro s g;obtain⟨j,y⟩:=zO g;exact N j s (cZ.1 y).1 y
  refine aG ((u.bW d id).rS rfl ?_);refine NS h u hl (λX=>(hE X).1) st O λv7 bb e7=>aG (((u.trans e7).bW d id).rS rfl ?_);have af:=u.trans e7;obtain⟨hp1,j7⟩:=Gm h.qy st;refine nw (cs:=[.int .i64 0,.int .i64 st,.pointer (some ⟨D,0,none⟩)]) λv8 hz8 e8 hb8=>?_;have H:=af.trans e8;have Y:=aI.bP aa H;have hsz7:=af.1;refine P4 Y hl O hp1 hb8 (λr=>by have:=r.1.2;omega) D9 ⟨rfl,rfl,rfl⟩ λs' v9 e9 hr9=>aG ?_;have hb9:=e9.bW (H.bW d id) λr=>r.2.1 rfl;refine hb9.s1 aA λQ fZ ag=>?_;have J:=h.len;have B:=h.nd;simp only[zt]at B;have ah:=S.lt;have hsz1:=(ev.trans e7).trans e8 |>.1;have A:∀b∈eA ps,b<U.size:=λb d=>(h.fb b d).2;have hS9:∀{a b s'},hU v8 a b c s'->¬(Cut F U a/\a≠p/\a∉eA ps)->¬(Cut F U b/\b≠p/\b∉eA ps)->a≠p->b≠p->hU Q a b c s':=λhS n1 n2 m1 m2=>(hS.bT e9 n1 n2).bT fZ.ext m1 m2;have ab:=((S.bP ev).bP e7).bP e8;have ad:dO (ps.take (Zx ss st)++(D,L)::ps.drop (Zx ss st)) (ss.take (Zx ss st)++⟨st,List.replicate c.n false⟩::ss.drop (Zx ss st)) =
   (dO ps ss).take (3*Zx ss st)++[.int .i64 0,.int .i64 st,.pointer (some ⟨D,0,none⟩)]++(dO ps ss).drop (3*Zx ss st):=by
   rw[VB (by simp[J])];have w:dO ps ss=dO (ps.take (Zx ss st)) (ss.take (Zx ss st))++dO (ps.drop (Zx ss st)) (ss.drop (Zx ss st)):=by
    rw[←VB (by simp[J]),oa,oa]
   have h2:(dO (ps.take (Zx ss st)) (ss.take (Zx ss st))).length=3*Zx ss st:=by rw[Kq (by simp[J]),zY];omega
   rw[w,yZ h2,List.drop_left' h2,zr];have:cH.many ⟨st,List.replicate c.n false⟩=0:=by simp[cH.many,yh]
   simp[dO,this]
  refine h0 hE0 Q (ps.take (Zx ss st)++(D,L)::ps.drop (Zx ss st)) ?_ ?_
  ·refine(((bL.to H).trans (e9.sub λb d=>d.1.1))).trans (fZ.ext.sub λb d=>d▸h.fp.1)
  ·have C:(eA (ps.take (Zx ss st)++(D,L)::ps.drop (Zx ss st))).Perm (D::L::eA ps):=by
    have:eA ps=eA (ps.take (Zx ss st))++eA (ps.drop (Zx ss st)):=by
     conv=>lhs;rw[←oa (Zx ss st) ps]
     simp only[eA,List.flatMap_append]
    rw[this];have h3:eA (ps.take (Zx ss st)++(D,L)::ps.drop (Zx ss st))=eA (ps.take (Zx ss st))++D::L::eA (ps.drop (Zx ss st)):=by simp[eA]
    rw[h3];exact List.perm_middle.trans ((List.perm_middle).cons D)
   have V:∀b,b∈eA (ps.take (Zx ss st)++(D,L)::ps.drop (Zx ss st))↔b=D\/b=L\/b∈eA ps:=by
    intro b;rw[C.mem_iff];simp
   refine⟨⟨s',ag,?_⟩,λi x s z g=>?_,.inl h.fp.1,λb d=>?_,?_,?_,hc,?_⟩
   ·rw[wV,ad];refine aI.bT (aI.mono hr9 λb _ d=>?_) fZ.ext λb _ d he=>d.2.1 he;rw[V];rcases d with d|d
    ·exact⟨.inl d.1.1,d.2.1,λr=>by
      rcases r with h|h|h
      ·have:=d.1.2;omega
      ·have:=d.1.2;omega
      ·exact d.2.2 h⟩
    ·exact⟨.inr O,O,λr=>by
      rcases r with h|h|h
      ·omega
      ·omega
      ·have:=A b h;omega⟩
   ·rw[wV]at g;have M:(ps.take (Zx ss st)).length=Zx ss st:=by rw[zY];omega
    have K:(ss.take (Zx ss st)).length=Zx ss st:=by rw[zY];omega
    have ae:∀j:Nat,ps[j]?=some x->ss[j]?=some s->hU Q x.1 x.2 c s:=λj w h2=>by
     have G:=QH w;exact hS9 ((h.sp j x s w h2).bP H) (λr=>r.2.2 G.1) (λr=>r.2.2 G.2) (λe=>B.1 (e▸G.1)) (λe=>B.1 (e▸G.2))
    rcases qi i (Zx ss st)with hlt'|heq|hgt
    ·rw[zd O,zj,zC hlt']at z g;exact ae i z g
    ·rw[zm O]at z g;rw[M,heq,oU]at z;rw[K,heq,oU]at g;simp at z g;subst z;subst g;exact hS9 ab (λr=>by have:=r.1.2;simp only at this;omega) (λr=>by have:=r.1.2;simp only at this;omega) aC aC
    ·rw[zm O]at z g;rw[M]at z;rw[K]at g;obtain⟨k,hk⟩:∃k,i-Zx ss st=k+1:=⟨i-Zx ss st-1,O⟩;rw[hk,yu,kQ]at z g;exact ae _ z g
   ·rcases(V b).1 d with w|w|w
    ·subst w;exact .inr hpn
    ·subst w;exact .inr hqn
    ·exact .inl (h.fb b w).1
   ·simp only[zt];refine⟨λG=>?_,?_⟩
    ·rcases(V p).1 G with w|w|w
     ·omega
     ·omega
     ·exact B.1 w
    ·rw[C.nodup_iff];simp only[zt,zX,not_or];have X:=S.ne;exact⟨⟨X,λG=>by have:=A _ G;omega⟩,λG=>by have:=A _ G;omega,B.2⟩
   ·rw[wV];simp[J]
   ·rw[wV];rw[pN];have P:=h.qy;refine⟨P.sublist (Bf _ _),sy.2 ⟨λs g=>?_,P.sublist (List.drop_sublist _ _)⟩,λa ha b d=>?_⟩
    ·obtain⟨j,y⟩:=zO g;rw[kQ]at y;have w:=j7 _ s y;have h2:s.st≠st:=λe=>by
      have:=N (Zx ss st+j) s (cZ.1 y).1 y;rw[e]at this;simp at this;omega
     show st<s.st;omega
    ·obtain⟨i,Z⟩:=zO ha;rw[zj]at Z;split at Z
     ·rename_i hlt';have hat:=(j7 i a Z).2 hlt';rcases zX.1 d with rfl|d
      ·exact hat
      ·obtain⟨j,y⟩:=zO d;rw[kQ]at y;obtain⟨hi1,hi2⟩:=cZ.1 Z;obtain⟨hj1,hj2⟩:=cZ.1 y;have:=mg.1 P i (Zx ss st+j) hi1 hj1 O;rw[hi2,hj2]at this;exact this
     ·cases Z
end Go.Ar
namespace Go.Proofs
open Go.Vc
set_option maxRecDepth 100000
def Xy.h:Hn:=.q .o1 (.q (.cW (.seq [.op,.op,.op,.cR true 5 (RI.ops 5),.op])) .l)
def Xy.v (a:R2)(b:Hp)(c:aO):Prop:=bV (λd e=>c d e) λf=>If (!a.isNone) (bE a 0 b λh=>f (decide (h>0)) b) (f false b)
theorem Xy.o {a b c}(d:Xy.v a b c):Xy.c a b c:=Wa Tryz.func199 (x:=Xy.h) (R0 d)
def Z5.h:Hn:=.q .o2 (.q (.q (.cW (.seq [.op,.op,.op,.cR false 2 [.op,.op],.op,.cR false 2 [.op,.op],.op,.cR false 2 [.op,.op]])) .aJ) (.q .o6 .l))
def Z5.v (a b:Int)(c:Hp)(d:Option Addr->Int->Hp->Prop):Prop:=bV (λe f=>bV (λg h=>bV (λi j=>If i (d none 1 j) (aV #[.I a,.I b,.I 0,.slice none 0 0] 283 j λk l=>d (some k) 0 l)) λm=>If g (m true h) (m (decide (b>8)) h)) λn=>If e (n true f) (n (decide (b<0)) f)) λo=>If (a<1) (o true c) (o (decide (a>32)) c)
theorem Z5.o {a b c d}(e:Z5.v a b c d):Z5.c a b c d:=Wa Tryz.func213 (x:=Z5.h) (R0 e)
def WR.h:Hn:=.q .o2 (.q (.k (.q .o4 (.c .aL (.q .o7 .aJ)))) (.q .o7 (.q .o8 (.q .fZ (.q .fZ (.q .o3 .l))))))
def WR.v (a:R2)(b:Hp)(c:Sl->Int->Hp->Prop):Prop:=Xy.c a b λd e=>If (!d) (c ⟨none,0,0⟩ 5 e) (bF a 3 e λg=>If (((g.len:Nat):Int)==0) (c ⟨none,0,0⟩ 4 e) (bF a 3 e λi=>bM (((i.len:Nat):Int)-1) λj=>bF a 3 e λl=>Ix l.a l.len j 1 λm=>ju m e λn=>bF a 3 e λp=>fo p 1 0 j (p.cap:Nat) λq=>bX a λr=>aR r 3 (.slice q.a q.len q.cap) e λs=>bE a 2 s λu=>bX a λv=>aR v 2 (.I (if j<u then j else u)) s λw=>c n 0 w))
theorem WR.o {a b c}(d:WR.v a b c):WR.c a b c:=Wa Tryz.func232 (x:=WR.h) (R0 d)
def Xo.h:Hn:=.q .o2 (.q (.k (.q .o4 (.c .aL (.q .o8 (.c .aL (.q (.oq 11) .aJ)))))) (.q (.cW (.held true [8,11] (.tk [0,1,2,3,4,5] (.all [(6,.all [(7,.all [(8,.take 9 (.take 10 (.all [(11,.done)])))])])])))) .aL))
def Xo.v (a:R2)(b:Sl)(c:Hp)(d:Bool->Int->Hp->Prop):Prop:=Xy.c a c λe f=>If (!e) (d false 5 f) (bE a 0 f λh=>If (((b.len:Nat):Int) != h) (d false 1 f) (bF a 3 f λj=>bE a 1 f λl=>If (((j.len:Nat):Int)≥l) (d false 0 f) (dZ f λm=>bX a λn=>aT m n 3 λo=>W3.c b f λp q=>And (m q) <| aV #[.slice p.a p.len p.cap] 31 q λr s=>And (m s) <| App o 1 24 31 [.slice none 0 0] ⟨some r,1,1⟩ s λt u=>bX a λv=>aR v 3 (.slice t.a t.len t.cap) u λw=>d true 0 w)))
theorem Xo.o {a b c d}(e:Xo.v a b c d):Xo.c a b c d:=Wa Tryz.func300 (x:=Xo.h) (R0 e)
end Go.Proofs
namespace Go.Ar
open Go Go.Vc Go.Proofs
variable {U:Hp}{F:Rg}{p batch room:Nat}{t:gK}
def pU (s:Sl):Value:=.slice s.a s.len s.cap
def WD (xs:List Int):List Value:=xs.map (Value.int .i64)
theorem V4 {l:List Int}:∀v∈WD l,dR v=true:=by
 intro v hv;simp only[WD,zF]at hv;obtain⟨x,_,rfl⟩:=hv;rfl
def q9 (sls:List Sl)(bs:List (List Int))(U:Hp)(D:Rg):Prop:=sls.length=bs.length/\∀(i:Nat) s xs,sls[i]?=some s->bs[i]?=some xs->cV s 1 (WD xs) U D/\s.len<=s.cap
theorem q9.loc (sls:List Sl)(bs:List (List Int)):dM (q9 sls bs):=λU j F G h g e=>⟨h.1,λi s a d b=>⟨cV.loc _ _ _ _ _ _ _ (h.2 i s a d b).1 g e,(h.2 i s a d b).2⟩⟩
def Dj (sls:List Sl):Prop:=sls.Pairwise λs t=>∀a a',s.a=some a->t.a=some a'->a.block≠a'.block
def kM (s:Sl)(b:Nat):Prop:=∃a,s.a=some a/\a.block=b
theorem _root_.Go.Vc.cV.mh {s:Sl}{sz:Nat}{xs:List Value}{D:Rg}(h:cV s sz xs U D):cV s sz xs U λb=>D b/\kM s b:=
 ⟨h.1,h.2.imp id λ⟨b,o,d,e,a,r⟩=>⟨b,o,d,⟨e,_,a,rfl⟩,a,r⟩⟩
theorem _root_.Go.Vc.cV.bW {s:Sl}{sz:Nat}{xs:List Value}{D:Rg}(h:cV s sz xs U D)(hx:xs≠[]){b:Nat}(hb:kM s b):D b/\b<U.size:=by
 rcases h.2 with h0|⟨b',o,cs,hq,ha,hc,_⟩
 ·exact absurd h0 hx
 ·obtain⟨a,d,rfl⟩:=hb;rw[ha]at d;cases d;exact⟨hq,hc.lt⟩
theorem Dj.snoc {sls:List Sl}{bs:List (List Int)}{D:Rg}{z:Nat}{s':Sl}{xs:List Value}{v:Hp}(h:Dj sls)(hB:q9 sls bs U D)(hne:∀xs∈bs,xs≠[])(hz:∀b,D b->b<z)(hs:bS s' 1 xs v λb=>z<=b)(hx:xs≠[]):Dj (sls++[s']):=by
 refine pN.2 ⟨h,List.pairwise_singleton _ _,λs g u m a r x p=>?_⟩;rw[zP]at m;subst m;obtain⟨i,j⟩:=zO g;have e:=(cZ.1 j).1;have d:bs[i]?=some (bs[i]'(by rw[←hB.1];exact e)):=cX _;have w:=((hB.2 i s _ j d).1.bW (by simp only[WD,ne_eq,An];exact hne _ (zG d)) ⟨a,x,rfl⟩).1;have y:=(hs.fX.bW hx ⟨r,p,rfl⟩).1;have:=hz _ w;omega
structure iP (U:Hp) (F:Rg) (p batch room:Nat) (t:gK):Prop where
 mem:∃(sl:Sl) (sls:List Sl) (D:Rg),bZ U p [.int .i64 (batch:Int),.int .i64 (room:Int),.int .i64 (t.low:Int),.slice sl.a sl.len sl.cap]/\bS sl 1 (sls.map pU) U (λb=>F b/\b≠p/\¬D b)/\q9 sls t.bs U D/\(∀b,D b->F b/\b≠p)/\Dj sls
 fp:F p
 b1:1<=batch/\batch<=32
 r1:room<=8
 p8:t.bs.length<=room
 low:t.low<=t.bs.length
 all:∀xs∈t.bs,xs.length=batch
theorem iP.loc:dM λU F=>iP U F p batch room t:=λU x F G h r d=>by
 obtain⟨sl,j,D,a,u,s,i,w⟩:=h.mem;refine⟨⟨sl,j,λb=>D b/\b<U.size,?_,?_,?_,λb a=>⟨(d b a.2 (i b a.1).1).1,(i b a.1).2⟩,w⟩,(d p a.lt h.fp).1,h.b1,h.r1,h.p8,h.low,h.all⟩
 ·obtain⟨e,m⟩:=a;exact⟨e,(d p (bZ.lt ⟨e,m⟩) h.fp).2.trans m⟩
 ·exact bS.loc _ _ _ _ _ _ _ u r λb a g=>⟨⟨(d b a g.1).1,g.2.1,λhd=>g.2.2 hd.1⟩,(d b a g.1).2⟩
 ·exact q9.loc _ _ _ _ _ _ s r λb a hd=>⟨⟨hd,a⟩,(d b a (i b hd).1).2⟩
theorem iP.bP {σ':Hp}(h:iP U F p batch room t)(e:bL U σ'):iP σ' F p batch room t:=dM.bP iP.loc h e
theorem Br (h:iP U F p batch room t){R:aO}(hR:R true U):Xy.c (aW p) U R:=by
 refine Xy.o ?_;unfold Xy.v;obtain⟨sl,b,D,a,_⟩:=h.mem;have:=h.b1;refine bV.intro (cD rfl (aG (a.rI rfl ?_)));rw[zJ O];exact hR
theorem _root_.Go.Vc.cV.OW {s:Sl}{F:Rg}{sls:List Sl}(h:cV s 1 (sls.map pU) U F){i:Nat}{x:Sl}(hx:sls[i]?=some x){K:Sl->Prop}(hK:K x):Ix s.a s.len (i:Int) 1 λa=>ju a U K:=by
 have m:=(cZ.1 hx).1;obtain⟨b,o,g,e⟩:=h.cell (j:=i) (v:=pU x) (by simp[hx]);have d:=h.1;rw[zk]at d;rw[g];refine ix O O ?_;rw[add_lit];exact nS (by simpa[pU]using e) hK
theorem MF (h1:1<=batch)(h2:batch<=32)(h3:room<=8){R:Option Addr->Int->Hp->Prop}(hR:∀σ' p,bL U σ'->U.size<=p->p<σ'.size->iP σ' (· = p) p batch room ⟨0,[]⟩->R (some ⟨p,0,none⟩) 0 σ'):Z5.c batch room U R:=by
 refine Z5.o ?_;unfold Z5.v;refine bV.intro (fV O (bV.intro (fV O (bV.intro (fV O (fV O ?_))))));refine nw (cs:=[.int .i64 batch,.int .i64 room,.int .i64 0,.slice none 0 0]) λv d e a=>?_;exact hR v _ e (zD _) O ⟨⟨⟨none,0,0⟩,[],λ_=>False,a,bS.nil _ _ _ _,⟨rfl,λi s g h=>by simp at h⟩,λb h=>h.elim,List.Pairwise.nil⟩,rfl,⟨h1,h2⟩,h3,by simp,by simp,by simp⟩
theorem τ (h:iP U F p batch room t){sl:Sl}{xs:List Int}{X:Rg}(hs:cV sl 1 (WD xs) U X)(hl:xs.length<=1000000){R:Bool->Int->Hp->Prop}(h1:xs.length≠batch->R false 1 U)(h2:xs.length=batch->room<=t.bs.length->R false 0 U)
 (h3:xs.length=batch->t.bs.length<room->∀σ',Ext F U σ'->iP σ' (Grow F U) p batch room {t with bs:=t.bs++[xs]}->R true 0 σ'):Xo.c (aW p) sl U R:=by
 refine Xo.o ?_;unfold Xo.v;have h:=iP.loc.cut h;obtain⟨C,B,D,d,hr,w,K,hJ⟩:=h.mem;have r:sl.len=xs.length:=by have:=hs.1;simp[WD]at this;omega
 have hso:C.len=t.bs.length:=by have:=hr.1;rw[zk,w.1]at this;omega
 have hr8:=h.r1;have hb1:=h.b1;refine Br h (cE rfl (aG (d.rI rfl ?_)));rw[qO];refine cU (λA=>h1 (by rw[←r];simpa using A)) λL=>?_;have g:xs.length=batch:=by rw[←r];simpa using L
 refine aG (d.rS rfl (aG (d.rI rfl (cQ (λS=>h2 g (by simp only at S;omega)) λZ=>?_))));simp only at Z;refine⟨λh'=>bZ h' p [.int .i64 (batch:Int),.int .i64 (room:Int),.int .i64 (t.low:Int),.slice C.a C.len C.cap],d,aG ⟨C,λh' Y=>by rw[add_lit,Y.cell];rfl,?_⟩⟩;refine Ho hs V4 O λy v1 hl1 e1 z=>⟨e1.bW d id,?_⟩;refine nw (cs:=[.slice y.a y.len y.cap]) λv2 hz2 e2 aa=>⟨(e1.trans e2).bW d id,?_⟩;have V:=aI.bP (aI.bP hr e1) e2;refine V.app (ys:=[pU y]) rfl rfl ?_ (by simp[dR,pU]) ?_ ?_ ng λs2 v3 hl3 Q P=>aG ?_
 ·intro j u hu;rw[add_lit,zH,aa.cell];exact hu
 ·simp only;have:(C.len+1)*24<=9*24:=mb O O;omega
 ·simp only;omega
 ·have N:=Q.bW ((e1.trans e2).bW d id) λH=>H.2.1 rfl;have hplt:=d.lt;have hs1:=e1.1;refine N.s1 aA λv4 o4 M=>h3 g O v4 ?_ ?_
  ·exact((bL.to (e1.trans e2)).trans (Q.sub λb d=>d.1.1)).trans (o4.ext.sub λb d=>d▸h.fp.1)
  ·refine⟨⟨s2,B++[y],λb=>D b/\b<U.size\/U.size<=b/\b<v1.size,M,?_,⟨by simp[w.1],λi s ys x m=>?_⟩,λb d=>?_,?_⟩,.inl h.fp.1,h.b1,h.r1,by simp;omega,by have:=h.low;simp;omega,λys m=>?_⟩
   ·rw[jU];refine aI.bT (aI.mono P λb _ d=>?_) o4.ext λb _ d W=>d.2.1 W;rcases d with d|d
    ·exact⟨.inl d.1.1,d.2.1,λhd=>by
      rcases hd with hd|hd
      ·exact d.2.2 hd.1
      ·have:=d.1.2;omega⟩
    ·exact⟨.inr O,O,λhd=>by rcases hd with hd|hd<;>omega⟩
   ·have mv:∀{s:Sl} {ys:List Int} {G:Rg},cV s 1 (WD ys) v2 G->(∀b,G b->b≠p/\¬(Cut F U b/\b≠p/\¬D b))->cV s 1 (WD ys) v4 G:=λY hn=>
     aH.bT (aH.bT Y Q λb _ d=>(hn b d).2) o4.ext λb _ d W=>(hn b d).1 W
    rcases kb i B.length with hi'|hi'
    ·rw[zd hi']at x;rw[zd (by rw[←w.1];exact hi')]at m;obtain⟨k1,k2⟩:=w.2 i s ys x m;refine⟨aH.mono (mv (aH.bP (aH.bP (aH.mono k1 (G:=λb=>D b/\b<U.size) λb d hd=>⟨hd,d⟩) e1) e2) λb hd=>⟨(K b hd.1).2,λH=>H.2.2 hd.1⟩) λb _ hd=>.inl hd,k2⟩
    ·rw[zm hi']at x;rw[zm (by rw[←w.1];exact hi')]at m;have J:i-B.length=0:=by
      have:=(cZ.1 x).1;simp at this;omega
     rw[J]at x;rw[show i-t.bs.length=0 by rw[←w.1];exact J]at m;simp at x m;subst x;subst m;have E:y.len<=y.cap:=by
      rcases z.2 with⟨q1,q2⟩|⟨_,_,_,_,_,q,_⟩
      ·omega
      ·exact q
     refine⟨aH.mono (mv (aH.bP (aH.mono z.fX (G:=λb=>U.size<=b/\b<v1.size) λb d hd=>⟨hd,d⟩) e2) λb hd=>⟨O,λH=>by have:=H.1.2;omega⟩) λb _ hd=>.inr hd,E⟩
   ·rcases d with hd|hd
    ·exact⟨.inl (K b hd.1).1.1,(K b hd.1).2⟩
    ·exact⟨.inr hd.1,O⟩
   ·have A:∀ys∈t.bs,ys≠[]:=λys m e=>by have:=iP.all ‹_› ys m;rw[e]at this;simp at this;omega
    exact hJ.snoc w A (λb hd=>(K b hd).1.2) z (by simp only[WD,ne_eq,An];intro e;rw[e]at g;simp at g;omega)
   ·rcases zK.1 m with h|h
    ·exact iP.all ‹_› ys h
    ·simp at h;subst h;exact g
theorem OH (h:iP U F p batch room t)(h0:t.bs=[]){R:Sl->Int->Hp->Prop}(hR:R ⟨none,0,0⟩ 4 U):WR.c (aW p) U R:=by
 refine WR.o ?_;unfold WR.v;obtain⟨b,d,D,i,g,e,j,m⟩:=h.mem;have a:b.len=t.bs.length:=by have:=g.1;rw[zk,e.1]at this;omega
 refine Br h (cE rfl (aG (i.rS rfl (cD ?_ hR))));simp[a,h0]
theorem Sy (h:iP U F p batch room t)(h0:t.bs≠[]){R:Sl->Int->Hp->Prop}(hR:∀out σ',Ext F U σ'->(∀b,kM out b->F b)->cV out 1 (WD (t.bs.getLast?.getD [])) σ' (kM out)->out.len<=out.cap->iP σ' (λb=>F b/\¬kM out b) p batch room t.rem->R out 0 σ'):WR.c (aW p) U R:=by
 refine WR.o ?_;unfold WR.v;obtain⟨K,g,D,d,H,x,B,X⟩:=h.mem;have hso:K.len=t.bs.length:=by have:=H.1;rw[zk,x.1]at this;omega
 have hpos:=qg.2 h0;have hr8:=h.r1;have hfw:=h.p8;have Z:=h.low;have Q:t.bs.length-1<g.length:=by rw[x.1];omega
 obtain⟨o,M⟩:∃o,g[t.bs.length-1]?=some o:=⟨_,cX Q⟩;have j:t.bs[t.bs.length-1]?=some (t.bs.getLast?.getD []):=by
  rw[List.getLast?_eq_getElem?,cX O];rfl
 obtain⟨Y,k2⟩:=x.2 _ o _ M j;refine Br h (cE rfl (aG (d.rS rfl (cE ?_ ?_))))
 ·simp only[mB];omega
 refine aG (d.rS rfl (cS (m:=t.bs.length-1) aC O (aG (d.rS rfl ?_))));refine H.fX.OW M (aG (d.rS rfl ?_));have W:K.len<=K.cap:=by
  rcases H.2 with⟨q1,q2⟩|⟨_,_,_,_,_,q,_⟩
  ·omega
  ·exact q
 refine jj (lo:=0) O aD aD (aG (d.s1 aA λv1 o1 E=>aG (E.rI rfl (aG ?_))))
 refine E.s1 aA λv2 o2 u=>?_;have r:Ext (· = p) U v2:=o1.ext.trans o2.ext;have C:(if((t.bs.length-1:Nat):Int)<(t.low:Int)then((t.bs.length-1:Nat):Int)else(t.low:Int))=((min t.low (t.bs.length-1):Nat):Int):=by split<;>omega
 rw[C]at u;have V:∀A∈t.bs,A≠[]:=λA w e=>by have h1:=h.all A w;have h2:=h.b1;rw[e]at h1;simp at h1;omega
 have z:∀b,kM o b->D b:=λb d=>(Y.bW (by simp only[WD,ne_eq,An];exact V _ (zG j)) d).1;refine hR o v2 (r.sub λb d=>d▸h.fp) (λb d=>(B b (z b d)).1) (aH.mono (aH.bT Y r λb _ d G=>(B b d).2 G).mh λb _ hd=>hd.2) k2 ⟨⟨_,g.dropLast,λb=>D b/\¬kM o b,u,?_,⟨by simp[x.1,gK.rem],λi s A J w=>?_⟩,λb hd=>⟨⟨(B b hd.1).1,hd.2⟩,(B b hd.1).2⟩,List.Pairwise.sublist (List.dropLast_sublist _) X⟩,⟨h.fp,λd=>(B p (z p d)).2 rfl⟩,h.b1,h.r1,by simp[gK.rem];omega,by simp[gK.rem];omega,λA w=>h.all A (List.dropLast_subset _ w)⟩
 ·refine aI.bT ?_ r λb _ d G=>d.2.1 G;refine⟨by simp[x.1],?_⟩;rcases H.2 with⟨q1,q2⟩|⟨b,cs,hq,L,hbb,hle,hcl,ht⟩
  ·omega
  ·refine .inr ⟨b,cs,⟨⟨hq.1,λd=>hq.2.2 (z b d)⟩,hq.2.1,λhd=>hq.2.2 hd.1⟩,?_,hbb,by simp only;omega,by simp only;omega,?_⟩
   ·simp only[L];split<;>simp[add_lit]
   ·simp only[zk]at ht ⊢;have hd:g.dropLast.map pU=(g.map pU).take (g.length-1):=by rw[yx,List.map_take]
    rw[hd,←ht,yI,AY]
    congr 1;omega
 ·have y:i<t.bs.length-1:=by
   have:=(cZ.1 w).1;simpa[gK.rem]using this
  rw[yx,zj]at J;simp only[gK.rem,yx,zj]at w;rw[zC (by rw[x.1];exact y)]at J;rw[zC y]at w;obtain⟨m1,m2⟩:=x.2 i s A J w;refine⟨aH.mono (aH.bT m1 r λb _ d G=>(B b d).2 G).mh λb _ d=>⟨d.1,λu=>?_⟩,m2⟩;obtain⟨a,L,e1⟩:=d.2;obtain⟨a',N,e2⟩:=u;obtain⟨S,rfl⟩:=cZ.1 J;obtain⟨P,rfl⟩:=cZ.1 M;exact mg.1 X i _ S P y a a' L N (e1.trans e2.symm)
def xH (out:Sl)(bs:List (List Int))(U:Hp)(G:Rg):Prop:=∃sls:List Sl,cV out 1 (sls.map pU) U G/\q9 sls bs U G
theorem xH.loc (out:Sl)(bs:List (List Int)):dM (xH out bs):=λU i F G ⟨a,g,e⟩ d b=>⟨a,cV.loc _ _ _ _ _ _ _ g d b,q9.loc _ _ _ _ _ _ e d b⟩
end Go.Ar
namespace Go.Ar
open Go Go.Vc Go.Proofs
open Go.Bu (Zt)
variable {U:Hp}{F:Rg}{p:Nat}{ow:Nat->Nat}
def ur (ow:Nat->Nat)(x:Nat)(l:List (Nat×Nat×Nat)):Prop:=
 l.length<=x/\(∀r∈l,1<=r.2.1/\r.1+r.2.1<=x/\∀y,r.1<=y->y<r.1+r.2.1->ow y=r.2.2)/\∀y,y<x->ow y≠0->∃r∈l,r.1<=y/\y<r.1+r.2.1
theorem ur.new {x:Nat}{l:List (Nat×Nat×Nat)}(h:ur ow x l):ur ow (x+1) (l++[(x,1,ow x)]):=by
 refine⟨by simp;exact h.1,λr d=>?_,λy g e=>?_⟩
 ·rcases zK.1 d with a|a
  ·exact⟨(h.2.1 r a).1,by have:=(h.2.1 r a).2.1;omega,(h.2.1 r a).2.2⟩
  ·simp at a;subst a;exact⟨zD _,zD _,λy a b=>by simp only at a b ⊢;rw[show y=x by omega]⟩
 ·rcases kb y x with a|a
  ·obtain⟨r,d,b⟩:=h.2.2 y a e;exact⟨r,kC _ d,b⟩
  ·exact⟨(x,1,ow x),by simp,by simp only;omega⟩
theorem ur.more {x a m no:Nat}{l:List (Nat×Nat×Nat)}(h:ur ow x (l++[(a,m,no)]))(he:a+m=x)(hno:ow x=no):ur ow (x+1) (l++[(a,m+1,no)]):=by
 refine⟨by have:=h.1;simp at this ⊢;omega,λr e=>?_,λy i g=>?_⟩
 ·rcases zK.1 e with b|b
  ·have:=h.2.1 r (kC _ b);exact⟨this.1,O,this.2.2⟩
  ·simp at b;subst b;have:=h.2.1 (a,m,no) aA;refine⟨by simp only;omega,by simp only;omega,λy b d=>?_⟩;simp only at b d ⊢;rcases kb y (a+m)with h3|h3
   ·exact this.2.2 y b h3
   ·rw[show y=x by omega];exact hno
 ·rcases kb y x with b|b
  ·obtain⟨r,e,d⟩:=h.2.2 y b g;rcases zK.1 e with h3|h3
   ·exact⟨r,kC _ h3,d⟩
   ·simp at h3;subst h3;exact⟨(a,m+1,no),by simp,by simp only at d ⊢;omega⟩
  ·exact⟨(a,m+1,no),by simp,by simp only;have:=h.2.1 (a,m,no) aA;simp only at this;omega⟩
end Go.Ar
namespace Go.Proofs
open Go.Vc
set_option maxRecDepth 100000
def YB.h:Hn:=.q .o1 (.q (.q .o4 (.q .o2 .aJ)) (.q .o5 .aM))
def YB.v (a:R2)(b c:Int)(d:Hp)(e:aN):Prop:=XF.c a b 1 d λf g=>If (f != 0) (e f g) (Nz 8<|bM (b.tdiv 8) λh=>Zi.c a h c g λi=>e 0 i)
theorem YB.o {a b c d e}(f:YB.v a b c d e):YB.c a b c d e:=Wa Tryz.func62 (x:=YB.h) (R0 f)
def YV.h:Hn:=.q .o2 (.q (.q .o4 (.q .o2 (.c (.q .o3 .l) .l))) (.q .o6 .l))
def YV.v (a:R2)(b:Int)(c:Hp)(d:Int->Int->Hp->Prop):Prop:=XF.c a b 1 c λe f=>If (e != 0) (d 0 e f) (Nz 8<|bM (b.tdiv 8) λg=>Zh.c a g f λh i=>d h 0 i)
theorem YV.o {a b c d}(e:YV.v a b c d):YV.c a b c d:=Wa Tryz.func65 (x:=YV.h) (R0 e)
def XF.h:Hn:=.q .o1 (.q (.k (.q .o4 (.c .aM (.q .o3 (.c .aM (.q (.cW (.seq [.op,.op,.op,.cR false 3 (RI.ops 3),.op])) .aK)))))) (.q .fZ (.q (.q (.cW (.gH true [] [(50,.one .b)] (.tk [0,1,2,3,4,5,6,7] (.split 39 (.tk [8,9,10,11,12,13,14,15,16,17,18] (.done)) (.tk [8,9,10,11,12,13,14,15,16] (.all [(17,.take 18 (.done))])))))) .aK) .aM)))
def XF.v (a:R2)(b c:Int)(d:Hp)(e:aN):Prop:=XN.c a d λf g=>If (!f) (e 5 g) (If (c==0) (e 0 g) (bV (λh i=>If h (e 7 i) (Nz 256<|bM (b.tdiv 256) λj=>Nz 8<|bM (b.tdiv 8) λk=>bM (k+c) λl=>bM (l-1) λm=>Nz 32<|bM (m.tdiv 32) λn=>Jn [.b] (λ(o:Bool) p=>If o (e 7 p) (e 0 p)) λq=>dZ i λr=>bX a λs=>aT r s 0 λt=>If (n≥((t.len:Nat):Int)) (q true i) (bX a λu=>aT r u 0 λv=>bM (n+1) λw=>fo v 2 j w (v.cap:Nat) λx=>gE r .b ((Addr.mk 0 0 none).add 0) λ(y:Bool)=>gE r .b ((Addr.mk 0 0 none).add 1) λ(z:Bool)=>Wr.c x y z i λaa ab=>And (r ab) <| q aa ab))) λac=>If (b<0) (ac true g) (Nz 8 <| ac ((b.tmod 8) != 0) g)))
theorem XF.o {a b c d e}(f:XF.v a b c d e):XF.c a b c d e:=Wa Tryz.func104 (x:=XF.h) (R0 f)
def Zi.h:Hn:=.q .o3 (.kj [] (.q (.oq 9) (.c (.q (.cW (.tail 7 (RI.ops 7) [.op])) (.q (.cW (.held true [6] (.tk [0,1,2,3,4] (.all [(5,.all [(6,.done)])])))) (.cW (.tail 13 (RI.ops 13) [.op])))) .l)) (.o 11))
def Zi.v (a:R2)(b c:Int)(d:Hp)(e:aP):Prop:=Nz 32<|bM (b.tdiv 32) λf=>Jn [] (λg=>bJ a 1 g λi=>Lk .i64 .s i f g λj=>Nz 32 <| Ix (j.getD ⟨none,0,0⟩).a (j.getD ⟨none,0,0⟩).len (b.tmod 32) 1 λk=>dU k (.I c) g λl=>e l) λm=>bF a 0 d λo=>Ix o.a o.len f 2 λp=>aZ p 0 d λq=>aZ p 1 d λr=>l5 ((Addr.mk 1 0 none).add 0) d λs=>l5 ((Addr.mk 1 0 none).add 1) d λt=>If (!((q==s)&&((r==t)&&true))) (bF a 0 d λv=>l5 ((Addr.mk 1 0 none).add 0) d λw=>l5 ((Addr.mk 1 0 none).add 1) d λx=>Ix v.a v.len f 2 λy=>aR y 0 (.bool w) d λz=>aR y 1 (.bool x) z λaa=>dZ aa λab=>bX a λac=>gE ab .m (ac.add 1) λ(ad:Option Nat)=>Mk 32 32 8 3 [.I 0] aa λae af=>And (ab af) <| kH .i64 .s ad f ae af λag=>bE a 2 ag λai=>bJ a 1 ag λak=>ru .i64 .s ak ag λal=>bX a λam=>aR am 2 (.I (if al>ai then al else ai)) ag λan=>m an) (m d)
theorem Zi.o {a b c d e}(f:Zi.v a b c d e):Zi.c a b c d e:=Wa Tryz.func105 (x:=Zi.h) (R0 f)
def Zh.h:Hn:=.q .o1 (.q (.q (.o 12) (.q .o1 (.c (.q .o6 .l) .l))) .aM)
def Zh.v (a:R2)(b:Int)(c:Hp)(d:aN):Prop:=bJ a 1 c λf=>Nz 32<|bM (b.tdiv 32) λg=>Lk .i64 .s f g c λh=>If h.isSome (Nz 32 <| Ix (h.getD ⟨none,0,0⟩).a (h.getD ⟨none,0,0⟩).len (b.tmod 32) 1 λi=>bN i c λj=>d j c) (d 0 c)
theorem Zh.o {a b c d}(e:Zh.v a b c d):Zh.c a b c d:=Wa Tryz.func110 (x:=Zh.h) (R0 e)
def X0.h:Hn:=.q .o1 (.q (.q .o3 .aK) (.q .o6 .l))
def X0.v (a:R2)(b:Hp)(c:aN):Prop:=XN.c a b λd e=>If (!d) (c 0 e) (bF a 0 e λg=>c ((g.len:Nat):Int) e)
theorem X0.o {a b c}(d:X0.v a b c):X0.c a b c:=Wa Tryz.func130 (x:=X0.h) (R0 d)
def XN.h:Hn:=.q .o1 (.q (.cW (.seq [.op,.op,.op,.cR true 6 (RI.ops 6),.op])) .l)
def XN.v (a:R2)(b:Hp)(c:aO):Prop:=bV (λd e=>c d e) λf=>If (!a.isNone) (bF a 0 b λh=>f (decide (((h.len:Nat):Int)>0)) b) (f false b)
theorem XN.o {a b c}(d:XN.v a b c):XN.c a b c:=Wa Tryz.func131 (x:=XN.h) (R0 d)
def Kh.h:Hn:=.q .o2 (.q (.q (.cW (.seq [.op,.op,.op,.cR false 2 [.op,.op]])) .aJ) (.q .o7 .l))
def Kh.v (a:Int)(b:Hp)(c:Option Addr->Int->Hp->Prop):Prop:=bV (λd e=>If d (c none 1 e) (Mk a a 2 181 [.bool false,.bool false] e λf g=>Nw (.map #[] 0) g λh i=>aV #[.slice f.a f.len f.cap,.map (some h.block),.I 0] 185 i λj k=>c (some j) 0 k)) λl=>If (a<1) (l true b) (l (decide (a>1024)) b)
theorem Kh.o {a b c}(d:Kh.v a b c):Kh.c a b c:=Wa Tryz.func153 (x:=Kh.h) (R0 d)
def Zl.h:Hn:=.q .o2 (.q (.k (.q .o4 (.c .aL (.q (.cW (.seq [.op,.op,.op,.cR false 2 [.op,.op],.op,.cR false 7 (RI.ops 7),.op,.cR false 9 (RI.ops 9),.op])) .aJ)))) (.q (.o 11) .l))
def Zl.v (a:R2)(b c:Int)(d:Hp)(e:Sl->Int->Hp->Prop):Prop:=XN.c a d λf g=>If (!f) (e ⟨none,0,0⟩ 5 g) (bV (λh i=>bV (λj k=>bV (λl m=>If l (e ⟨none,0,0⟩ 1 m) (bF a 0 m λo=>bM (b+c) λp=>fo o 2 b p (o.cap:Nat) λq=>e q 0 m)) λr=>If j (r true k) (bF a 0 k λt=>bM (((t.len:Nat):Int)-b) λu=>r (decide (c>u)) k)) λv=>If h (v true i) (bF a 0 i λx=>v (decide (b>((x.len:Nat):Int))) i)) λy=>If (b<0) (y true g) (y (decide (c<1)) g))
theorem Zl.o {a b c d e}(f:Zl.v a b c d e):Zl.c a b c d e:=Wa Tryz.func306 (x:=Zl.h) (R0 f)
def Zg.h:Hn:=.q .o1 (.q .o2 (.k (.loop [(8,.I)] (.q (.q .o5 (.c .l .l)) (.q (.k (.q (.cW (.tail 7 (RI.ops 7) [.op])) .o6)) .o3)))))
def Zg.v (a:R2)(b c:Int)(d e:Bool)(f:Hp)(g:aP):Prop:=aV #[.bool d,.bool e] 181 f λh i=>Ya [bO] (λj=>j b i) λk (l:Int) m=>bM (b+c) λn=>If (l<n) (bF a 0 m λp=>aZ h 0 m λq=>aZ h 1 m λr=>Ix p.a p.len l 2 λs=>aR s 0 (.bool q) m λt=>aR s 1 (.bool r) t λu=>bJ a 1 u λw=>lG .i64 .s w l u λx=>bM (l+1) λy=>k y x) (g m)
theorem Zg.o {a b c d e f g}(h:Zg.v a b c d e f g):Zg.c a b c d e f g:=Wa Tryz.func307 (x:=Zg.h) (R0 h)
def Zo.h:Hn:=.q .o1 (.q .o9 (.q (.k (.q .o3 (.c .aL (.q .o3 .aK)))) (.q .o5 .aM)))
def Zo.v (a:R2)(b c:Int)(d:Hp)(e:aN):Prop:=Zl.c a b c d λf g h=>If (g != 0) (e g h) (Wm.c f ⟨342,#[],#[]⟩ h λi j=>If i (e 5 j) (l5 ((Addr.mk 2 0 none).add 0) j λk=>l5 ((Addr.mk 2 0 none).add 1) j λl=>Zg.c a b c k l j λm=>e 0 m))
theorem Zo.o {a b c d e}(f:Zo.v a b c d e):Zo.c a b c d e:=Wa Tryz.func318 (x:=Zo.h) (R0 f)
def YJ.h:Hn:=.q .o2 (.q .o4 .l)
def YJ.v (a b:Bool)(c:Hp)(d:aO):Prop:=aV #[.bool a,.bool b] 181 c λe f=>aZ e 0 f λg=>aZ e 1 f λh=>l5 ((Addr.mk 0 0 none).add 0) f λi=>l5 ((Addr.mk 0 0 none).add 1) f λj=>d (!((g==i)&&((h==j)&&true))) f
theorem YJ.o {a b c d}(e:YJ.v a b c d):YJ.c a b c d:=Wa Tryz.func342 (x:=YJ.h) (R0 e)
end Go.Proofs
namespace Go.Ar
open Go Go.Vc Go.Proofs
open Go.Bu (Zt)
variable {U:Hp}{F:Rg}{p q r:Nat}{sp:Sp}
structure Gl (U:Hp):Prop where
 c0:cell U ⟨2,0,none⟩=some (.bool true)
 c1:cell U ⟨2,1,none⟩=some (.bool false)
 u0:cell U ⟨0,0,none⟩=some (.bool false)
 u1:cell U ⟨0,1,none⟩=some (.bool false)
structure Gc (U:Hp):Prop where
 d0:cell U ⟨1,0,none⟩=some (.bool true)
 d1:cell U ⟨1,1,none⟩=some (.bool true)
structure Gd (U:Hp):Prop where
 lt:1<U.size
def iW (F:Rg):Prop:=∀b,F b->b≠2/\b≠0
theorem KJ {h:Hp}{b o:Nat}{v:Value}(hc:cell h ⟨b,o,none⟩=some v):b<h.size:=(J7 hc).1
theorem Gl.bT {σ':Hp}(g:Gl U)(e:Ext F U σ')(hF:iW F):Gl σ':=by
 have b:¬F 2:=λh=>(hF _ h).1 rfl;have a:¬F 0:=λh=>(hF _ h).2 rfl;exact⟨(KF e (KJ g.c0) b).trans g.c0,(KF e (KJ g.c1) b).trans g.c1,(KF e (KJ g.u0) a).trans g.u0,(KF e (KJ g.u1) a).trans g.u1⟩
theorem Gc.bT {σ':Hp}(g:Gc U)(e:Ext F U σ')(hF:¬F 1):Gc σ':=⟨(KF e (KJ g.d0) hF).trans g.d0,(KF e (KJ g.d1) hF).trans g.d1⟩
theorem Gc.bP {σ':Hp}(g:Gc U)(e:bL U σ'):Gc σ':=g.bT e id
theorem Gd.bT {σ':Hp}(g:Gd U)(e:Ext F U σ')(hF:¬F 1):Gd σ':=⟨uu g.lt e.1⟩
theorem Gd.bP {σ':Hp}(g:Gd U)(e:bL U σ'):Gd σ':=g.bT e id
theorem Gc.gd (g:Gc U):Gd U:=⟨KJ g.d0⟩
theorem Gl.bP {σ':Hp}(g:Gl U)(e:bL U σ'):Gl σ':=g.bT e λ_ h=>h.elim
theorem iW.grow (hF:iW F)(g:Gl U):iW (Grow F U):=λb a=>by
 rcases a with h|h
 ·exact hF b h
 ·have d:=KJ g.c0;have e:=KJ g.u0;exact⟨O,O⟩
theorem iW.sub {G:Rg}(hF:iW F)(h:∀b,G b->F b):iW G:=λb a=>hF b (h b a)
def gp:Nat->Bool×Bool
 | 0=>(false,false)
 | 1=>(true,false)
 | _=>(true,true)
def gR (st:List Nat):List Value:=st.flatMap λx=>[.bool (gp x).1,.bool (gp x).2]
theorem VS (l:List Nat):(gR l).length=2*l.length:=by
 induction l with
 | nil=>rfl
 | cons x l ih=>simp only[gR,qm,zM,zV,lx]at *;omega
theorem DU {l:List Nat}{i x:Nat}(h:l[i]?=some x):(gR l)[2*i]?=some (.bool (gp x).1)/\(gR l)[2*i+1]?=some (.bool (gp x).2):=by
 induction l generalizing i with
 | nil=>simp at h
 | cons y l ih=>
  have e:gR (y::l)=[.bool (gp y).1,.bool (gp y).2]++gR l:=by simp[gR]
  rw[e];cases i with
  | zero=>simp at h;subst h;simp
  | succ i=>
   have:=ih (i:=i) (by simpa using h);rw[show 2*(i+1)=2*i+2 by omega];simpa using this
theorem EM {l:List Nat}{i v:Nat}(h:i<l.length)(rest:List Value):((gR l++rest).set (2*i) (.bool (gp v).1)).set (2*i+1) (.bool (gp v).2)=gR (l.set i v)++rest:=by
 induction l generalizing i with
 | nil=>simp at h
 | cons y l ih=>
  have e:∀z m,gR (z::m)=.bool (gp z).1 :: .bool (gp z).2::gR m:=λz m=>by simp[gR]
  cases i with
  | zero=>simp[e]
  | succ i=>
   have:=ih (i:=i) (by simpa using h);rw[rZ,e,e,show 2*(i+1)=2*i+1+1 by omega];simp only[lp,rZ];rw[this]
theorem AJ {x y:Nat}(hx:x<=2)(hy:y<=2):(((gp x).1==(gp y).1)&&(((gp x).2==(gp y).2)&&true))=(x==y):=by
 match x,y,hx,hy with
 | 0,0,_,_=>rfl
 | 1,1,_,_=>rfl
 | 2,2,_,_=>rfl
 | 0,1,_,_=>rfl
 | 0,2,_,_=>rfl
 | 1,0,_,_=>rfl
 | 1,2,_,_=>rfl
 | 2,0,_,_=>rfl
 | 2,1,_,_=>rfl
theorem KG {α:Type}(x:Int×α)(l:List (Int×α))(k:Int):bU (x::l) k=if x.1=k then some x.2 else bU l k:=by
 unfold bU;rw[uv];by_cases h:x.1=k
 ·simp[h]
 ·have:(x.1==k)=false:=by simpa using h
  rw[this,zB h]
theorem MS {α:Type}(l:List (Int×α))(n k:Int)(v:α):bU (l.map λx=>if x.1==n then(n,v)else x) k=if k=n then(if l.any (λx=>x.1==n)then some v else none)else bU l k:=by
 induction l with
 | nil=>simp[bU]
 | cons x l ih=>
  rw[zS,KG,ih,KG,List.any_cons];by_cases hx:x.1=n
  ·by_cases hk:k=n
   ·subst hk;simp[hx]
   ·have:¬n=k:=λe=>hk e.symm;simp[hx,hk,this]
  ·have a:(x.1==n)=false:=by simpa using hx
   simp only[a,zZ,zp,vJ];by_cases hk:k=n
   ·subst hk;simp[hx]
   ·simp[hk]
theorem JL {α:Type}(l:List (Int×α))(n k:Int)(v:α)(h:l.any (λx=>x.1==n)=false):bU (l++[(n,v)]) k=if k=n then some v else bU l k:=by
 induction l with
 | nil=>
  rw[sH,KG];by_cases hk:k=n
  ·simp[hk]
  ·have:¬n=k:=λe=>hk e.symm;simp[hk,this,bU]
 | cons x l ih=>
  rw[List.any_cons,Bool.or_eq_false_iff]at h;rw[lp,KG,ih h.2,KG];have a:¬x.1=n:=by simpa using h.1
  by_cases hk:k=n
  ·subst hk;simp[a]
  ·simp[hk]
theorem UO {α:Type}(l:List (Int×α))(n k:Int)(v:α):bU (dB l n v) k=if k=n then some v else bU l k:=by
 unfold dB;cases h:l.any (λx=>x.1==n)
 ·rw[zB aA,JL l n k v h]
 ·rw[zC rfl,MS,h];simp
theorem AB {α:Type}(l:List (Int×α))(n k:Int):bU (cT l n) k=if k=n then none else bU l k:=by
 unfold cT
 induction l with
 | nil=>simp[bU]
 | cons x l ih=>
  rw[tM,KG];by_cases hx:x.1=n
  ·have:(!(x.1==n))=false:=by simp[hx]
   rw[this];simp only[zZ,zp,ih];by_cases hk:k=n
   ·simp[hk]
   ·have:¬x.1=k:=λe=>hk (e.symm.trans hx);simp[hk,this]
  ·have:(!(x.1==n))=true:=by simpa using hx
   rw[this,zC rfl,KG,ih];by_cases hk:k=n
   ·subst hk;simp[hx]
   ·simp[hk]
theorem KK {α:Type}{l:List (Int×α)}{k:Int}{v:α}(h:bU l k=some v):(k,v)∈l:=by
 unfold bU at h;cases hf:l.find? (λx=>x.1==k)with
 | none=>rw[hf]at h;cases h
 | some x=>
  rw[hf]at h;have e:=tK hf;have b:=s7 hf;have d:x.1=k:=by simpa using e
  have a:x.2=v:=by simpa using h
  rw[←d,←a];exact b
theorem Po {α:Type}{l:List (Int×α)}{k:Int}:(bU l k).isSome=true↔k∈l.map (·.1):=by
 unfold bU;rw[Option.isSome_map,A3];simp
def Dw (U:Hp)(s:Sl)(b:Nat)(f:Nat->Int):Prop:=s.a=some ⟨b,0,none⟩/\s.len=32/\32<=s.cap/\∃cs,bZ U b cs/\32<=cs.length/\∀j,j<32->cs[j]?=some (.int .i64 (f j))
structure fG (U:Hp) (F:Rg) (p q r:Nat) (l:List (Int×Sl)) (B:Nat->Nat) (sp:Sp):Prop where
 hd:∃cap,sp.st.length<=cap/\bZ U p [.slice (some ⟨q,0,none⟩) sp.st.length cap,.map (some r),.int .i64 (sp.pk:Int)]
 row:∃rest,bZ U q (gR sp.st++rest)
 map:dJ U r .i64 .s l
 keys:∀x:Int,(bU l x).isSome=true↔∃k:Nat,x=k/\sp.st[k]?=some 2
 wd:∀(k:Nat) s,bU l (k:Int)=some s->Dw U s (B k) λj=>sp.wd (32*k+j)
 inj:∀k k':Nat,sp.st[k]?=some 2->sp.st[k']?=some 2->B k=B k'->k=k'
 out:∀k:Nat,sp.st[k]?=some 2->F (B k)/\B k≠p/\B k≠q/\B k≠r
 fs:F p/\F q/\F r/\p≠q/\p≠r/\q≠r
 zero:∀w:Nat,sp.st[w/32]?≠some 2->sp.wd w=0
 n1:1<=sp.st.length
 n2:sp.st.length<=1024
 sE:∀x∈sp.st,x<=2
 pk:sp.pk<=1024
def dN (U:Hp)(F:Rg)(p:Nat)(sp:Sp):Prop:=∃q r l B,fG U F p q r l B sp
theorem fG.entry {l:List (Int×Sl)}{B:Nat->Nat}(h:fG U F p q r l B sp){k:Nat}(hk:sp.st[k]?=some 2):∃s,bU l (k:Int)=some s/\Dw U s (B k) λj=>sp.wd (32*k+j):=by
 have:=(h.keys (k:Int)).2 ⟨k,rfl,hk⟩;obtain⟨s,a⟩:=oA.1 this;exact⟨s,a,h.wd k s a⟩
theorem fG.lT {l:List (Int×Sl)}{B:Nat->Nat}(h:fG U F p q r l B sp){k:Nat}{s:Sl}(hs:bU l (k:Int)=some s):sp.st[k]?=some 2:=by
 obtain⟨k',e,a⟩:=(h.keys (k:Int)).1 (by rw[hs];rfl);have:k=k':=by omega
 subst this;exact a
theorem dN.loc:dM λU F=>dN U F p sp:=λU M F G ⟨q,r,l,B,h⟩ P E=>by
 have d:∀{b:Nat} {i:List Value},bZ U b i->F b->bZ M b i/\G b:=by
  rintro b i ⟨e,D⟩ K;have:=E b (bZ.lt ⟨e,D⟩) K;exact⟨⟨e,this.2.trans D⟩,this.1⟩
 obtain⟨c,J,hd⟩:=h.hd;obtain⟨j,a⟩:=h.row;obtain⟨N,u,y,L⟩:=h.map;have m:=E r (jP.1 y).1 h.fs.2.2.1;refine⟨q,r,l,B,⟨c,J,(d hd h.fs.1).1⟩,⟨j,(d a h.fs.2.1).1⟩,⟨N,u,m.2.trans y,L⟩,h.keys,λk s g=>?_,h.inj,λk g=>?_,⟨(d hd h.fs.1).2,(d a h.fs.2.1).2,m.1,h.fs.2.2.2⟩,h.zero,h.n1,h.n2,h.sE,h.pk⟩
 ·obtain⟨x,C,A,i,w,z⟩:=h.wd k s g;exact⟨x,C,A,i,(d w (h.out k (h.lT g)).1).1,z⟩
 ·obtain⟨s,H,x,C,A,i,w,z⟩:=h.entry g;exact⟨(d w (h.out k g).1).2,(h.out k g).2⟩
theorem dN.bP {σ':Hp}(h:dN U F p sp)(e:bL U σ'):dN σ' F p sp:=dM.bP dN.loc h e
variable {l:List (Int×Sl)}{B:Nat->Nat}
theorem fG.rS (h:fG U F p q r l B sp){K:Sl->Prop}(hK:∀cap,sp.st.length<=cap->K ⟨some ⟨q,0,none⟩,sp.st.length,cap⟩):ju (Addr.add ⟨p,0,none⟩ 0) U K:=by
 obtain⟨c,a,hd⟩:=h.hd;exact hd.rS rfl (hK c a)
theorem fG.rM (h:fG U F p q r l B sp){K:Option Nat->Prop}(hK:K (some r)):lr (Addr.add ⟨p,0,none⟩ 1) U K:=by
 obtain⟨c,a,hd⟩:=h.hd;exact hd.rM rfl hK
theorem fG.yW (h:fG U F p q r l B sp){i x:Nat}(hx:sp.st[i]?=some x){K:Bool->Bool->Prop}(hK:K (gp x).1 (gp x).2):l5 (Addr.add ⟨q,2*i,none⟩ 0) U λa=>l5 (Addr.add ⟨q,2*i,none⟩ 1) U λb=>K a b:=by
 obtain⟨e,d⟩:=h.row;have j:=(cZ.1 hx).1;have g:=DU hx;refine d.rB (x:=(gp x).1) ?_ (d.rB (x:=(gp x).2) ?_ hK)
 ·rw[kc,zd (by rw[VS];omega)];exact g.1
 ·rw[zd (by rw[VS];omega)];exact g.2
theorem B4 (h:dN U F p sp){R:aO}(hR:R true U):XN.c (aW p) U R:=by
 refine XN.o ?_;unfold XN.v;obtain⟨q,r,l,B,h⟩:=h;have:=h.n1;refine bV.intro (cD rfl (aG (h.rS λcap _=>?_)));rw[zJ aC];exact hR
theorem D6 (h:dN U F p sp){R:aN}(hR:R (sp.st.length:Int) U):X0.c (aW p) U R:=by
 refine X0.o ?_;unfold X0.v;have a:=h;obtain⟨q,r,l,B,h⟩:=h;exact B4 a (cE rfl (aG (h.rS λcap _=>hR)))
theorem fG.wx (h:fG U F p q r l B sp):l.length=sp.st.count 2:=by
 have m:=h.map.nodup;have j:(l.map (·.1)).Perm (((List.range sp.st.length).filter λk=>sp.st[k]?==some 2).map λk=>((k:Nat):Int)):=by
  rw[CB m]
  ·intro x;rw[←Po,h.keys];simp only[zF,zI,zh,zT];constructor
   ·rintro⟨k,rfl,hk⟩;exact⟨k,⟨(cZ.1 hk).1,hk⟩,rfl⟩
   ·rintro⟨k,⟨_,hk⟩,rfl⟩;exact⟨k,rfl,hk⟩
  ·have d:((List.range sp.st.length).filter λk=>sp.st[k]?==some 2).Pairwise (· ≠ ·):=List.Pairwise.sublist tf List.nodup_range;exact List.Pairwise.map _ (λa b (g:a≠b) e=>g (by exact_mod_cast e)) d
 have i:=j.length_eq;simp only[zk]at i;rw[i,←yR];have key:∀st:List Nat,(List.range st.length).countP (λk=>st[k]?==some 2)=st.count 2:=by
  intro st
  induction st with
  | nil=>rfl
  | cons x st ih=>
   rw[zV,List.range_succ_eq_map,wA,List.countP_map,List.count_cons,←ih]
   congr 1
 exact key sp.st
end Go.Ar
namespace Go.Ar
open Go Go.Vc Go.Proofs
open Go.Bu (Zt)
variable {U:Hp}{F:Rg}{p q r:Nat}{sp:Sp}{l:List (Int×Sl)}{B:Nat->Nat}
theorem Od (l:List Nat)(n:Nat):gR (l.take n)=(gR l).take (2*n):=by
 induction l generalizing n with
 | nil=>simp[gR]
 | cons y l ih=>
  have e:∀z m,gR (z::m)=.bool (gp z).1 :: .bool (gp z).2::gR m:=λz m=>by simp[gR]
  cases n with
  | zero=>simp[gR]
  | succ n=>
   rw[yd,e,e,ih,show 2*(n+1)=2*n+1+1 by omega];simp
theorem T2 (l:List Nat)(n:Nat):gR (l.drop n)=(gR l).drop (2*n):=by
 induction l generalizing n with
 | nil=>simp[gR]
 | cons y l ih=>
  have e:∀z m,gR (z::m)=.bool (gp z).1 :: .bool (gp z).2::gR m:=λz m=>by simp[gR]
  cases n with
  | zero=>simp[gR]
  | succ n=>
   rw[uM,e,ih,show 2*(n+1)=2*n+1+1 by omega];simp
theorem LY (n v:Nat):gR (List.replicate n v)=(List.replicate n [Value.bool (gp v).1,.bool (gp v).2]).flatten:=by
 induction n with
 | zero=>rfl
 | succ n ih=>rw[sd,sd,vu,←ih];simp[gR]
theorem _root_.Go.Vc.cV.yW {s:Sl}{l:List Nat}(h:cV s 2 (gR l) U F){i x:Nat}(hx:l[i]?=some x){K:Bool->Bool->Prop}(hK:K (gp x).1 (gp x).2) :
 Ix s.a s.len (i:Int) 2 λa=>l5 (a.add 0) U λu=>l5 (a.add 1) U λw=>K u w:=by
 have y:=(cZ.1 hx).1;have g:=DU hx;obtain⟨b,o,j,m⟩:=h.cell g.1;obtain⟨r,o1,d,e⟩:=h.cell g.2;rw[j]at d;cases d;have p:=h.1;rw[VS]at p;rw[j];refine ix O O ?_;rw[add_lit];refine nv ?_ (nv ?_ hK)<;>rw[add_lit]
 ·rw[show o+(i:Int).toNat*2+0=o+2*i by omega];exact m
 ·rw[show o+(i:Int).toNat*2+1=o+(2*i+1) by omega];exact e
theorem _root_.Go.Vc.cV.wF {s:Sl}{l:List Nat}(h:cV s 2 (gR l) U F):s.len=l.length:=by
 have:=h.1;rw[VS]at this;omega
theorem OM {s:Sl}{xs:List Nat}(h:cV s 2 (gR xs) U F)(hl:xs.length<=1000000)(h2:∀x∈xs,x<=2){v:Nat}(hv:v<=2){R:aN}
 (hR:∀(t:Int) σ',bL U σ'->decide (t≥0)=xs.contains v->R t σ'):Wz.c s (gp v).1 (gp v).2 U R:=by
 refine Wz.o ?_;unfold Wz.v;have y:=h.wF;refine nw (cs:=[.bool (gp v).1,.bool (gp v).2]) λw G e A=>?_;have h:=aH.bP h e;refine Qg (a:=bO) (λ(t:Int) u=>∃i:Nat,t=(i:Int)/\i<=xs.length/\u=w/\∀j,j<i->xs[j]?≠some v) (λt _=>xs.length-t.toNat) ⟨0,rfl,O,rfl,λj g=>O⟩ ?_;rintro t u ⟨i,rfl,E,rfl,b⟩;refine cQ (λD=>?_) λC=>?_
 ·have d:i<xs.length:=by omega
  have z:xs[i]?=some xs[i]:=cX d;refine A.rB rfl (A.rB rfl (h.yW z ?_));rw[AJ hv (h2 _ (ka d))];refine cU (λp=>?_) λp=>?_
  ·have:v=xs[i]:=by simpa using p
   refine hR _ _ e ?_;have B:xs.contains v=true:=by rw[this];simp
   rw[B,zJ O]
  ·have r:¬v=xs[i]:=by simpa using p
   refine cS (m:=i+1) O O ⟨⟨i+1,rfl,O,rfl,λj g=>?_⟩,O⟩;by_cases e:j=i
   ·subst e;rw[z];intro e2;cases e2;exact r rfl
   ·exact b j O
 ·refine hR _ _ e ?_;have:xs.contains v=false:=by
   simp only[r4,decide_eq_false_iff_not];intro hm;obtain⟨j,g⟩:=zO hm;have:=(cZ.1 g).1;exact b j O g
  rw[this];rfl
theorem Lq {s:Sl}{xs:List Nat}(h:cV s 2 (gR xs) U F)(hl:xs.length<=1000000)(h2:∀x∈xs,x<=2){v:Nat}(hv:v<=2){R:aO}
 (hR:∀σ',bL U σ'->R (xs.contains v) σ'):Wr.c s (gp v).1 (gp v).2 U R:=by
 refine Wr.o ?_;unfold Wr.v;refine nw (cs:=[.bool (gp v).1,.bool (gp v).2]) λw g e a=>a.rB rfl (a.rB rfl ?_);refine OM (aH.bP h e) hl h2 hv λt σ' b d=>?_;rw[d];exact hR σ' (Ext.trans e b)
theorem MR (g:Gl U){x:Nat}(hx:x<=2){R:aO}(hR:∀σ',bL U σ'->R (x != 0) σ'):YJ.c (gp x).1 (gp x).2 U R:=by
 refine YJ.o ?_;unfold YJ.v;refine nw (cs:=[.bool (gp x).1,.bool (gp x).2]) λv d e a=>a.rB rfl (a.rB rfl ?_);have g:=g.bP e;refine nv (by rw[←g.u0];rfl) (nv (by rw[←g.u1];rfl) ?_);have b:(((gp x).1==false)&&(((gp x).2==false)&&true))=(x==0):=AJ hx (y:=0) O;rw[b];exact hR v e
theorem Pp {s:Sl}{xs:List Nat}(h:cV s 2 (gR xs) U F)(g:Gl U)(hl:xs.length<=1000000)(h2:∀x∈xs,x<=2){R:aO}
 (hR:∀σ',bL U σ'->R (xs.any (· != 0)) σ'):Wm.c s ⟨342,#[],#[]⟩ U R:=by
 refine Wm.o ?_;unfold Wm.v;refine Ww.o ?_;unfold Ww.v;have z:=h.wF;refine Qg (a:=bO) (λ(t:Int) C=>∃i:Nat,t=(i:Int)/\i<=xs.length/\bL U C/\∀(j x:Nat),j<i->xs[j]?=some x->x=0) (λt _=>xs.length-t.toNat) ⟨0,rfl,O,Ext.refl _ _,λj x r=>O⟩ ?_;rintro t w ⟨i,rfl,H,e,p⟩;refine cQ (λE=>?_) λG=>?_
 ·have b:i<xs.length:=by omega
  have B:xs[i]?=some xs[i]:=cX b;refine(aH.bP h e).yW B ?_;refine GR (all := #[.agg #[.bool (gp xs[i]).1,.bool (gp xs[i]).2]]) (by kernel_rfl) aA ?_;refine MR (g.bP e) (h2 _ (ka b)) λD A=>?_;refine cU (λu=>?_) λu=>?_
  ·have:xs.any (· != 0)=true:=zy.2 ⟨_,ka b,u⟩;have:=hR D (Ext.trans e A);rw[‹xs.any (· != 0)=true›]at this;show R (decide ((i:Int)≥0)) _;rw[zJ O];exact this
  ·have y:xs[i]=0:=by simpa using u
   refine cS (m:=i+1) O O ⟨⟨i+1,rfl,O,Ext.trans e A,λj x r d=>?_⟩,O⟩;by_cases e:j=i
   ·subst e;rw[B]at d;cases d;exact y
   ·exact p j x O d
 ·have:xs.any (· != 0)=false:=by
   rw[mc];intro x hm;obtain⟨j,r⟩:=zO hm;have:=(cZ.1 r).1;simpa using p j x O r
  have:=hR w e;rw[‹xs.any (· != 0)=false›]at this;exact this
theorem fG.part (h:fG U F p q r l B sp){x y c:Nat}(hl:x+y<=sp.st.length):cV ⟨some ⟨q,2*x,none⟩,y,c⟩ 2 (gR ((sp.st.drop x).take y)) U F:=by
 obtain⟨d,b⟩:=h.row;have a:(gR ((sp.st.drop x).take y)).length=y*2:=by rw[VS,zY,kg];omega
 refine⟨a,.inr ⟨q,2*x,_,h.fs.2.1,rfl,b.q,λj e=>?_⟩⟩;rw[a]at e;rw[zd (by rw[VS];omega),Od,T2,zj,zC O,kQ]
theorem MM (h:dN U F p sp)(a m:Int){R:Sl->Int->Hp->Prop}(h0:Zt sp.st.length a m=false->R ⟨none,0,0⟩ 1 U)
 (h1:∀(x y:Nat) s,a=x->m=y->1<=y->x+y<=sp.st.length->cV s 2 (gR ((sp.st.drop x).take y)) U F->R s 0 U):Zl.c (aW p) a m U R:=by
 refine Zl.o ?_;unfold Zl.v;have g:=h;obtain⟨q,r,l,B,h⟩:=h;have n2:=h.n2;have b:¬(0<=a/\1<=m/\m<=sp.st.length-a)->R ⟨none,0,0⟩ 1 U:=λj=>h0 (by simp only[Zt,←uN];exact zL j);refine B4 g (cE rfl (bV.intro (cQ (λA=>bV.intro (cD rfl (bV.intro (cD rfl (cD rfl (b O)))))) λA=>?_)));refine bV.intro (cQ (λw=>bV.intro (cD rfl (cD rfl (b O)))) λw=>aG (h.rS λcap d=>?_));simp only;refine bV.intro (cQ (λz=>cD rfl (b O)) λz=>?_);refine aG (h.rS λcap d=>ar aC aC ?_);simp only;refine cQ (λi=>b O) λi=>?_;obtain⟨x,rfl⟩:=zc (show 0<=a by omega);obtain⟨y,rfl⟩:=zc (show 0<=m by omega);refine aG (h.rS λcap d=>cS (m:=x+y) O O ?_);refine jj O aC (zD _) ?_;simp only;rw[zB O];refine h1 x y _ rfl rfl O O ?_;have:=h.part (x:=x) (y:=y) (c:=cap-x) O;have e:(Option.map (λ(u:Addr)=>u.add (x*2)) (some (⟨q,0,none⟩:Addr)))=some ⟨q,2*x,none⟩:=by
  simp only[ze,add_lit];congr 2;omega
 rw[e,Ck];exact this
def Sp.jQ (s:Sp)(k v:Nat):Sp:={s with st:=s.st.set k v,wd:=λw=>if k*32<=w/\w<(k+1)*32 then 0 else s.wd w}
theorem EH {st:List Nat}(h:∀x∈st,x<=2){k v:Nat}(hv:v<=2):∀x∈st.set k v,x<=2:=by
 intro x hx;rcases Ak hx with h1|h1
 ·exact h x h1
 ·omega
theorem fG.jQ (h:fG U F p q r l B sp){k v:Nat}(hk:k<sp.st.length)(hv:v<=1){σ':Hp}(e:Ext (λb=>b=q\/b=r) U σ'){rest:List Value}
 (hb:bZ σ' q (gR (sp.st.set k v)++rest)) (hm:dJ σ' r .i64 .s (cT l (k:Int))):fG σ' F p q r (cT l (k:Int)) B (sp.jQ k v):=by
 have a:∀j:Nat,(sp.st.set k v)[j]?=some 2↔j≠k/\sp.st[j]?=some 2:=λj=>by
  rw[nm];by_cases hjk:k=j
  ·subst hjk;rw[zC rfl,zC hk];constructor
   ·intro h;have:v=2:=by simpa using h
    omega
   ·intro h;exact absurd rfl h.1
  ·rw[zB hjk];exact⟨λh=>⟨λe=>hjk e.symm,h⟩,λh=>h.2⟩
 obtain⟨c,A,hd⟩:=h.hd;have E:¬(p=q\/p=r):=by have:=h.fs;omega
 refine⟨⟨c,by simpa[Sp.jQ]using A,by simpa[Sp.jQ]using e.bW hd E⟩,⟨rest,hb⟩,hm,λx=>?_,λj s g=>?_,λj y D m=>?_,λj d=>?_,h.fs,λw u=>?_,by simpa[Sp.jQ]using h.n1,by simpa[Sp.jQ]using h.n2,EH h.sE O,h.pk⟩
 ·rw[AB];by_cases hx:x=(k:Int)
  ·rw[zC hx];constructor
   ·intro h;cases h
   ·rintro⟨j,rfl,d⟩;have:=(a j).1 d;omega
  ·rw[zB hx,h.keys];constructor
   ·rintro⟨j,rfl,d⟩;exact⟨j,rfl,(a j).2 ⟨O,d⟩⟩
   ·rintro⟨j,rfl,d⟩;exact⟨j,rfl,((a j).1 d).2⟩
 ·rw[AB]at g;by_cases hx:(j:Int)=(k:Int)
  ·rw[zC hx]at g;cases g
  ·rw[zB hx]at g;obtain⟨z,M,J,K,L,G,H⟩:=h.wd j s g;have N:=h.out j (h.lT g);refine⟨z,M,J,K,e.bW L O,G,λi C=>?_⟩;rw[H i C];simp only[Sp.jQ];rw[zB O]
 ·exact h.inj j y ((a j).1 D).2 ((a y).1 m).2
 ·exact h.out j ((a j).1 d).2
 ·simp only[Sp.jQ]at u ⊢;by_cases hin:k*32<=w/\w<(k+1)*32
  ·rw[zC hin]
  ·rw[zB hin];refine h.zero w λm=>u ((a _).2 ⟨O,m⟩)
theorem Sp.oR (s:Sp)(a v:Nat):s.set a 0 v=s:=by
 have b:gA s.st a (a+0) v=s.st:=by
  apply zo;intro i;rw[HG];cases s.st[i]? with
  | none=>rfl
  | some x=>simp only[ze];rw[zB O]
 have d:(λw=>if a*32<=w/\w<(a+0)*32 then 0 else s.wd w)=s.wd:=by
  funext w;rw[zB O]
 simp only[Sp.set,b,d]
theorem Sp.pH (s:Sp)(a m v:Nat)(h:a+m<s.st.length):(s.set a m v).jQ (a+m) v=s.set a (m+1) v:=by
 have b:(gA s.st a (a+m) v).set (a+m) v=gA s.st a (a+(m+1)) v:=by
  apply zo;intro i;rw[nm,HG,HG,Vf];by_cases hi:a+m=i
  ·subst hi;rw[zC rfl,zC h,cX h,ze,zC O]
  ·rw[zB hi];cases s.st[i]? with
   | none=>rfl
   | some x=>
    simp only[ze];by_cases hin:a<=i/\i<a+m
    ·rw[zC hin,zC O]
    ·rw[zB hin,zB O]
 have d:(λw=>if(a+m)*32<=w/\w<(a+m+1)*32 then 0 else(if a*32<=w/\w<(a+m)*32 then 0 else s.wd w))=λw=>if a*32<=w/\w<(a+(m+1))*32 then 0 else s.wd w:=by
  funext w
  by_cases b:(a+m)*32<=w/\w<(a+m+1)*32
  ·rw[zC b,zC O]
  ·rw[zB b];by_cases d:a*32<=w/\w<(a+m)*32
   ·rw[zC d,zC O]
   ·rw[zB d,zB O]
 simp only[Sp.set,Sp.jQ,b,d]
theorem OR (h:dN U F p sp){x y v:Nat}(hl:x+y<=sp.st.length)(hv:v<=1){R:aP}(hR:∀σ',Ext F U σ'->dN σ' F p (sp.set x y v)->R σ') :
 Zg.c (aW p) x y (gp v).1 (gp v).2 U R:=by
 refine Zg.o ?_;unfold Zg.v;have Y:sp.st.length<=1024:=by obtain⟨q,r,l,B,h⟩:=h;exact h.n2
 have s:dN U (Cut F U) p sp:=dM.cut dN.loc h;refine nw (cs:=[.bool (gp v).1,.bool (gp v).2]) λu hz e g=>?_;have Q:=s.bP e;refine Qg (a:=bO) (λ(t:Int) w=>∃i:Nat,t=((x+i:Nat):Int)/\i<=y/\Ext (Cut F U) u w/\bZ w U.size [.bool (gp v).1,.bool (gp v).2]/\dN w (Cut F U) p (sp.set x i v)) (λt _=>x+y-t.toNat)
  ⟨0,rfl,O,Ext.refl _ _,g,by rw[Sp.oR];exact Q⟩ ?_
 rintro t w ⟨i,rfl,hi,K,j,q,r,l,B,d⟩;refine cS (m:=x+y) O O (cQ (λZ=>?_) λW=>?_)
 ·have J:(sp.set x i v).st.length=sp.st.length:=Vf _ _ _ _;refine aG (d.rS λcap E=>j.rB rfl (j.rB rfl (ix O aC ?_)));rw[add_lit,show 0+((x+i:Nat):Int).toNat*2=2*(x+i) by omega];obtain⟨H,z⟩:=d.row;have N:x+i<(sp.set x i v).st.length:=by omega
  refine z.s1 (by rw[zM,VS];omega) λw1 o1 S=>S.s1 (by rw[oZ,zM,VS];omega) λw2 o2 L=>?_;rw[kc,EM N]at L;have e2:Ext (· = q) w w2:=o1.ext.trans o2.ext;obtain⟨c,X,hd⟩:=d.hd;have C:=e2.bW hd d.fs.2.2.2.1;refine aG (C.rM rfl ⟨l,e2.fR d.map (λe=>d.fs.2.2.2.2.2 e.symm),λw3 D _ A=>?_⟩);have o3:=D r rfl;have G:Ext (λb=>b=q\/b=r) w w3:=(e2.sub λb g=>.inl g).trans (o3.ext.sub λb g=>.inr g);have M:=d.jQ N hv G (WH o3 L d.fs.2.2.2.2.2) A;rw[Sp.pH _ _ _ _ O]at M;have P:Ext (Cut F U) w w3:=G.sub λb g=>by
   rcases g with rfl|rfl
   ·exact d.fs.2.1
   ·exact d.fs.2.2.1
  refine cS (m:=x+(i+1)) O O ⟨⟨i+1,rfl,O,K.trans P,P.bW j λV=>by have:=V.2;omega,_,_,_,_,M⟩,O⟩
 ·have:i=y:=by omega
  subst this;refine hR w (Ext.cut (e.to.trans K)) (dM.mono dN.loc ⟨q,r,l,B,d⟩ λb _ g=>g.1)
theorem LX (h:dN U F p sp)(g:Gl U)(hF:iW F)(a m:Int){R:aN}(hR:∀σ',Ext F U σ'->dN σ' F p (fW sp a m)->R (fA sp a m) σ') :
 Zo.c (aW p) a m U R:=by
 refine Zo.o ?_;unfold Zo.v;have i:(∀x∈sp.st,x<=2)/\sp.st.length<=1024:=by obtain⟨q,r,l,B,h⟩:=h;exact⟨h.sE,h.n2⟩
 refine MM h a m (λe=>?_) λx y s E u K J D=>?_
 ·have e1:fA sp a m=1:=by unfold fA;rw[e];rfl
  have e2:fW sp a m=sp:=by unfold fW;rw[e1];rfl
  have:=hR U (Ext.refl _ _);rw[e1,e2]at this;exact cD rfl (this h)
 ·subst E;subst u;have e:Zt sp.st.length (x:Int) (y:Int)=true:=by simp only[Zt,zE,zU];omega
  refine cE rfl (Pp D g (by rw[zY,kg];omega) (λz C=>i.1 z (tG (uK C))) λw e1=>?_);have d:fA sp x y=if((sp.st.drop x).take y).any (· != 0)then 5 else 0:=by unfold fA;rw[e];rfl
  refine cU (λb=>?_) λb=>?_
  ·rw[b]at d;have e2:fW sp x y=sp:=by unfold fW;rw[d];rfl
   have:=hR w (bL.to e1);rw[d,e2]at this;exact this (h.bP e1)
  ·rw[b]at d;have e2:fW sp x y=sp.set x y 1:=by unfold fW;rw[d];rfl
   have j:=g.bP e1;refine nv (by rw[←j.c0];rfl) (nv (by rw[←j.c1];rfl) ?_);refine OR (v:=1) (h.bP e1) J O λH A G=>?_;have:=hR H (Ext.trans (bL.to e1) A);rw[d,e2]at this;exact this G
theorem DW (h:dN U F p sp)(g:Gl U)(x:Int)(hx:x<=9223372036854775807){R:aN}(hR:∀σ',bL U σ'->R (eO sp x) σ') :
 XF.c (aW p) x 1 U R:=by
 refine XF.o ?_;unfold XF.v;have D:=h;obtain⟨q,r,l,B,h⟩:=h;have n2:=h.n2;have d:(x<0\/x%8≠0)->R 7 U:=λj=>by
  have:=hR U (Ext.refl _ _);unfold eO at this;rw[zC j]at this;exact this
 refine B4 D (cE rfl (cE rfl (bV.intro (cQ (λC=>cD rfl (d (.inl C))) λC=>nz aB ?_))));obtain⟨y,rfl⟩:=zc (show 0<=x by omega);refine cU (λi=>?_) λi=>?_
 ·refine d (.inr ?_);rw[Kg O]at i;simpa using i
 have K:y%8=0:=by
  rw[Kg O]at i;have:((y:Int)%8)=0:=by simpa using i
  omega
 have ok:¬((y:Int)<0\/(y:Int)%8≠0):=by omega
 refine nz aB (cS (m:=y/256) (by rw[YK O];simp) O (nz aB (cS (m:=y/8) (by rw[YK O];simp) O ?_)));refine cS (m:=y/8+1) O O (cS (m:=y/8) O O (nz aB (cS (m:=y/256) (by rw[YK O];simp;omega) O ?_)));have fin:∀(b:Bool) σ',bL U σ'->(b=true↔sp.st.getD (y/256) 0=0)->If b (R 7 σ') (R 0 σ'):=λb σ' e j=>by
  have:=hR σ' e;unfold eO at this;rw[zB ok]at this;refine cU (λh=>?_) λh=>?_
  ·rw[zC (by simpa using j.1 h)]at this;exact this
  ·rw[zB (λH=>by rw[j.2 (by simpa using H)]at h;cases h)]at this;exact this
 obtain⟨c,J,hd⟩:=h.hd;refine Jn.intro ⟨λm=>bZ m p [.slice (some ⟨q,0,none⟩) sp.st.length c,.map (some r),.int .i64 (sp.pk:Int)]/\Gl m,⟨hd,g⟩,?_⟩;refine aG ⟨⟨some ⟨q,0,none⟩,sp.st.length,c⟩,λm a=>by rw[add_lit,a.1.cell];rfl,?_⟩;refine cQ (λs=>?_) λs=>?_
 ·simp only at s;refine fin _ U (Ext.refl _ _) ⟨λ_=>?_,λ_=>rfl⟩;rw[zQ,zW O];rfl
 simp only at s;refine aG ⟨⟨some ⟨q,0,none⟩,sp.st.length,c⟩,λm a=>by rw[add_lit,a.1.cell];rfl,?_⟩;refine cS (m:=y/256+1) O O (jj O aC (zD _) ?_);simp only;rw[zB O];refine⟨false,λm a=>a.2.u0,⟨false,λm a=>a.2.u1,?_⟩⟩;have e:(Option.map (λ(u:Addr)=>u.add (y/256*2)) (some (⟨q,0,none⟩:Addr)))=some ⟨q,2*(y/256),none⟩:=by
  simp only[ze,add_lit];congr 2;omega
 rw[e,Ck];have E:=h.part (x:=y/256) (y:=1) (c:=c-y/256) O;refine Lq (v:=0) E (by rw[zY,kg];omega) (λz G=>h.sE z (tG (uK G))) O λσ' w=>?_;refine⟨⟨w.bW hd id,g.bP w⟩,fin _ σ' w ?_⟩;have A:y/256<sp.st.length:=by omega
 rw[zQ,cX A,C3 A,yd,Al];simp[eq_comm]
theorem Mz (h:dN U F p sp){w:Nat}(hw:w<=2305843009213693952){R:aN}(hR:R (sp.wd w) U):Zh.c (aW p) (w:Int) U R:=by
 refine Zh.o ?_;unfold Zh.v;obtain⟨q,r,l,B,h⟩:=h;refine aG (h.rM (nz aB (cS (m:=w/32) (by rw[YK O];simp) O ⟨l,h.map,?_⟩)));cases hg:bU l ((w/32:Nat):Int)with
 | none=>
  refine cE rfl ?_;have:sp.st[w/32]?≠some 2:=λe=>by
   have:=(h.keys _).2 ⟨_,rfl,e⟩;rw[hg]at this;cases this
  rw[h.zero w this]at hR;exact hR
 | some s=>
  obtain⟨a,x,j,u,g,i,b⟩:=h.wd _ s hg;refine cD rfl (nz aB ?_);simp only[qk];have d:((w:Int).tmod 32)=((w%32:Nat):Int):=by rw[Kg O];simp
  rw[a,d];refine ix O O ?_;rw[add_lit];refine g.tZ ?_ hR;rw[show 0+((w%32:Nat):Int).toNat*1=w%32 by omega,b _ O];simp only;rw[show 32*(w/32)+w%32=w by omega]
theorem OY (h:dN U F p sp)(g:Gl U)(x:Int)(hx:x<=9223372036854775807){R:Int->Int->Hp->Prop}(hR:∀σ',bL U σ'->R (if eO sp x=0 then sp.wd (x.toNat/8)else 0) (eO sp x) σ') :
 YV.c (aW p) x U R:=by
 refine YV.o ?_;unfold YV.v;refine DW h g x hx λσ' e=>?_;have:=hR σ' e;refine cU (λb=>?_) λb=>?_
 ·have d:¬eO sp x=0:=by simpa using b
  rw[zB d]at this;exact this
 ·have a:eO sp x=0:=by simpa using b
  rw[zC a,a]at this;have i:0<=x:=by
   rcases(by omega:x<0\/0<=x)with hlt|hge
   ·unfold eO at a;rw[zC (.inl hlt)]at a;cases a
   ·exact hge
  obtain⟨y,rfl⟩:=zc i;exact nz aB (cS (m:=y/8) (by rw[YK O];simp) O (Mz (h.bP e) O this))
theorem fG.Bg (h:fG U F p q r l B sp){k:Nat}(hk:k<sp.st.length)(hn:sp.st[k]?≠some 2){σ':Hp}{b:Nat}{s:Sl}{T:Rg}(e:Ext T U σ')(hT:∀i,i<U.size->T i->i=q\/i=r)(hz:U.size<=b){rest:List Value}
 (hb:bZ σ' q (gR (sp.st.set k 2)++rest)) (hm:dJ σ' r .i64 .s (dB l (k:Int) s)) (ha:s.a=some ⟨b,0,none⟩) (hl:s.len=32) (hc:s.cap=32) (hw:bZ σ' b (List.replicate 32 (.int .i64 0))) :
 fG σ' (Grow F U) p q r (dB l (k:Int) s) (λj=>if j=k then b else B j) {sp with st:=sp.st.set k 2}:=by
 have u:∀j:Nat,(sp.st.set k 2)[j]?=some 2↔j=k\/sp.st[j]?=some 2:=λj=>by
  rw[nm];by_cases hjk:k=j
  ·subst hjk;rw[zC rfl,zC hk];simp
  ·rw[zB hjk];exact⟨λh=>.inr h,λh=>h.resolve_left λe=>hjk e.symm⟩
 obtain⟨c,H,hd⟩:=h.hd;obtain⟨_,A⟩:=h.row;have S:=hd.lt;have V:=A.lt;have W:=h.map.lt;have X:=e.1;have g:=h.fs;have C:∀{j:Nat},sp.st[j]?=some 2->B j<U.size:=λ{j} d=>by
  obtain⟨t,_,_,_,_,cs,G,_⟩:=h.entry d;exact G.lt
 have cY:∀{i:Nat} {cs:List Value},bZ U i cs->i≠q->i≠r->bZ σ' i cs:=λ{i cs} D E y=>e.bW D λR=>by
  rcases hT i D.lt R with h|h
  ·exact E h
  ·exact y h
 refine⟨⟨c,by simpa using H,by simpa using cY hd g.2.2.2.1 g.2.2.2.2.1⟩,⟨rest,hb⟩,hm,λx=>?_,λj t d=>?_,λj z E y m=>?_,λj d=>?_,⟨.inl g.1,.inl g.2.1,.inl g.2.2.1,g.2.2.2⟩,λw J=>?_,by simpa using h.n1,by simpa using h.n2,EH h.sE O,h.pk⟩
 ·rw[UO];by_cases hx:x=(k:Int)
  ·rw[zC hx];subst hx;simp only[Option.isSome_some,true_iff];exact⟨k,rfl,(u k).2 (.inl rfl)⟩
  ·rw[zB hx,h.keys];constructor
   ·rintro⟨j,rfl,d⟩;exact⟨j,rfl,(u j).2 (.inr d)⟩
   ·rintro⟨j,rfl,d⟩;exact⟨j,rfl,((u j).1 d).resolve_left O⟩
 ·rw[UO]at d;by_cases hx:(j:Int)=(k:Int)
  ·have:j=k:=by omega
   subst this;rw[zC rfl]at d;cases d;rw[zC rfl];refine⟨ha,hl,O,_,hw,by simp,λi D=>?_⟩;rw[mR,zC D];simp only;rw[h.zero _ (by rw[show(32*j+i)/32=j by omega];exact hn)]
  ·rw[zB hx]at d;obtain⟨L,P,N,cs,G,M,Q⟩:=h.wd j t d;have K:=h.out j (h.lT d);rw[zB O];exact⟨L,P,N,cs,cY G K.2.2.1 K.2.2.2,M,Q⟩
 ·by_cases e1:j=k
  ·by_cases e2:z=k
   ·omega
   ·rw[zC e1,zB e2]at m;have:=C (((u z).1 y).resolve_left e2);omega
  ·rw[zB e1]at m;by_cases e2:z=k
   ·rw[zC e2]at m;have:=C (((u j).1 E).resolve_left e1);omega
   ·rw[zB e2]at m;exact h.inj j z (((u j).1 E).resolve_left e1) (((u z).1 y).resolve_left e2) m
 ·by_cases e1:j=k
  ·rw[zC e1];exact⟨.inr hz,O,O,O⟩
  ·rw[zB e1];have:=h.out j (((u j).1 d).resolve_left e1);exact⟨.inl this.1,this.2⟩
 ·refine h.zero w λy=>J ((u _).2 (.inr y))
theorem fG.AD (h:fG U F p q r l B sp){σ':Hp}{n c:Nat}(hn:n<=1024)(ho:QR U σ' p)(hc:sp.st.length<=c)(hb:bZ σ' p [.slice (some ⟨q,0,none⟩) sp.st.length c,.map (some r),.int .i64 (n:Int)]):fG σ' F p q r l B {sp with pk:=n}:=by
 have d:=h.fs;obtain⟨b,a⟩:=h.row;refine⟨⟨c,hc,hb⟩,⟨b,WH ho a O⟩,HB ho h.map O,h.keys,λj t e=>?_,h.inj,h.out,d,h.zero,h.n1,h.n2,h.sE,hn⟩;obtain⟨g,x,s,u,w,i,m⟩:=h.wd j t e;exact⟨g,x,s,u,WH ho w (h.out j (h.lT e)).2.1,i,m⟩
theorem fG.word (h:fG U F p q r l B sp){w:Nat}{v:Int}(hk:sp.st[w/32]?=some 2){σ':Hp}{cs:List Value}(h32:32<=cs.length)(ho:QR U σ' (B (w/32)))(hcs:∀j,j<32->cs[j]?=some (.int .i64 (sp.wd (32*(w/32)+j))))
 (hb:bZ σ' (B (w/32)) (cs.set (w%32) (.int .i64 v))):fG σ' F p q r l B {sp with wd:=λu=>if u=w then v else sp.wd u}:=by
 have x:=h.out _ hk;obtain⟨c,D,hd⟩:=h.hd;obtain⟨b,a⟩:=h.row;refine⟨⟨c,D,WH ho hd O⟩,⟨b,WH ho a O⟩,HB ho h.map O,h.keys,λj t y=>?_,h.inj,h.out,h.fs,λu A=>?_,h.n1,h.n2,h.sE,h.pk⟩
 ·obtain⟨s,C,z,m,H,E,G⟩:=h.wd j t y;by_cases hjk:j=w/32
  ·subst hjk;refine⟨s,C,z,_,hb,by simpa using h32,λi d=>?_⟩;rw[nm];by_cases hiw:w%32=i
   ·rw[zC hiw,zC O];simp only;rw[zC O]
   ·rw[zB hiw];simp only;rw[zB O];exact hcs i d
  ·have g:B j≠B (w/32):=λe=>hjk (h.inj _ _ (h.lT y) hk e);refine⟨s,C,z,m,WH ho H g,E,λi d=>?_⟩;rw[G i d];simp only;rw[zB O]
 ·have:u≠w:=λe=>by subst e;exact A hk
  simp only;rw[zB this];exact h.zero u A
theorem OX (h:dN U F p sp)(g:Gc U){w:Nat}(hw:w/32<sp.st.length)(v:Int){R:aP}(hR:∀σ',Ext F U σ'->dN σ' (Grow F U) p (ny sp w v)->R σ') :
 Zi.c (aW p) (w:Int) v U R:=by
 refine Zi.o ?_;unfold Zi.v;obtain⟨q,r,l,B,h⟩:=h;have ac:=h.n2;have x:sp.st[w/32]?=some sp.st[w/32]:=cX hw;have tm:((w:Int).tmod 32)=((w%32:Nat):Int):=by rw[Kg O];simp
 have word:∀(u:Hp) (s':Sp) (l':List (Int×Sl)) (B':Nat->Nat),Ext F U u->fG u (Grow F U) p q r l' B' s'->s'.st[w/32]?=some 2->({s' with wd:=λz=>if z=w then v else s'.wd z}:Sp)=ny sp w v →
  bX (some ⟨p,0,none⟩) λV=>lr (V.add 1) u λY=>Lk .i64 .s Y ((w/32:Nat):Int) u λH=>Nz 32<|Ix (H.getD ⟨none,0,0⟩).a (H.getD ⟨none,0,0⟩).len ((w:Int).tmod 32) 1 λab=>dU ab (.int .i64 v) u λv1=>R v1:=by
  intro u s' l' B' eu hu A he;refine aG (hu.rM ⟨l',hu.map,nz aB ?_⟩);obtain⟨s,hs,w1,w2,w3,cs,w4,w5,w6⟩:=hu.entry A;rw[hs,tm];simp only[qk];rw[w1];refine ix O O ?_;rw[add_lit,show 0+((w%32:Nat):Int).toNat*1=w%32 by omega];refine w4.s0 O λu2 o2 L=>?_;have h2:=hu.word (v:=v) A w5 o2 w6 L;rw[he]at h2;exact hR u2 (eu.dS o2.ext λb d=>by subst d;exact(hu.out _ A).1) ⟨_,_,_,_,h2⟩
 refine nz aB (cS (m:=w/32) (by rw[YK O];simp) O (Jn.intro (aG (h.rS λcap G=>ix O aC ?_))));rw[add_lit,show 0+((w/32:Nat):Int).toNat*2=2*(w/32) by omega];refine h.yW x (nv (n:=true) g.d0 (nv (n:=true) g.d1 ?_));have e0:(((gp sp.st[w/32]).1==true)&&(((gp sp.st[w/32]).2==true)&&true))=(sp.st[w/32]==2):=AJ (h.sE _ (ka hw)) (y:=2) O;rw[e0];refine cU (λhd=>?_) λhd=>?_
 ·have E:sp.st[w/32]≠2:=by simpa using hd
  refine aG (h.rS λcap G=>nv (n:=true) g.d0 (nv (n:=true) g.d1 (ix O aC ?_)));rw[add_lit,show 0+((w/32:Nat):Int).toNat*2=2*(w/32) by omega];obtain⟨J,C⟩:=h.row;refine C.s1 (by rw[zM,VS];omega) λu1 o1 b1=>b1.s1 (by rw[oZ,zM,VS];omega) λu2 o2 L=>?_;rw[kc]at L;have S:bZ u2 q (gR (sp.st.set (w/32) 2)++J):=by rw[←EM hw];exact L
  have e2:Ext (· = q) U u2:=o1.ext.trans o2.ext;obtain⟨c,hc,K⟩:=h.hd;have D:=e2.bW K h.fs.2.2.2.1;refine⟨λm=>bZ m p [.slice (some ⟨q,0,none⟩) sp.st.length c,.map (some r),.int .i64 (sp.pk:Int)],D,aG ⟨some r,λm hm=>by rw[add_lit,hm.cell];rfl,?_⟩⟩;refine mk (n:=32) O O λu3 hz3 P b3=>⟨Ext.bW P D id,?_⟩;have aa:bZ u3 u2.size (List.replicate 32 (.int .i64 0)):=b3;have q3:=Ext.bW P S id;have X:=e2.fR h.map (λe=>h.fs.2.2.2.2.2 e.symm);refine⟨r,l,rfl,Ext.fR P X id,λu4 o4 Z=>?_⟩;have sz2:u2.size=U.size:=by rw[o2.1,o1.1]
  have af:=h.map.lt;have ae:=K.lt;have e4:Ext (λb=>b=q\/b=r) U u4:=((e2.sub λb d=>.inl d).trans (bL.to P)).trans (o4.ext.sub λb d=>.inr d);have M:=h.Bg hw (by rw[x];simpa using E) (s:=⟨some ⟨u2.size,0,none⟩,32,32⟩) (b:=u2.size) e4 (λi _ N=>N) O (WH o4 q3 h.fs.2.2.2.2.2) Z rfl rfl rfl (WH o4 aa O);obtain⟨c4,W,j⟩:=M.hd;refine aG (j.rI rfl (aG (j.rM rfl ⟨_,M.map,aG ?_⟩)));rw[M.wx];have hcl:(sp.st.set (w/32) 2).count 2<=1024:=j9 List.count_le_length (by simpa using ac);have hpk:=h.pk;have hv:(if((List.count 2 (sp.st.set (w/32) 2):Nat):Int)>(sp.pk:Int)then((List.count 2 (sp.st.set (w/32) 2):Nat):Int)else(sp.pk:Int))=((max sp.pk ((sp.st.set (w/32) 2).count 2):Nat):Int):=by
   by_cases hgt:((List.count 2 (sp.st.set (w/32) 2):Nat):Int)>(sp.pk:Int)
   ·rw[zC hgt];omega
   ·rw[zB hgt];omega
  simp only;rw[hv];refine j.s1 aA λu5 o5 b5=>?_;have h5:=M.AD O o5 W b5;have e5:Ext F U u5:=(e4.sub λb d=>by
   rcases d with rfl|rfl
   ·exact h.fs.2.1
   ·exact h.fs.2.2.1).trans (o5.ext.sub λb d=>by subst d;exact h.fs.1)
  refine word u5 _ _ _ e5 h5 (by simp only;rw[nm,zC rfl,zC hw]) ?_;unfold ny;rw[zB (by rw[zQ,x];exact E)]
 ·have Q:sp.st[w/32]=2:=by simpa using hd
  rw[Q]at x;have ad:fG U (Grow F U) p q r l B sp:={h with out:=λk A=>⟨.inl (h.out k A).1,(h.out k A).2⟩,fs:=⟨.inl h.fs.1,.inl h.fs.2.1,.inl h.fs.2.2.1,h.fs.2.2.2⟩};refine word U sp l B (Ext.refl _ _) ad x ?_;unfold ny;rw[zC (by rw[zQ,x];rfl)];have:sp.st.set (w/32) 2=sp.st:=by
   apply zo;intro i;rw[nm];by_cases N:w/32=i
   ·subst N;rw[zC rfl,zC hw,x]
   ·rw[zB N]
  rw[this]
theorem LQ (h:dN U F p sp)(g:Gl U)(gd:Gc U)(x:Int)(hx:x<=9223372036854775807)(v:Int){R:aN}(hR:∀σ',Ext F U σ'->dN σ' (Grow F U) p (ZM sp x v)->R (eO sp x) σ') :
 YB.c (aW p) x v U R:=by
 refine YB.o ?_;unfold YB.v;have j:dN U (Cut F U) p sp:=dM.cut dN.loc h;refine DW h g x hx λB e=>?_;have w:=j.bP e;have C:=g.bP e;refine cU (λr=>?_) λr=>?_
 ·have s:¬eO sp x=0:=by simpa using r
  refine hR B (bL.to e) ?_;unfold ZM;rw[zB s];exact dM.mono dN.loc w λb _ a=>.inl a.1
 ·have d:eO sp x=0:=by simpa using r
  have i:0<=x/\sp.st.getD (x.toNat/256) 0≠0:=by
   unfold eO at d;by_cases a:x<0\/x%8≠0
   ·rw[zC a]at d;cases d
   ·rw[zB a]at d;by_cases hz:sp.st.getD (x.toNat/256) 0=0
    ·rw[zC hz]at d;cases d
    ·exact⟨O,hz⟩
  obtain⟨y,rfl⟩:=zc i.1;have u:y/8/32<sp.st.length:=by
   rcases kb (y/256) sp.st.length with h|h
   ·omega
   ·exact absurd (by rw[zQ,zW (by simpa using h)];rfl) i.2
  refine nz aB (cS (m:=y/8) (by rw[YK O];simp) O (OX w (gd.bP e) u v λA e2 z=>?_));have:=hR A (Ext.cut ((bL.to e).trans e2)) ?_
  ·rw[d]at this;exact this
  ·unfold ZM;rw[zC d];exact dM.mono dN.loc z λb _ a=>by
    rcases a with a|a
    ·exact .inl a.1
    ·exact .inr (j9 e.1 a)
def VT (n:Nat):Sp:=⟨List.replicate n 0,λ_=>0,0⟩
theorem η {U:Hp}{F:Rg}{p q r n c:Nat}(h1:1<=n)(h2:n<=1024)(hc:n<=c)(hd:bZ U p [.slice (some ⟨q,0,none⟩) n c,.map (some r),.int .i64 0])(hq:bZ U q (gR (List.replicate n 0)))(hr:dJ U r .i64 .s [])
 (hF:F p/\F q/\F r) (hne:p≠q/\p≠r/\q≠r):fG U F p q r [] (λ_=>0) (VT n):=by
 have b:∀k:Nat,(List.replicate n 0)[k]?≠some 2:=λk a=>by
  rw[mR]at a;split at a<;>cases a
 refine⟨⟨c,by simpa[VT]using hc,by simpa[VT]using hd⟩,⟨[],by simpa[VT]using hq⟩,hr,λx=>?_,λk s d=>(by cases d),λk g h1=>absurd h1 (b k),λk a=>absurd a (b k),⟨hF.1,hF.2.1,hF.2.2,hne⟩,λw _=>rfl,by simpa[VT]using h1,by simpa[VT]using h2,λx e=>?_,by simp[VT]⟩
 ·constructor
  ·intro h;cases h
  ·rintro⟨k,_,a⟩;exact absurd a (b k)
 ·have:=A4 e;omega
theorem P8 {n:Nat}(h1:1<=n)(h2:n<=1024){R:Option Addr->Int->Hp->Prop}(hR:∀σ' p',bL U σ'->U.size<=p'->dN σ' (λb=>U.size<=b) p' (VT n)->R (some ⟨p',0,none⟩) 0 σ'):Kh.c (n:Int) U R:=by
 refine Kh.o ?_;unfold Kh.v;refine bV.intro (fV O ?_);rw[zL O];refine cE rfl (mk O O λd u e1 j=>ud λx w e2 g=>nw (cs:=[.slice (some ⟨U.size,0,none⟩) n n,.map (some d.size),.int .i64 0]) λi r a e=>?_);have m:=Ext.bW a (Ext.bW e2 j id) id;have p:=Ext.fR a (g .i64 .s) id;refine hR i _ (Ext.trans (Ext.trans e1 e2) a) O ⟨U.size,d.size,[],_,η h1 h2 (zD _) e ?_ p ⟨O,O,O⟩ O⟩;rw[LY];exact m
end Go.Ar