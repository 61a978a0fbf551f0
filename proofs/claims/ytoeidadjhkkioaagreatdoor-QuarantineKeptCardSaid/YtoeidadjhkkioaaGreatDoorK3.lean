/- Texts joined. -/
import Derived.Lib.Overlaps
import Derived.Laws.Externs
import Derived.Test.YtoeidadjhkkioaaGreatDoorK2
set_option linter.unusedVariables false
set_option linter.unusedSimpArgs false
namespace Go.Proofs
open Go.Vc
set_option maxRecDepth 100000
def ZZ.h:Hn:=.q .o1 (.q (.q (.cU (.seq [.op,.op,.op,.op,.cZ false 3 (RI.ops 3)])) .aK) (.q (.q .o3 (.k (.loop [(15,.I)] (.q .o1 (.q (.c .l .l) (.q (.k (.q .o6 (.q (.cU (.gM true [1] [(37,.one .b)] (.take 0 (.all [(1,.take 2 (.take 3 (.split 23 (.take 4 (.take 5 (.take 6 (.take 7 (.take 8 (.take 9 (.take 10 (.take 11 (.take 12 (.take 13 (.take 14 (.take 15 (.take 16 (.take 17 (.done))))))))))))))) (.take 4 (.take 5 (.take 6 (.split 26 (.take 7 (.take 9 (.take 10 (.take 11 (.take 12 (.take 13 (.all [(8,.all [(14,.take 15 (.take 16 (.take 17 (.done))))]),(14,.all [(8,.take 15 (.take 16 (.take 17 (.done))))])]))))))) (.take 7 (.take 8 (.take 9 (.take 10 (.take 11 (.take 12 (.take 13 (.take 14 (.take 15 (.take 16 (.take 17 (.done)))))))))))))))))))])))) .aK))) .o2)))))) .aM))
def ZZ.v (a:Sl)(b:Hp)(c:aO):Prop:=bX (λd e=>If d (c false e) (X9 [bO] (λf=>f 0 e) λg (h:Int) i=>If (h<((a.len:Nat):Int)) (Ix a.a a.len h 3 λj=>aQ j 0 i λk=>aQ j 1 i λl=>aQ j 2 i λm=>aV #[.I 0,.I 0,.I 0] 149 i λn o=>aR n 0 (.I k) o λp=>aR n 1 (.I l) p λq=>aR n 2 (.I m) q λr=>Jn [.b] (λ(s:Bool) t=>If s (c false t) (bM (h+1) λu=>g u t)) λv=>dT r λw=>aS w n 0 λx=>aS w n 1 λy=>aS w n 2 λz=>Ke.c x y z r λaa ab=>If (!aa) (v true ab) (If (h>0) (bM (h-1) λac=>Ix a.a a.len ac 3 λad=>(aQ n 0 ab λae=>aQ ad 0 ab λaf=>v (decide (ae<=af)) ab) ∧ (aQ ad 0 ab λag=>aQ n 0 ab λah=>v (decide (ah<=ag)) ab)) (v false ab))) (c true i))) λai=>If (((a.len:Nat):Int)<1) (ai true b) (ai (decide (((a.len:Nat):Int)>40)) b)
theorem ZZ.o {a b c}(d:ZZ.v a b c):ZZ.c a b c:=Wa Tryz.func151 (x:=ZZ.h) (R0 d)
def QK.h:Hn:=.q .o4 (.q (.k (.q .o4 (.c .aL (.q (.cU (.gM true [] [(13,.one .b)] (.tk [0,1,2] (.split 16 (.tk [3,4,5,6,7,8,9,10,11,12,13,14,15,16] (.done)) (.tk [3,4,5,6] (.split 20 (.tk [7,8,9,10,11,12,13,14,15,16] (.done)) (.tk [7,8,9,10] (.split 24 (.tk [11,12,13,14,15,16] (.done)) (.take 11 (.take 13 (.all [(12,.take 14 (.take 15 (.take 16 (.done))))]))))))))))) .aJ)))) (.q .o4 (.q (.q .o2 .aJ) (.q .o3 .l))))
def QK.v (a:Sl)(b c:Int)(d:Hp)(e:Int->Int->Hp->Prop):Prop:=aV #[.I b] 3 d λf g=>aV #[.I c] 3 g λh i=>ZZ.c a i λj k=>If (!j) (e 0 2 k) (Jn [.b] (λ(l:Bool) m=>If l (e 0 1 m) (Ws.c a ⟨228,#[],#[.pointer (some f),.pointer (some h)]⟩ m λn o=>If (n<0) (e 0 4 o) (e n 0 o))) λp=>dT k λq=>gF q bO f λ(r:Int)=>If (r<1) (p true k) (gF q bO h λ(s:Int)=>If (s<1) (p true k) (gF q bO h λ(t:Int)=>If (t>256) (p true k) (gF q bO h λ(u:Int)=>gF q bO h λ(v:Int)=>QM.c u k λw x=>And (q x) <| p (w != v) x))))
theorem QK.o {a b c d e}(f:QK.v a b c d e):QK.c a b c d e:=Wa Tryz.func164 (x:=QK.h) (R0 f)
def Ke.h:Hn:=.q .o2 (.q (.cU (.seq [.op,.op,.op,.op,.cZ true 3 (RI.ops 3),.op,.cZ true 4 (RI.ops 4),.op,.cZ true 3 (RI.ops 3),.op,.cZ true 3 (RI.ops 3),.op,.cZ true 6 (RI.ops 6),.op,.cZ true 3 (RI.ops 3),.op,.cZ true 3 (RI.ops 3),.op])) .l)
def Ke.v (a b c:Int)(d:Hp)(e:aO):Prop:=aV #[.I a,.I b,.I c] 149 d λf g=>aQ f 0 g λh=>bX (λi j=>bX (λk l=>bX (λm n=>bX (λo p=>bX (λq r=>bX (λs t=>bX (λu v=>e u v) λw=>If s (aQ f 2 t λx=>w (decide (x<=32)) t) (w false t)) λy=>If q (aQ f 2 r λz=>y (decide (z≥1)) r) (y false r)) λaa=>If o (aQ f 1 p λab=>bM (ab*256) λac=>aQ f 0 p λad=>aa (decide (ac≥ad)) p) (aa false p)) λae=>If m (aQ f 1 n λaf=>ae (decide (af<=4)) n) (ae false n)) λag=>If k (aQ f 1 l λah=>ag (decide (ah≥1)) l) (ag false l)) λai=>If i (aQ f 0 j λaj=>Nz 8 <| ai ((aj.tmod 8)==0) j) (ai false j)) λak=>If (h≥8) (aQ f 0 g λal=>ak (decide (al<=512)) g) (ak false g)
theorem Ke.o {a b c d e}(f:Ke.v a b c d e):Ke.c a b c d e:=Wa Tryz.func195 (x:=Ke.h) (R0 f)
def Z2.h:Hn:=.q .o2 (.q .o7 .l)
def Z2.v (a b c:Int)(d:Hp)(e:aN):Prop:=aV #[.I a,.I b,.I c] 149 d λf g=>aQ f 1 g λh=>bM (h*256) λi=>aQ f 0 g λj=>Nz j<|bM (i.tdiv j) λk=>e k g
theorem Z2.o {a b c d e}(f:Z2.v a b c d e):Z2.c a b c d e:=Wa Tryz.func196 (x:=Z2.h) (R0 f)
def QM.h:Hn:=.q .o1 (.q .o1 (.q (.q .o1 (.k (.loop [(3,.I),(4,.I)] (.q (.q .o3 (.c .l .l)) (.q (.k .o2) .o3))))) .aL))
def QM.v (a:Int)(b:Hp)(c:aN):Prop:=X9 [bO,bO] (λd=>d 0 1 b) λe (f:Int) (g:Int) h=>If (g<=a) (bM (g*2) λi=>e g i h) (c f h)
theorem QM.o {a b c}(d:QM.v a b c):QM.c a b c:=Wa Tryz.func226 (x:=QM.h) (R0 d)
def Qp.h:Hn:=.q .o2 (.q (.cU (.seq [.op,.op,.op,.op,.op,.cZ true 5 (RI.ops 5),.op])) .l)
def Qp.v (a b c:Int)(d e:Addr)(f:Hp)(g:aO):Prop:=aV #[.I a,.I b,.I c] 149 f λh i=>aQ h 0 i λj=>bN d i λk=>bX (λl m=>g l m) λn=>If (j≥k) (aQ h 0 i λo=>bN e i λp=>Nz p <| n ((o.tmod p)==0) i) (n false i)
theorem Qp.o {a b c d e f g}(h:Qp.v a b c d e f g):Qp.c a b c d e f g:=Wa Tryz.func228 (x:=Qp.h) (R0 h)
def ZU.h:Hn:=.q .o3 (.q (.q .o3 .aJ) (.q .o4 .l))
def ZU.v (a b c:Int)(d:Hp)(e:Int->Int->Hp->Prop):Prop:=aV #[.I a,.I b,.I c] 149 d λf g=>aQ f 0 g λh=>aQ f 1 g λi=>aQ f 2 g λj=>Ke.c h i j g λk l=>If (!k) (e 0 1 l) (aQ f 0 l λm=>aQ f 1 l λn=>aQ f 2 l λo=>Z2.c m n o l λp q=>e p 0 q)
theorem ZU.o {a b c d e}(f:ZU.v a b c d e):ZU.c a b c d e:=Wa Tryz.func274 (x:=ZU.h) (R0 f)
end Go.Proofs
namespace Go.Ar
open Go Go.Vc Go.Proofs
variable {U:Hp}
theorem Jh (x y z:Int){R:aO}(hR:∀σ',aF U σ'->R (U4 x y z) σ'):Ke.c x y z U R:=by
 refine Ke.o ?_;unfold Ke.v;refine nw (cs:=[.int .i64 x,.int .i64 y,.int .i64 z]) λh A e b=>?_;have s:U4 x y z=false->R false h:=λg=>g▸hR h e;have a:¬(8<=x/\x<=512/\x%8=0/\1<=y/\y<=4/\x<=y*256/\1<=z/\z<=32)->R false h:=λg=>s (by rw[←rU,HM];exact g);refine b.rI rfl (bX.intro ?_);refine cN (λi=>b.rI rfl (bX.intro ?_)) λi=>?_
 case refine_2=>
  iterate 6 refine bX.intro (cD rfl ?_)
  exact a O
 refine cN (λj=>b.rI rfl (nz aB (bX.intro ?_))) λj=>?_
 case refine_2=>
  iterate 5 refine bX.intro (cD rfl ?_)
  exact a O
 rw[Ki O];refine cP (λd=>b.rI rfl (bX.intro ?_)) λd=>?_
 case refine_2=>
  have:¬x%8=0:=by simpa using d
  iterate 4 refine bX.intro (cD rfl ?_)
  exact a O
 have u:x%8=0:=by simpa using d
 refine cN (λw=>b.rI rfl (bX.intro ?_)) λw=>?_
 case refine_2=>
  iterate 3 refine bX.intro (cD rfl ?_)
  exact a O
 refine cN (λm=>b.rI rfl (ar O O (b.rI rfl (bX.intro ?_)))) λm=>?_
 case refine_2=>
  iterate 2 refine bX.intro (cD rfl ?_)
  exact a O
 refine cN (λr=>b.rI rfl (bX.intro ?_)) λr=>?_
 case refine_2=>exact bX.intro (cD rfl (a O))
 refine cN (λp=>b.rI rfl ?_) λp=>a O;have:decide (z<=32)=U4 x y z:=by
  rw[kZ,HM];simp;omega
 rw[this];exact hR h e
theorem Mn {c:cA}(hc:c.ok){R:aN}(hR:∀σ',aF U σ'->R (c.n:Int) σ'):Z2.c c.size c.aG c.batch U R:=by
 refine Z2.o ?_;unfold Z2.v;have h:=hc;unfold cA.ok at h;refine nw (cs:=[.int .i64 c.size,.int .i64 c.aG,.int .i64 c.batch]) λh b e a=>?_;refine a.rI rfl (cT (m:=c.aG*256) aA O (a.rI rfl (nz O ?_)));refine cT (m:=c.n) ?_ (by have:=hc.kT;omega) (hR _ e);rw[YU O];simp[cA.n]
theorem IY (x y z:Int){R:Int->Int->Hp->Prop}(h1:∀c:cA,c.ok->x=c.size->y=c.aG->z=c.batch->∀σ',aF U σ'->R (c.n:Int) 0 σ')(h0:U4 x y z=false->∀σ',aF U σ'->R 0 1 σ'):ZU.c x y z U R:=by
 refine ZU.o ?_;unfold ZU.v;refine nw (cs:=[.int .i64 x,.int .i64 y,.int .i64 z]) λh m e b=>?_;refine b.rI rfl (b.rI rfl (b.rI rfl (Jh _ _ _ λi e2=>?_)));have a:=e2.bV b id;cases hk:U4 x y z
 .exact cF rfl (h0 hk _ (e.trans e2))
 .obtain⟨c,d,_,rfl,rfl,rfl⟩:=Bf hk;exact cD rfl (a.rI rfl (a.rI rfl (a.rI rfl (Mn d λj g=>h1 c d rfl rfl rfl _ ((e.trans e2).trans g)))))
end Go.Ar
namespace Go.Proofs
open Go.Vc
set_option maxRecDepth 100000
def Vj.h:Hn:=.q .o2 (.q (.q (.cU (.seq [.op,.op,.op,.cZ false 2 [.op,.op],.op,.cZ false 3 (RI.ops 3)])) .aJ) (.q .o6 .l))
def Vj.v (a:Int)(b:Hp)(c:Option Addr->Int->Hp->Prop):Prop:=bX (λd e=>bX (λf g=>If f (c none 1 g) (Mk a a 8 3 [.I 0] g λh i=>aV #[.slice h.a h.len h.cap] 342 i λj k=>c (some j) 0 k)) λl=>If d (l true e) (Nz 16 <| l ((a.tmod 16) != 0) e)) λm=>If (a<16) (m true b) (m (decide (a>1024)) b)
theorem Vj.o {a b c}(d:Vj.v a b c):Vj.c a b c:=Wa Tryz.func211 (x:=Vj.h) (R0 d)
def XN.h:Hn:=.q .o1 (.q .o6 .l)
def XN.v (a:R2)(b c:Int)(d:Hp)(e:aN):Prop:=aV #[.I 1] 3 d λf g=>X5.c a b c 2 ⟨some f,1,1⟩ g λh i=>e h i
theorem XN.o {a b c d e}(f:XN.v a b c d e):XN.c a b c d e:=Wa Tryz.func245 (x:=XN.h) (R0 f)
def XE.h:Hn:=.q .o1 (.q (.cU (.seq [.op,.op,.op,.cZ true 6 (RI.ops 6),.op])) .l)
def XE.v (a:R2)(b:Hp)(c:aO):Prop:=bX (λd e=>c d e) λf=>If (!a.isNone) (bF a 0 b λh=>f (decide (((h.len:Nat):Int)>0)) b) (f false b)
theorem XE.o {a b c}(d:XE.v a b c):XE.c a b c:=Wa Tryz.func249 (x:=XE.h) (R0 d)
def Y8.h:Hn:=.q .o1 (.q .o7 .l)
def Y8.v (a:R2)(b:Hp)(c:aN):Prop:=bF a 0 b λe=>Nz 16<|bM (((e.len:Nat):Int).tdiv 16) λf=>c f b
theorem Y8.o {a b c}(d:Y8.v a b c):Y8.c a b c:=Wa Tryz.func250 (x:=Y8.h) (R0 d)
def Zp.h:Hn:=.q .o1 (.q (.o 11) .l)
def Zp.v (a:R2)(b:Int)(c:Hp)(d:Sl->Hp->Prop):Prop:=bF a 0 c λf=>bM (b*16) λg=>bM (b+1) λh=>bM (h*16) λi=>fI f 1 g i (f.cap:Nat) λj=>d j c
theorem Zp.o {a b c d}(e:Zp.v a b c d):Zp.c a b c d:=Wa Tryz.func252 (x:=Zp.h) (R0 e)
def X5.h:Hn:=.q .o2 (.q (.k (.q .o4 (.c .aM (.q (.cU (.seq [.op,.op,.op,.cZ false 2 [.op,.op],.op,.cZ false 7 (RI.ops 7),.op,.cZ false 9 (RI.ops 9),.op])) .aK)))) (.q .gE (.q (.q .o3 .aK) (.q .o3 .aM))))
def X5.v (a:R2)(b c d:Int)(e:Sl)(f:Hp)(g:aN):Prop:=aV #[.slice e.a e.len e.cap] 31 f λh i=>XE.c a i λj k=>If (!j) (g 5 k) (bX (λl m=>bX (λn o=>bX (λp q=>If p (g 1 q) (bF a 0 q λs=>bM (b+c) λt=>fI s 1 b t (s.cap:Nat) λu=>WP.c u ⟨305,#[],#[.pointer (some h)]⟩ q λv w=>If v (g 5 w) (Q1.c u d w λx=>g 0 x))) λy=>If n (y true o) (bF a 0 o λaa=>bM (((aa.len:Nat):Int)-b) λab=>y (decide (c>ab)) o)) λac=>If l (ac true m) (bF a 0 m λae=>ac (decide (b>((ae.len:Nat):Int))) m)) λaf=>If (b<0) (af true k) (af (decide (c<1)) k))
theorem X5.o {a b c d e f g}(h:X5.v a b c d e f g):X5.c a b c d e f g:=Wa Tryz.func256 (x:=X5.h) (R0 h)
def YJ.h:Hn:=.q .o2 (.q (.k (.q .o4 (.c .aL (.q (.cU (.seq [.op,.op,.op,.cZ false 4 (RI.ops 4),.op])) .aJ)))) (.q .o5 .l))
def YJ.v (a:R2)(b:Int)(c:Hp)(d:Sl->Int->Hp->Prop):Prop:=XE.c a c λe f=>If (!e) (d ⟨none,0,0⟩ 5 f) (bX (λg h=>If g (d ⟨none,0,0⟩ 1 h) (Zp.c a b h λi j=>d i 0 j)) λk=>If (b<0) (k true f) (Y8.c a f λl m=>k (decide (b≥l)) m))
theorem YJ.o {a b c d}(e:YJ.v a b c d):YJ.c a b c d:=Wa Tryz.func259 (x:=YJ.h) (R0 e)
def Q1.h:Hn:=.q .o3 (.k (.loop [(7,.I)] (.q .o1 (.q (.c .l .l) (.q (.k (.q .o2 .o5)) .o2)))))
def Q1.v (a:Sl)(b:Int)(c:Hp)(d:aP):Prop:=X9 [bO] (λe=>e 0 c) λf (g:Int) h=>If (g<((a.len:Nat):Int)) (Ix a.a a.len g 1 λi=>dG i (.I b) h λj=>bM (g+1) λk=>f k j) (d h)
theorem Q1.o {a b c d}(e:Q1.v a b c d):Q1.c a b c d:=Wa Tryz.func261 (x:=Q1.h) (R0 e)
def XV.h:Hn:=.q .o1 (.q .o6 .l)
def XV.v (a:R2)(b c:Int)(d:Hp)(e:aN):Prop:=aV #[.I 2,.I 3] 3 d λf g=>X5.c a b c 1 ⟨some f,2,2⟩ g λh i=>e h i
theorem XV.o {a b c d e}(f:XV.v a b c d e):XV.c a b c d e:=Wa Tryz.func288 (x:=XV.h) (R0 f)
def YQ.h:Hn:=.q .o1 (.q .o5 .l)
def YQ.v (a:Int)(b:Addr)(c:Hp)(d:aO):Prop:=jF b c λe=>Ww.c e a c λf g=>d (!f) g
theorem YQ.o {a b c d}(e:YQ.v a b c d):YQ.c a b c d:=Wa Tryz.func305 (x:=YQ.h) (R0 e)
def Yf.h:Hn:=.q .o1 (.q (.q (.cU (.seq [.op,.op,.op,.op,.cZ false 2 [.op,.op],.op,.cZ false 7 (RI.ops 7)])) .aK) (.q .o8 .l))
def Yf.v (a:R2)(b:Int)(c:Hp)(d:aN):Prop:=XE.c a c λe f=>bX (λg h=>bX (λi j=>If i (d (-1) j) (bF a 0 j λl=>Ix l.a l.len b 1 λm=>bN m j λn=>d n j)) λo=>If g (o true h) (bF a 0 h λq=>o (decide (b≥((q.len:Nat):Int))) h)) λr=>If (!e) (r true f) (r (decide (b<0)) f)
theorem Yf.o {a b c d}(e:Yf.v a b c d):Yf.c a b c d:=Wa Tryz.func314 (x:=Yf.h) (R0 e)
def Yk.h:Hn:=.q .o1 (.q .o8 (.q (.k (.q .o3 (.c .aL (.q .o5 .aK)))) (.q .o2 .aM)))
def Yk.v (a:R2)(b:Int)(c:Hp)(d:aN):Prop:=YJ.c a b c λe f g=>If (f != 0) (d f g) (Ix e.a e.len 0 1 λh=>bN h g λi=>If (i != 0) (d 5 g) (Q1.c e 3 g λj=>d 0 j))
theorem Yk.o {a b c d}(e:Yk.v a b c d):Yk.c a b c d:=Wa Tryz.func319 (x:=Yk.h) (R0 e)
end Go.Proofs
namespace Go.Ar
open Go Go.Vc Go.Proofs
open Go.Bu (ZF)
variable {U:Hp}{F:Rg}{p q:Nat}{st:List Nat}
structure iv (U:Hp) (p q:Nat) (st:List Nat):Prop where
 hd:∃cap,st.length<=cap/\bY U p [.slice (some ⟨q,0,none⟩) st.length cap]
 row:∃rest,bY U q (ints st++rest)
 ne:p≠q
 n1:16<=st.length
 n2:st.length<=1024
 n3:st.length%16=0
theorem iv.bT {σ':Hp}(h:iv U p q st)(e:Ext F U σ')(hp:¬F p)(hq:¬F q):iv σ' p q st:=
 ⟨by obtain⟨c,a,b⟩:=h.hd;exact⟨c,a,e.bV b hp⟩,by obtain⟨r,a⟩:=h.row;exact⟨r,e.bV a hq⟩,h.ne,h.n1,h.n2,h.n3⟩
theorem iv.bP {σ':Hp}(h:iv U p q st)(e:aF U σ'):iv σ' p q st:=h.bT e id id
theorem iv.lt (h:iv U p q st):p<U.size/\q<U.size:=by
 obtain⟨_,_,a⟩:=h.hd;obtain⟨_,b⟩:=h.row;exact⟨a.lt,b.lt⟩
theorem iv.rS (h:iv U p q st){K:Sl->Prop}(hK:∀cap,st.length<=cap->K ⟨some ⟨q,0,none⟩,st.length,cap⟩):jF (Addr.add ⟨p,0,none⟩ 0) U K:=by
 obtain⟨c,a,b⟩:=h.hd;exact b.rS rfl (hK c a)
theorem iv.part (h:iv U p q st){s:Sl}{a n:Nat}(ha:s.a=some ⟨q,a,none⟩)(hn:s.len=n)(hl:a+n<=st.length):cV s 1 (ints ((st.drop a).take n)) U (· = q):=by
 obtain⟨r,g⟩:=h.row;have b:((st.drop a).take n).length=n:=by simp;omega
 refine g.fY ha (by rw[Kq,b,hn];simp) λj d=>?_;rw[Kq,b]at d;rw[zd (by rw[Kq];omega)];simp[ints,zm,d,lK]
theorem jU {b o n c:Nat}{cs:List Value}(hb:bY U b cs)(hl:o+n<=cs.length)(hn:n<=1000000)(v:Nat){R:aP}
 (hR:∀σ',Ka U σ' b->bY σ' b (cs.take o++List.replicate n (.int .i64 (v:Int))++cs.drop (o+n))->R σ'):Q1.c ⟨some ⟨b,o,none⟩,n,c⟩ v U R:=by
 refine Q1.o ?_;unfold Q1.v;refine Qg (a:=bO) (λ(t:Int) p=>∃i:Nat,t=(i:Int)/\i<=n/\Ka U p b/\bY p b (cs.take o++List.replicate i (.int .i64 (v:Int))++cs.drop (o+i))) (λt _=>n-t.toNat) ⟨0,rfl,O,⟨rfl,λ_ _=>rfl⟩,by simpa using hb⟩ ?_;rintro t p ⟨i,rfl,hi,u,d⟩;refine cN (λr=>?_) λs=>?_
 .simp only at r;refine ix O aC ?_;rw[add_lit];refine d.s0 aE λx j g=>?_;refine cT (m:=i+1) O O ⟨⟨i+1,rfl,O,⟨j.1.trans u.1,λk w=>(j.2 k w).trans (u.2 k w)⟩,?_⟩,O⟩;have:(cs.take o++List.replicate i (Value.int .i64 (v:Int))++cs.drop (o+i)).set (o+(i:Int).toNat*1) (Value.int .i64 (v:Int))=cs.take o++List.replicate (i+1) (Value.int .i64 (v:Int))++cs.drop (o+(i+1)):=by
   rw[DE _ _ aE];have e:o+(i:Int).toNat*1-(cs.take o++List.replicate i (Value.int .i64 (v:Int))).length=0:=by simp;omega
   rw[e,xh O,List.set_cons_zero,BV];simp[zl,xR]
  rw[this]at g;exact g
 .simp only at s;have:i=n:=O
  subst this;exact hR p u d
theorem iv.fill (h:iv U p q st){a n:Nat}{r:List Value}{σ':Hp}{v:Nat}(hrow:bY U q (ints st++r))(hl:a+n<=st.length)(ho:Ka U σ' q)
 (hb:bY σ' q ((ints st++r).take a++List.replicate n (.int .i64 (v:Int))++(ints st++r).drop (a+n))):iv σ' p q (gH st a (a+n) v):=by
 obtain⟨c,d,g⟩:=h.hd;have b:=Vn st a (a+n) v;refine⟨⟨c,by rw[b];exact d,?_⟩,⟨r,?_⟩,h.ne,by rw[b];exact h.n1,by rw[b];exact h.n2,by rw[b];exact h.n3⟩
 .rw[b];exact WF ho g h.ne
 .rw[Ox O hl,HD,HD];have e1:(ints st++r).take a=ints (st.take a):=by
   rw[pA (by rw[Kq];omega)];simp[ints]
  have e2:(ints st++r).drop (a+n)=ints (st.drop (a+n))++r:=by
   rw[List.drop_append_of_le_length (by rw[Kq];omega)];simp[ints]
  have i:ints (List.replicate (a+n-a) v)=List.replicate n (.int .i64 (v:Int)):=by
   rw[CO];simp[ints]
  rw[e1,e2]at hb;rw[i];simpa[zl]using hb
theorem iv.jU (h:iv U p q st){a n c:Nat}(hl:a+n<=st.length)(v:Nat){R:aP}(hR:∀σ',Ext (· = q) U σ'->iv σ' p q (gH st a (a+n) v)->R σ') :
 Q1.c ⟨some ⟨q,a,none⟩,n,c⟩ v U R:=by
 obtain⟨r,b⟩:=h.row;have:=h.n2;exact Ar.jU b (by simp[Kq];omega) O v λσ' d g=>hR σ' d.ext (h.fill b hl d g)
theorem Ep (h:iv U p q st){R:aO}(hR:R true U):XE.c (aW p) U R:=by
 refine XE.o ?_;unfold XE.v;refine bX.intro (cF rfl (bL (h.rS λcap _=>?_)));have:=h.n1;rw[zI aC];exact hR
theorem Wnv (h:iv U p q st){R:aN}(hR:R ((st.length/16:Nat):Int) U):Y8.c (aW p) U R:=by
 refine Y8.o ?_;unfold Y8.v;have:=h.n2;refine bL (h.rS λcap _=>nz aB ?_);refine cT (m:=st.length/16) ?_ O hR;rw[YU O];simp
theorem SC (h:iv U p q st){k:Nat}(hk:16*k+16<=st.length){R:Sl->Hp->Prop}(hR:∀c,R ⟨some ⟨q,16*k,none⟩,16,c⟩ U):Zp.c (aW p) (k:Int) U R:=by
 refine Zp.o ?_;unfold Zp.v;have:=h.n2;refine bL (h.rS λcap a=>?_);refine cT (m:=16*k) O O (cT (m:=k+1) O O (cT (m:=16*k+16) O O ?_));refine jv O aC aC ?_;have e:16*k+16-16*k=16:=O
 rw[zB aC,e];simp only[ze,add_lit,nL,zH];exact hR _
theorem Nc (h:iv U p q st)(k:Int){R:Sl->Int->Hp->Prop}(h1:∀(x:Nat) c,k=(x:Int)->16*x+16<=st.length->R ⟨some ⟨q,16*x,none⟩,16,c⟩ 0 U)(h0:wD st.length k=false->R ⟨none,0,0⟩ 1 U) :
 YJ.c (aW p) k U R:=by
 refine YJ.o ?_;unfold YJ.v;have n3:=h.n3;refine Ep h (cD rfl (bX.intro (cN (λa=>cF rfl (h0 ?_)) λa=>Wnv h ?_)))
 .simp[wD];omega
 .refine cN (λd=>h0 ?_) λb=>?_
  .simp[wD];omega
  .obtain⟨x,rfl⟩:=zc (show 0<=k by omega);exact SC h O λc=>h1 x c rfl O
theorem Jj {n x:Nat}(h:16*x+16<=n):wD n (x:Int)=true:=by simp[wD];omega
theorem iv.first (h:iv U p q st){x c:Nat}(hx:16*x+16<=st.length){K:Int->Prop}(hK:K ((st.getD (16*x) 0:Nat):Int)) :
 Ix (some ⟨q,16*x,none⟩) 16 0 1 λa=>gL .i64 a U K:=by
 have b:=h.part (s:=⟨some ⟨q,16*x,none⟩,16,c⟩) (n:=16) rfl rfl hx;refine b.sN (i:=0) (x:=st.getD (16*x) 0) ?_ hK;simp[zm,lK,zQ];rw[cW O];simp
theorem SZ (h:iv U p q st)(k:Int){R:aN}(hR:∀σ',Ext (· = q) U σ'->iv σ' p q (ji st k)->R (kU st k) σ'):Yk.c (aW p) k U R:=by
 refine Yk.o ?_;unfold Yk.v;refine Nc h k (λx c i g=>?_) λi=>?_
 .subst i;have a:=Jj g;refine cD rfl (h.first (c:=c) g (cP (λd=>?_) λd=>?_))
  .have e1:¬st.getD (16*x) 0=0:=by simpa using d
   have:kU st (x:Int)=5:=by simp only[kU,a,dH,zT,zB e1]
   have e2:ji st (x:Int)=st:=by simp[ji,this]
   have:=hR U (Ext.refl _ _);rw[e2]at this;simpa[*]using this h
  .have e1:st.getD (16*x) 0=0:=by simpa using d
   have b:kU st (x:Int)=0:=by simp only[kU,a,dH,zT,e1]
   have e2:ji st (x:Int)=gH st (16*x) (16*x+16) 3:=by simp[ji,b]
   refine h.jU g 3 λσ' e j=>?_;have:=hR σ' e;rw[b,e2]at this;exact this j
 .have b:kU st k=1:=by simp[kU,i]
  have e2:ji st k=st:=by simp[ji,b]
  refine cF rfl ?_;have:=hR U (Ext.refl _ _);rw[b,e2]at this;exact this h
theorem Jy {s:Sl}{xs:List Nat}(h:cV s 1 (ints xs) U F)(hl:xs.length<=1000000)(v:Nat){R:aN}(h1:∀i:Nat,xs[i]?=some v->(∀j:Nat,j<i->xs[j]?≠some v)->R (i:Int) U)(h0:v∉xs->R (-1) U) :
 W3.c s (v:Int) U R:=by
 refine W3.o ?_;unfold W3.v;have w:=h.oY;refine Qg (a:=bO) (λ(t:Int) x=>∃i:Nat,t=(i:Int)/\i<=xs.length/\x=U/\∀j,j<i->xs[j]?≠some v) (λt _=>xs.length-t.toNat) ⟨0,rfl,O,rfl,λj d=>O⟩ ?_;rintro t x ⟨i,rfl,hi,rfl,b⟩;refine cN (λy=>?_) λz=>?_
 .have r:i<xs.length:=O
  have p:xs[i]?=some xs[i]:=cW r;refine h.sN p ?_;rw[mg];refine cP (λg=>?_) λg=>?_
  .have:v=xs[i]:=by simpa using g
   exact h1 i (by rw[p,this]) b
  .have u:¬v=xs[i]:=by simpa using g
   refine cT (m:=i+1) O O ⟨⟨i+1,rfl,O,rfl,λj d=>?_⟩,O⟩;by_cases e:j=i
   .subst e;rw[p];intro e2;cases e2;exact u rfl
   .exact b j O
 .refine h0 λA=>?_;obtain⟨j,d⟩:=zP A;have:=(cY.1 d).1;exact b j O d
theorem We6 {s:Sl}{xs:List Nat}(h:cV s 1 (ints xs) U F)(hl:xs.length<=1000000)(v:Nat){R:aO}(hR:R (xs.contains v) U):Ww.c s (v:Int) U R:=by
 refine Ww.o ?_;unfold Ww.v;refine Jy h hl v (λi hi _=>?_) λa=>?_
 .have:xs.contains v=true:=by simpa using zG hi
  rw[this]at hR;rw[zI O];exact hR
 .have:xs.contains v=false:=by simpa using a
  rw[this]at hR;exact hR
theorem G6 {s:Sl}{xs:List Int}(h:cV s 1 (xs.map (Value.int .i64)) U F)(hl:xs.length<=1000000000)(v:Int){R:aO}(hR:R (xs.contains v) U):Ww.c s v U R:=by
 refine Ww.o ?_;unfold Ww.v;refine W3.o ?_;unfold W3.v;have u:s.len=xs.length:=by have:=h.1;simp at this;omega
 refine Qg (a:=bO) (λ(t:Int) w=>∃i:Nat,t=(i:Int)/\i<=xs.length/\w=U/\∀j,j<i->xs[j]?≠some v) (λt _=>xs.length-t.toNat) ⟨0,rfl,O,rfl,λj d=>O⟩ ?_;rintro t w ⟨i,rfl,hi,rfl,b⟩;refine cN (λy=>?_) λz=>?_
 .have p:i<xs.length:=O
  have x:xs[i]?=some xs[i]:=cW p;refine h.mf x (cP (λg=>?_) λg=>?_)
  .have e:v=xs[i]:=by simpa using g
   have:xs.contains v=true:=by rw[e];simp
   rw[this]at hR;show R (decide ((i:Int)≥0)) _;rw[zI O];exact hR
  .have r:¬v=xs[i]:=by simpa using g
   refine cT (m:=i+1) O O ⟨⟨i+1,rfl,O,rfl,λj d=>?_⟩,O⟩;by_cases e:j=i
   .subst e;rw[x];intro e2;cases e2;exact r rfl
   .exact b j O
 .have:xs.contains v=false:=by
   simp only[s7,decide_eq_false_iff_not];intro hm;obtain⟨j,d⟩:=zP hm;have:=(cY.1 d).1;exact b j O d
  rw[this]at hR;exact hR
def Fc (f:Fv)(p:Nat->Bool)(U:Hp):Prop:=∀(x:Nat) (σ':Hp) (R:aO),aF U σ'->(∀σ'',aF σ' σ''->R (p x) σ'')->VP Tryz.prog f [.int .i64 (x:Int)] [.one .b] σ' R
theorem SR {s:Sl}{xs:List Nat}(h:cV s 1 (ints xs) U F)(hl:xs.length<=1000000){f:Fv}{pr:Nat->Bool}(hf:Fc f pr U){R:aO}(hR:∀σ',aF U σ'->R (xs.any pr) σ') :
 WP.c s f U R:=by
 refine WP.o ?_;unfold WP.v;refine Xg.o ?_;unfold Xg.v;have u:=h.oY;refine Qg (a:=bO) (λ(t:Int) w=>∃i:Nat,t=(i:Int)/\i<=xs.length/\aF U w/\∀j x,j<i->xs[j]?=some x->pr x=false) (λt _=>xs.length-t.toNat) ⟨0,rfl,O,Ext.refl _ _,λj x p=>O⟩ ?_;rintro t w ⟨i,rfl,hi,e,g⟩;refine cN (λy=>?_) λz=>?_
 .have d:i<xs.length:=O
  have r:xs[i]?=some xs[i]:=cW d;refine(aH.bP h e).sN r (hf _ _ _ e λA e2=>?_);cases hp:pr xs[i]
  .refine cD rfl (cT (m:=i+1) O O ⟨⟨i+1,rfl,O,e.trans e2,λj x p b=>?_⟩,O⟩);by_cases e3:j=i
   .subst e3;rw[r]at b;cases b;exact hp
   .exact g j x O b
  .refine cF rfl ?_;have:xs.any pr=true:=zy.2 ⟨_,ky d,hp⟩;show R (decide ((i:Int)≥0)) _;rw[zI O,←this];exact hR _ (e.trans e2)
 .have:xs.any pr=false:=by
   rw[mG];intro x r;obtain⟨j,p⟩:=zP r;have:=(cY.1 p).1;simp[g j x O p]
  show R (decide ((-1:Int)≥0)) _;rw[show decide ((-1:Int)≥0)=false from rfl,←this];exact hR _ e
theorem Oo {c:Nat}{s:Sl}{fr:List Nat}{σ0:Hp}(hb:bY σ0 c [.slice s.a s.len s.cap])(hs:cV s 1 (ints fr) σ0 F)(hl:fr.length<=1000):Fc ⟨305,#[],#[.pointer (some ⟨c,0,none⟩)]⟩ (λx=>!fr.contains x) σ0:=by
 intro x σ' R e hR;refine Gn (all := #[.int .i64 (x:Int),.pointer (some ⟨c,0,none⟩)]) (by kernel_rfl) aA ?_;refine YQ.o ?_;unfold YQ.v;refine(e.bV hb id).wu rfl ?_;exact We6 (aH.bP hs e) O x (hR _ (Ext.refl _ _))
theorem JG (h:iv U p q st)(a m:Int)(v:Nat){s:Sl}{fr:List Nat}(hs:cV s 1 (ints fr) U F)(hl:fr.length<=1000){R:aN}(hR:∀σ',Ext (· = q) U σ'->iv σ' p q (UY st a m v fr)->R (qe st a m fr) σ') :
 X5.c (aW p) a m v s U R:=by
 refine X5.o ?_;unfold X5.v;have n2:=h.n2;have P:=h.lt.2;refine nw (cs:=[.slice s.a s.len s.cap]) λv1 Q j K=>?_;have g:=h.bP j;have d:¬(0<=a/\1<=m/\m<=st.length-a)->R 1 v1:=λN=>by
  have b:ZF st.length a m=false:=by simp only[ZF,←wh];exact zL N
  have e1:qe st a m fr=1:=by simp[qe,b]
  have e2:UY st a m v fr=st:=by simp[UY,e1]
  have:=hR v1 j.to;rw[e1,e2]at this;exact this g
 refine Ep g (cD rfl (bX.intro ?_));refine cN (λE=>bX.intro (cF rfl (bX.intro (cF rfl (cF rfl (d O)))))) λE=>?_;refine bX.intro (cN (λJ=>bX.intro (cF rfl (cF rfl (d O)))) λJ=>?_);refine bL (g.rS λcap C=>bX.intro (cN (λA=>cF rfl (d (by simp only at *;omega))) λA=>?_));simp only at A;refine bL (g.rS λcap C=>ar aC aC (cN (λB=>d (by simp only at *;omega)) λB=>?_));simp only at B;obtain⟨x,rfl⟩:=zc (show 0<=a by omega);obtain⟨y,rfl⟩:=zc (show 0<=m by omega);have i:x+y<=st.length:=O
 have b:ZF st.length (x:Int) (y:Int)=true:=by simp only[ZF,zF,zV];omega
 refine bL (g.rS λcap C=>cT (m:=x+y) O O (jv O aC aC ?_));rw[zB aC];simp only[ze,add_lit,nL,zH];have G:x+y-x=y:=O
 rw[G];have D:=g.part (s:=⟨some ⟨q,x,none⟩,y,cap-x⟩) (n:=y) rfl rfl i;refine SR D aE (Oo (s:=s) K (aH.bP hs j) hl) λH e2=>?_;have w:=g.bP e2;have r:((st.drop x).take y).any (λz=>!fr.contains z) = !wo st x y fr:=by
  rw[wo,List.all_eq_not_any_not,Bool.not_not]
 rw[r];cases hA:wo st x y fr
 .have e1:qe st (x:Int) (y:Int) fr=5:=by simp[qe,b,hA]
  have u:UY st (x:Int) (y:Int) v fr=st:=by simp[UY,e1]
  have:=hR H (j.to.trans e2.to);rw[e1,u]at this;exact cF rfl (this w)
 .have e1:qe st (x:Int) (y:Int) fr=0:=by simp[qe,b,hA]
  have u:UY st (x:Int) (y:Int) v fr=gH st x (x+y) v:=by simp[UY,e1]
  refine cD rfl (w.jU i v λv3 L M=>?_);have:=hR v3 (j.to.trans (e2.to.trans L));rw[e1,u]at this;exact this M
theorem yS {h:Hp}{b:Nat}{xs:List Nat}{n c:Nat}(hb:bY h b (ints xs))(hn:n=xs.length):cV ⟨some ⟨b,0,none⟩,n,c⟩ 1 (ints xs) h (· = b):=
 hb.fY (o:=0) rfl (by rw[Kq];simp[hn]) λj _=>by rw[zH]
theorem Nb (h:iv U p q st)(a m:Int){R:aN}(hR:∀σ',Ext (· = q) U σ'->iv σ' p q (UY st a m 1 [2,3])->R (qe st a m [2,3]) σ'):XV.c (aW p) a m U R:=by
 refine XV.o ?_;unfold XV.v;refine nw (cs:=ints [2,3]) λv i e d=>?_;exact JG (h.bP e) a m 1 (yS d rfl) aA λσ' g b=>hR σ' (e.to.trans g) b
theorem OV (h:iv U p q st)(a m:Int){R:aN}(hR:∀σ',Ext (· = q) U σ'->iv σ' p q (UY st a m 2 [1])->R (qe st a m [1]) σ'):XN.c (aW p) a m U R:=by
 refine XN.o ?_;unfold XN.v;refine nw (cs:=ints [1]) λv i e d=>?_;exact JG (h.bP e) a m 2 (yS d rfl) aA λσ' g b=>hR σ' (e.to.trans g) b
def A6 (st:List Nat)(x:Int):Int:=if 0<=x/\x<st.length then((st.getD x.toNat 0:Nat):Int)else -1
theorem RM (h:iv U p q st)(x:Int){R:aN}(hR:R (A6 st x) U):Yf.c (aW p) x U R:=by
 refine Yf.o ?_;unfold Yf.v;have n2:=h.n2;unfold A6 at hR;refine Ep h (bX.intro (cD rfl (bX.intro (cN (λi=>cF rfl ?_) λi=>bL (h.rS λcap j=>cN (λb=>?_) λb=>?_)))))
 .rw[zB O]at hR;exact hR
 .simp only at b;rw[zB O]at hR;exact hR
 .simp only at b;rw[zC O]at hR;obtain⟨y,rfl⟩:=zc (show 0<=x by omega);refine bL (h.rS λcap j=>?_);have g:=h.part (s:=⟨some ⟨q,0,none⟩,st.length,cap⟩) (a:=0) (n:=st.length) rfl rfl O;rw[yQ,mi]at g;have d:y<st.length:=O
  refine g.sN (cW d) ?_;simpa[zQ,cW d]using hR
theorem H6 {s:Sl}{vs:List Value}(h:cV s 1 vs U F)(h1:∀v∈vs,dY v=true)(hl:s.len<=1000000){R:Sl->Hp->Prop}
 (hR:∀s' σ',s'.len=s.len->aF U σ'->bU s' 1 vs σ' (λb=>U.size<=b)->R s' σ'):W4.c s U R:=by
 refine W4.o ?_;unfold W4.v;exact CY h aB rfl h1 aB hl hR
theorem Wl1 {n:Nat}(h1:16<=n)(h2:n<=1024)(h3:n%16=0){R:Option Addr->Int->Hp->Prop}(hR:∀σ' p q,aF U σ'->U.size<=p->U.size<=q->iv σ' p q (List.replicate n 0)->R (some ⟨p,0,none⟩) 0 σ'):Vj.c (n:Int) U R:=by
 refine Vj.o ?_;unfold Vj.v;refine bX.intro (gA O (bX.intro (gA O (nz aB ?_))));rw[Ki O];have:(((n:Int)%16) != 0)=false:=by
  have:((n:Int)%16)=0:=O
  rw[this];rfl
 rw[this];refine cD rfl (mk O O λv j e b=>nw (cs:=[.slice (some ⟨U.size,0,none⟩) n n]) λi d e2 a=>?_);have g:(List.replicate n [Value.int .i64 0]).flatten=ints (List.replicate n 0):=by
  have:[Value.int .i64 0]=ints [0]:=rfl;rw[this];clear b hR
  induction n with
  | zero=>rfl
  | succ n ih=>simp[sX,ints]
 rw[g]at b;refine hR _ _ _ (e.trans e2) O (zD _) ⟨⟨n,by simp,by simpa using a⟩,⟨[],by simpa using e2.bV b id⟩,O,by simpa using h1,by simpa using h2,by simpa using h3⟩
end Go.Ar
namespace Go.Proofs
open Go.Vc
set_option maxRecDepth 100000
def Z3.h:Hn:=.q .o1 (.q (.q .o3 .aJ) (.q (.cU (.tail 10 (RI.ops 10) [.op])) .l))
def Z3.v (a:R2)(b:Hp)(c:Int->Int->Hp->Prop):Prop:=aV #[.I 0,.I 0] 268 b λd e=>YE.c a e λf g=>If (!f) (aR d 0 (.I 0) g λh=>aR d 1 (.I 0) h λi=>aQ d 0 i λj=>aQ d 1 i λk=>c j k i) (bE a 0 g λm=>bW a λn=>bN ((n.add 1).add 1) g λo=>aR d 0 (.I m) g λp=>aR d 1 (.I o) p λq=>aQ d 0 q λr=>aQ d 1 q λs=>c r s q)
theorem Z3.o {a b c}(d:Z3.v a b c):Z3.c a b c:=Wa Tryz.func198 (x:=Z3.h) (R0 d)
def YC.h:Hn:=.q .o1 (.q (.q .o3 .aK) (.q .o6 .l))
def YC.v (a:R2)(b:Hp)(c:aN):Prop:=YE.c a b λd e=>If (!d) (c 0 e) (bF a 4 e λg=>c ((g.len:Nat):Int) e)
theorem YC.o {a b c}(d:YC.v a b c):YC.c a b c:=Wa Tryz.func201 (x:=YC.h) (R0 d)
def YE.h:Hn:=.q .o1 (.q (.cU (.seq [.op,.op,.op,.cZ true 6 (RI.ops 6),.op])) .l)
def YE.v (a:R2)(b:Hp)(c:aO):Prop:=bX (λd e=>c d e) λf=>If (!a.isNone) (bF a 4 b λh=>f (decide (((h.len:Nat):Int)>0)) b) (f false b)
theorem YE.o {a b c}(d:YE.v a b c):YE.c a b c:=Wa Tryz.func268 (x:=YE.h) (R0 d)
def Vk.h:Hn:=.q .o3 (.q .o7 (.q (.q (.cU (.seq [.op,.op,.op,.cZ false 2 [.op,.op],.op,.cZ false 5 (RI.ops 5)])) .aJ) (.q (.cU (.held true [] (.tk [0,1,2] (.all [(3,.take 4 (.all [(5,.take 6 (.take 7 (.done)))]))])))) .l)))
def Vk.v (a b c d:Int)(e:Hp)(f:Option Addr->Int->Hp->Prop):Prop:=aV #[.I b,.I c,.I d] 149 e λg h=>aQ g 0 h λi=>aQ g 1 h λj=>aQ g 2 h λk=>ZU.c i j k h λl m n=>bX (λo p=>bX (λq r=>If q (f none 1 r) (dT r λs=>aS s g 0 λt=>aS s g 1 λu=>aS s g 2 λv=>Mk l l 8 3 [.I 0] r λw x=>And (s x) <| aV #[.I a,.I t,.I u,.I v,.slice w.a w.len w.cap,.I 0] 339 x λy z=>And (s z) <| f (some y) 0 z)) λaa=>If o (aa true p) (aQ g 1 p λab=>bM (1024-ab) λac=>aa (decide (a>ac)) p)) λad=>If (m != 0) (ad true n) (ad (decide (a<0)) n)
theorem Vk.o {a b c d e f}(g:Vk.v a b c d e f):Vk.c a b c d e f:=Wa Tryz.func290 (x:=Vk.h) (R0 g)
def ZV.h:Hn:=.q .o1 (.q .o8 (.q (.k (.q .o3 (.c .aL (.q .o9 .aK)))) (.q .o4 .aM)))
def ZV.v (a:R2)(b:Int)(c:Hp)(d:aN):Prop:=Ym.c a b c λe f g=>If (f != 0) (d f g) (bF a 4 g λi=>Ix i.a i.len e 1 λj=>bN j g λk=>If (k==0) (d 9 g) (aV #[.I e] 3 g λl m=>Zz.c a 0 ⟨some l,1,1⟩ m λn=>d 0 n))
theorem ZV.o {a b c d}(e:ZV.v a b c d):ZV.c a b c d:=Wa Tryz.func311 (x:=ZV.h) (R0 e)
def ZP.h:Hn:=.q .o2 (.q (.q .o3 .aJ) (.q .o6 (.q (.q .o2 .aJ) (.q .o4 (.q .o5 .l)))))
def ZP.v (a:R2)(b:Hp)(c:Int->Int->Hp->Prop):Prop:=YE.c a b λd e=>If (!d) (c 0 5 e) (bF a 4 e λg=>W3.c g 0 e λh i=>If (h<0) (c 0 6 i) (aV #[.I h] 3 i λj k=>Zz.c a 1 ⟨some j,1,1⟩ k λl=>YH.c a h l λm n=>c m 0 n))
theorem ZP.o {a b c}(d:ZP.v a b c):ZP.c a b c:=Wa Tryz.func316 (x:=ZP.h) (R0 d)
def Yq.h:Hn:=.q .o2 (.q (.q .o3 .aJ) (.q .o5 (.q (.q (.cU (.gM false [] [(32,.one .b)] (.take 0 (.take 1 (.all [(2,.take 3 (.take 4 (.split 18 (.take 5 (.take 6 (.take 7 (.take 8 (.take 9 (.take 10 (.take 11 (.take 12 (.take 13 (.take 14 (.take 15 (.take 16 (.take 17 (.take 18 (.done))))))))))))))) (.take 5 (.take 6 (.take 7 (.take 8 (.take 11 (.take 12 (.take 13 (.take 14 (.all [(9,.take 10 (.all [(15,.take 16 (.take 17 (.take 18 (.done))))])),(15,.all [(9,.take 10 (.take 16 (.take 17 (.take 18 (.done)))))])]))))))))))))]))))) .aJ) (.q .o9 .l))))
def Yq.v (a:R2)(b:Int)(c:Hp)(d:Int->Int->Hp->Prop):Prop:=YE.c a c λe f=>If (!e) (d 0 5 f) (YH.c a 0 f λg h=>bM (b-g) λi=>Jn [.b] (λ(j:Bool) k=>If j (d 0 8 k) (bW a λl=>bN ((l.add 1).add 0) k λm=>Nz m<|bM (i.tdiv m) λn=>d n 0 k)) λo=>YH.c a 0 h λp q=>If (b<p) (o true q) (bW a λr=>bW a λs=>(aX r 4 q λt=>bN ((s.add 1).add 0) q λu=>bM (((t.len:Nat):Int)*u) λv=>o (decide (i≥v)) q) ∧ (bN ((s.add 1).add 0) q λw=>aX r 4 q λx=>bM (((x.len:Nat):Int)*w) λy=>o (decide (i≥y)) q)))
theorem Yq.o {a b c d}(e:Yq.v a b c d):Yq.c a b c d:=Wa Tryz.func322 (x:=Yq.h) (R0 e)
def YD.h:Hn:=.q .o2 (.q .o8 (.q (.q .o2 (.c (.q .o3 .l) .l)) (.q .gE .l)))
def YD.v (a:R2)(b:Int)(c:Hp)(d:Bool->Int->Hp->Prop):Prop:=Ym.c a b c λe f g=>If (f != 0) (d false f g) (bF a 4 g λi=>Ix i.a i.len e 1 λj=>bN j g λk=>d (k==1) 0 g)
theorem YD.o {a b c d}(e:YD.v a b c d):YD.c a b c d:=Wa Tryz.func324 (x:=YD.h) (R0 e)
def Ym.h:Hn:=.q .o2 (.q .o8 (.q (.q (.cU (.seq [.op,.op,.op,.cZ true 5 (RI.ops 5)])) .aJ) (.q .o4 .l)))
def Ym.v (a:R2)(b:Int)(c:Hp)(d:Int->Int->Hp->Prop):Prop:=Yq.c a b c λe f g=>bX (λh i=>If h (d 0 8 i) (d e f i)) λj=>If (f==0) (YH.c a e g λk l=>j (k != b) l) (j false g)
theorem Ym.o {a b c d}(e:Ym.v a b c d):Ym.c a b c d:=Wa Tryz.func335 (x:=Ym.h) (R0 e)
def Zz.h:Hn:=.q .o3 (.k (.loop [(10,.I)] (.q .o1 (.q (.c .l .l) (.q (.k (.q .o3 (.q (.cU (.tail 16 (RI.ops 16) [.op])) .o8))) .o2)))))
def Zz.v (a:R2)(b:Int)(c:Sl)(d:Hp)(e:aP):Prop:=X9 [bO] (λf=>f 0 d) λg (h:Int) i=>If (h<((c.len:Nat):Int)) (Ix c.a c.len h 1 λj=>bN j i λk=>bE a 5 i λm=>bF a 4 i λo=>Ix o.a o.len k 1 λp=>bN p i λq=>bM (b-q) λr=>bM (m+r) λs=>bW a λt=>aR t 5 (.I s) i λu=>bF a 4 u λw=>Ix w.a w.len k 1 λx=>dG x (.I b) u λy=>bM (h+1) λz=>g z y) (e i)
theorem Zz.o {a b c d e}(f:Zz.v a b c d e):Zz.c a b c d e:=Wa Tryz.func336 (x:=Zz.h) (R0 f)
def YH.h:Hn:=.q .o1 (.q (.oq 14) .l)
def YH.v (a:R2)(b:Int)(c:Hp)(d:aN):Prop:=bE a 0 c λf=>bM (f*256) λg=>bW a λh=>bN ((h.add 1).add 0) c λi=>bM (b*i) λj=>bM (g+j) λk=>d k c
theorem YH.o {a b c d}(e:YH.v a b c d):YH.c a b c d:=Wa Tryz.func339 (x:=YH.h) (R0 e)
end Go.Proofs
namespace Go.Ar
open Go Go.Vc Go.Proofs
variable {U:Hp}{F:Rg}{p q:Nat}{c:cA}{s:cH}
def od (tk:List Bool):List Nat:=tk.map λb=>if b then 1 else 0
theorem wS (tk:List Bool):(od tk).length=tk.length:=by simp[od]
theorem GU {tk:List Bool}{i:Nat}{b:Bool}(h:tk[i]?=some b):(od tk)[i]?=some (if b then 1 else 0):=by simp[od,h]
theorem Ψ (tk:List Bool)(i:Nat)(b:Bool):od (tk.set i b)=(od tk).set i (if b then 1 else 0):=by simp[od,wA]
structure ij (U:Hp) (p q:Nat) (c:cA) (s:cH):Prop where
 hd:∃cap,c.n<=cap/\bY U p [.int .i64 (s.st:Int),.int .i64 (c.size:Int),.int .i64 (c.aG:Int),.int .i64 (c.batch:Int),.slice (some ⟨q,0,none⟩) c.n cap,.int .i64 (s.many:Int)]
 row:∃rest,bY U q (ints (od s.tk)++rest)
 ne:p≠q
 len:s.tk.length=c.n
 ok:c.ok
 fit:s.st+c.aG<=1024
theorem ij.bT {σ':Hp}(h:ij U p q c s)(e:Ext F U σ')(hp:¬F p)(hq:¬F q):ij σ' p q c s:=
 ⟨by obtain⟨c,a,b⟩:=h.hd;exact⟨c,a,e.bV b hp⟩,by obtain⟨r,a⟩:=h.row;exact⟨r,e.bV a hq⟩,h.ne,h.len,h.ok,h.fit⟩
theorem ij.bP {σ':Hp}(h:ij U p q c s)(e:aF U σ'):ij σ' p q c s:=h.bT e id id
theorem ij.lt (h:ij U p q c s):p<U.size/\q<U.size:=by
 obtain⟨_,_,a⟩:=h.hd;obtain⟨_,b⟩:=h.row;exact⟨a.lt,b.lt⟩
theorem ij.rS (h:ij U p q c s){K:Sl->Prop}(hK:∀cap,c.n<=cap->K ⟨some ⟨q,0,none⟩,c.n,cap⟩):jF (Addr.add ⟨p,0,none⟩ 4) U K:=by
 obtain⟨d,a,b⟩:=h.hd;exact b.rS rfl (hK d a)
theorem ij.rI (h:ij U p q c s){i:Nat}{x:Int}(hx:∀a b:Value,([.int .i64 (s.st:Int),.int .i64 (c.size:Int),.int .i64 (c.aG:Int),.int .i64 (c.batch:Int),a,.int .i64 (s.many:Int)]:List Value)[0+i]?=some (.int .i64 x)){K:Int->Prop}(hK:K x):gL .i64 (Addr.add ⟨p,0,none⟩ i) U K:=by
 obtain⟨j,g,d⟩:=h.hd;exact d.rI (hx _ .nilFunc) hK
theorem ij.fE (h:ij U p q c s){i j:Nat}{x:Int}(hx:∀a b:Value,([.int .i64 (s.st:Int),.int .i64 (c.size:Int),.int .i64 (c.aG:Int),.int .i64 (c.batch:Int),a,.int .i64 (s.many:Int)]:List Value)[0+i+j]?=some (.int .i64 x)){K:Int->Prop}(hK:K x):gL .i64 (Addr.add (Addr.add ⟨p,0,none⟩ i) j) U K:=by
 obtain⟨m,g,d⟩:=h.hd;exact d.fE (hx _ .nilFunc) hK
theorem ij.lE (h:ij U p q c s)(cap:Nat):cV ⟨some ⟨q,0,none⟩,c.n,cap⟩ 1 (ints (od s.tk)) U (· = q):=by
 obtain⟨r,b⟩:=h.row;refine b.fY (o:=0) rfl (by rw[Kq,wS,h.len];simp) λj a=>?_;rw[zH,zd a]
theorem Ai (h:ij U p q c s){R:aO}(hR:R true U):YE.c (aW p) U R:=by
 refine YE.o ?_;unfold YE.v;refine bX.intro (cF rfl (bL (h.rS λcap _=>?_)));have:=h.ok.tK;rw[zI aC];exact hR
theorem Ξ (h:ij U p q c s){R:aN}(hR:R (c.n:Int) U):YC.c (aW p) U R:=by
 refine YC.o ?_;unfold YC.v;exact Ai h (cD rfl (bL (h.rS λcap _=>hR)))
theorem AM (h:ij U p q c s)(i:Nat)(hi:i<=1000){R:aN}(hR:R ((at_ c s i:Nat):Int) U):YH.c (aW p) (i:Int) U R:=by
 refine YH.o ?_;unfold YH.v;have a:=h.ok;unfold cA.ok at a;have:=h.fit;have b:i*c.size<=1000*512:=mC hi O;refine bL (h.rI (λ_ _=>rfl) (cT (m:=s.st*256) aA O (bL (h.fE (λ_ _=>rfl) ?_))));exact cT (m:=i*c.size) aA O (cT (m:=at_ c s i) (by simp[at_]) (by unfold at_;omega) hR)
theorem DY (h:ij U p q c s)(x:Int)(hx2:x<=9223372036854775807){R:Int->Int->Hp->Prop}(h1:∀i,idx c s x=some i->R (i:Int) 0 U)(h0:idx c s x=none->R 0 8 U):Yq.c (aW p) x U R:=by
 refine Yq.o ?_;unfold Yq.v;have C:=h.ok;unfold cA.ok at C;have D:=h.ok.kT;have z:=h.fit;have a:=h.len;have E:c.n*c.size<=128*512:=mC D O;refine Ai h (cD rfl (AM h 0 O ?_));have w:at_ c s 0=s.st*256:=by simp[at_]
 rw[w];refine vO ?_;refine Jn.intro (AM h 0 O ?_);rw[w];refine cN (λA=>cF rfl (h0 ?_)) λB=>?_
 .unfold idx;rw[zC O]
 .rw[UA O O];obtain⟨y,F⟩:=zc (show 0<=x by omega);have key:If (decide (x-((s.st*256:Nat):Int)≥((c.n*c.size:Nat):Int))) (R 0 8 U)
   (bW (some ⟨p,0,none⟩) λj=>gL .i64 ((j.add 1).add 0) U λd=>Nz d<|Ar .i64 ((x-((s.st*256:Nat):Int)).tdiv d) λg=>R g 0 U):=by
   refine cN (λr=>h0 ?_) λu=>bL (h.fE (λ_ _=>rfl) (nz O ?_))
   .unfold idx;rw[a,zC O]
   .have:idx c s x=some ((x-((s.st*256:Nat):Int)).toNat/c.size):=by unfold idx;rw[a,zB O]
    refine cT (m:=(x-((s.st*256:Nat):Int)).toNat/c.size) ?_ ?_ (h1 _ this)
    .rw[YU O];have:x-((s.st*256:Nat):Int)=(((x-((s.st*256:Nat):Int)).toNat:Nat):Int):=O
     rw[this];simp
    .have:=Nat.div_le_self (x-((s.st*256:Nat):Int)).toNat c.size;omega
  refine bL (bL ⟨h.rS λcap b=>h.fE (λ_ _=>rfl) (cT (m:=c.n*c.size) aA O key),h.fE (λ_ _=>rfl) (h.rS λcap b=>cT (m:=c.n*c.size) aA O key)⟩)
theorem EN (h:ij U p q c s)(x:Int)(hx2:x<=9223372036854775807){R:Int->Int->Hp->Prop}(h1:∀i,obj c s x=some i->i<c.n->R (i:Int) 0 U)(h0:obj c s x=none->R 0 8 U):Ym.c (aW p) x U R:=by
 refine Ym.o ?_;unfold Ym.v;have d:=h.ok;unfold cA.ok at d;have g:=h.ok.kT;refine DY h x hx2 (λi hi=>bX.intro (cF rfl ?_)) λhi=>bX.intro (cD rfl (cD rfl (h0 (by unfold obj;rw[hi]))));have a:=((Uu O).1 hi).2.2;rw[h.len]at a;refine AM h i O (cP (λb=>h0 ?_) λb=>h1 i ?_ a)
 .have:¬x=((at_ c s i:Nat):Int):=λe=>by rw[e]at b;simp at b
  unfold obj;rw[hi];simp[this]
 .have:x=((at_ c s i:Nat):Int):=by
   have:((at_ c s i:Nat):Int)=x:=by simpa using b
   exact this.symm
  unfold obj;rw[hi];simp[this]
def cH.is (s:cH)(i:Nat):Bool:=s.tk.getD i false
theorem cH.lz {s:cH}{i:Nat}(hi:i<s.tk.length):s.tk[i]?=some (s.is i):=by
 simp[cH.is,zQ,cW hi]
theorem Wfd (h:ij U p q c s)(x:Int)(hx2:x<=9223372036854775807){R:Bool->Int->Hp->Prop}(h1:∀i,obj c s x=some i->R (s.is i) 0 U)(h0:obj c s x=none->R false 8 U):YD.c (aW p) x U R:=by
 refine YD.o ?_;unfold YD.v;refine EN h x hx2 (λi hi a=>cD rfl (bL (h.rS λcap b=>?_))) λhi=>cF rfl (h0 hi);rw[←h.len]at a;refine(h.lE cap).sN (GU (cH.lz a)) ?_;have:=h1 i hi;cases hb:s.is i<;>rw[hb]at this<;>simpa using this
theorem Bn {s:cH}{i:Nat}(hi:i<s.tk.length)(v:Bool):((s.put i v).many:Int)=s.many+((if v then 1 else 0)-(if s.is i then 1 else 0)):=by
 have key:∀(l:List Bool) (i:Nat) (b:Bool),l[i]?=some b->(((l.set i v).count true:Nat):Int)=(l.count true:Nat)+((if v then 1 else 0)-(if b then 1 else 0)):=by
  intro l
  induction l with
  | nil=>intro i b h;simp at h
  | cons x l ih=>
   intro i b h;cases i with
   | zero=>
    simp at h;subst h;cases v<;>cases x<;>simp[List.count_cons]<;>omega
   | succ i=>
    have:=ih i b (by simpa using h);simp only[tG,List.count_cons]
    push_cast
    omega
 exact key s.tk i _ (cH.lz hi)
theorem Eh (s:cH):s.many<=s.tk.length:=List.count_le_length
theorem LO (h:ij U p q c s){i:Nat}(hi:i<c.n)(v:Bool){sl:Sl}{G:Rg}(hs:cV sl 1 (ints [i]) U G){R:aP}(hR:∀σ',Ext (λb=>b=p\/b=q) U σ'->ij σ' p q c (s.put i v)->R σ') :
 Zz.c (aW p) (if v then 1 else 0) sl U R:=by
 refine Zz.o ?_;unfold Zz.v;have K:sl.len=1:=hs.oY;have S:=h.ok.kT;have E:=h.len;have V:=Eh s;have u:i<s.tk.length:=O
 have g:=Bn u v;refine Qg (a:=bO) (λ(t:Int) C=>t=0/\C=U\/t=1/\Ext (λb=>b=p\/b=q) U C/\ij C p q c (s.put i v)) (λt _=>1-t.toNat) (.inl ⟨rfl,rfl⟩) ?_;rintro t C (⟨rfl,rfl⟩|⟨rfl,e,L⟩)
 .refine lV O ?_;refine hs.sN (i:=0) (x:=i) rfl (bL (h.rI (λ_ _=>rfl) (bL (h.rS λcap H=>?_))));refine(h.lE cap).sN (GU (cH.lz u)) ?_;have M:(0:Int)<=(if v then 1 else 0)/\(if v then(1:Int)else 0)<=1:=by cases v<;>simp
  have N:(0:Int)<=((if s.is i then 1 else 0:Nat):Int)/\((if s.is i then 1 else 0:Nat):Int)<=1:=by cases s.is i<;>simp
  have d:((if s.is i then 1 else 0:Nat):Int)=(if s.is i then 1 else 0):=by cases s.is i<;>rfl
  refine ar O O (ar O O (bL ?_));obtain⟨J,D,hd⟩:=h.hd;obtain⟨r,y⟩:=h.row;refine hd.s1 aA λP B w=>?_;have j:=WF B y (Ne.symm h.ne);refine bL (w.rS rfl (ix O aC ?_));rw[add_lit];refine j.s0 (by simp[Kq,wS];omega) λQ z A=>?_;refine cT (m:=1) O O ⟨.inr ⟨rfl,?_,?_⟩,by decide⟩
  .exact(Ext.eW (F:=λb=>b=p\/b=q) B (.inl rfl)).trans (Ext.eW z (.inr rfl))
  .refine⟨⟨J,D,?_⟩,⟨r,?_⟩,h.ne,by simp[cH.put,h.len],h.ok,h.fit⟩
   .have:=WF z w h.ne;rw[g,←d];exact this
   .have e:(ints (od s.tk)++r).set (0+(i:Int).toNat*1) (.int .i64 (if v then 1 else 0))=ints (od (s.put i v).tk)++r:=by
     rw[List.set_append_left _ _ (by simp[Kq,wS];omega)]
     congr 1
     simp only[cH.put,Ψ,ints,wA];have:(0+(i:Int).toNat*1)=i:=O
     rw[this]
     congr 1
     cases v<;>rfl
    rw[e]at A;exact A
 .exact gA O (hR _ e L)
theorem SS (h:ij U p q c s){x:Int}{i:Nat}(hx2:x<=9223372036854775807)(ho:obj c s x=some i)(ht:s.is i=true){R:aN}(hR:∀σ',Ext (λb=>b=p\/b=q) U σ'->ij σ' p q c (s.put i false)->R 0 σ') :
 ZV.c (aW p) x U R:=by
 refine ZV.o ?_;unfold ZV.v;refine EN h x hx2 (λj g d=>cD rfl (bL (h.rS λcap r=>?_))) λm=>by rw[ho]at m;cases m
 rw[ho]at g;cases g;have a:i<s.tk.length:=by rw[h.len];exact d
 refine(h.lE cap).sN (GU (cH.lz a)) ?_;rw[ht];refine cD rfl (nw (cs:=ints [i]) λv A e w=>?_);have z:=h.lt;exact LO (h.bP e) d false (yS w rfl) λσ' y u=>hR σ' (e.to.trans y) u
theorem N4 (h:ij U p q c s){i:Nat}(hlow:low s=some i){R:Int->Int->Hp->Prop}(hR:∀σ',Ext (λb=>b=p\/b=q) U σ'->ij σ' p q c (s.put i true)->R ((at_ c s i:Nat):Int) 0 σ') :
 ZP.c (aW p) U R:=by
 refine ZP.o ?_;unfold ZP.v;have C:=h.ok.kT;have d:=nV.1 hlow;obtain⟨hi,B,z⟩:=d;have g:s.tk[i]=false:=by simpa using B
 refine Ai h (cD rfl (bL (h.rS λcap y=>?_)));refine Jy (h.lE cap) (by simp[wS,h.len];omega) 0 (λj m a=>?_) λa=>?_
 .have r:j<s.tk.length:=by
   have:=(cY.1 m).1
   rwa [wS]at this
  have u:j=i:=by
   rcases qQ j i with h1|h1|h1
   .have:=z j h1;rw[GU (cW r)]at m;have:s.tk[j]=true:=by simpa using this
    simp[this]at m
   .exact h1
   .exact absurd (by rw[GU (cW hi),g];rfl) (a i h1)
  subst u;rw[h.len]at hi;refine gA O (nw (cs:=ints [j]) λv D e w=>?_);refine LO (h.bP e) hi true (yS w rfl) λσ' A x=>AM x j O (hR σ' (e.to.trans A) x)
 .exfalso;apply a;exact zG (i:=i) (by rw[GU (cW hi),g];rfl)
theorem N1 (h:ij U p q c s){R:Int->Int->Hp->Prop}(hR:∀σ',aF U σ'->R (s.st:Int) (c.aG:Int) σ'):Z3.c (aW p) U R:=by
 refine Z3.o ?_;unfold Z3.v;refine nw (cs:=[.int .i64 0,.int .i64 0]) λv u e m=>?_;have b:=h.bP e;refine Ai b (cD rfl (bL (b.rI (λ_ _=>rfl) (bL (b.fE (λ_ _=>rfl) ?_)))));refine m.s1 aA λr j d=>d.s1 aA λv3 g a=>?_;refine a.rI rfl (a.rI rfl (hR _ ?_));exact Ext.fresh (Ext.fresh e (Ext.eW (F:=(· = U.size)) j rfl) λi hi=>O) (Ext.eW (F:=(· = U.size)) g rfl) λi hi=>by omega
theorem Mp (n:Nat):(List.replicate n [Value.int .i64 0]).flatten=ints (List.replicate n 0):=by
 induction n with
 | zero=>rfl
 | succ n ih=>simp only[sX,vY,ih];rfl
theorem Ε (hc:c.ok){st:Nat}(hf:st+c.aG<=1024){R:Option Addr->Int->Hp->Prop}(hR:∀σ' p q,aF U σ'->U.size<=p->U.size<=q->ij σ' p q c ⟨st,List.replicate c.n false⟩->R (some ⟨p,0,none⟩) 0 σ') :
 Vk.c (st:Int) c.size c.aG c.batch U R:=by
 refine Vk.o ?_;unfold Vk.v;have H:=hc;unfold cA.ok at H;have M:=hc.kT;refine nw (cs:=[.int .i64 c.size,.int .i64 c.aG,.int .i64 c.batch]) λv N e y=>?_;refine y.rI rfl (y.rI rfl (y.rI rfl (IY _ _ _ (λg G e1 e2 D B z=>?_) λu=>?_)))
 case refine_2=>rw[(FZ c).2 hc]at u;cases u
 have:g=c:=by
  obtain⟨a,b,d⟩:=c;obtain⟨L,P,K⟩:=g;simp only at e1 e2 D
  congr 1<;>omega
 subst this;have i:=z.bV y id;refine bX.intro (cD rfl (bX.intro (gA O (i.rI rfl (cT (m:=1024-g.aG) O O (gA O ?_))))));refine⟨λx=>bY x U.size [.int .i64 g.size,.int .i64 g.aG,.int .i64 g.batch],i,⟨_,λx s=>by rw[add_lit,s.cell];rfl,⟨_,λx s=>by rw[add_lit,s.cell];rfl,⟨_,λx s=>by rw[add_lit,s.cell];rfl,?_⟩⟩⟩⟩;refine mk O O λJ F j w=>⟨j.bV i id,nw (cs:=[.int .i64 (st:Int),.int .i64 g.size,.int .i64 g.aG,.int .i64 g.batch,.slice (some ⟨B.size,0,none⟩) g.n g.n,.int .i64 0]) λv3 E r A=>⟨(j.trans r).bV i id,?_⟩⟩;rw[Mp]at w;have C:=z.1;refine hR _ _ _ (((e.trans z).trans j).trans r) O (show U.size<=B.size by omega) ⟨⟨g.n,zD _,?_⟩,⟨[],?_⟩,O,by simp,hc,hf⟩
 .have:cH.many ⟨st,List.replicate g.n false⟩=0:=by simp[cH.many,AU]
  rw[this];exact A
 .have:od (List.replicate g.n false)=List.replicate g.n 0:=by simp[od]
  rw[this,kG];exact r.bV w id
end Go.Ar
namespace Go.Proofs
open Go.Vc
set_option maxRecDepth 100000
def Ya.h:Hn:=.q .o1 (.q (.q .o3 .aK) (.q .o1 (.q .gE .aL)))
def Ya.v (a:R2)(b:Hp)(c:Sl->Hp->Prop):Prop:=W8.c a b λd e=>If (!d) (c ⟨none,0,0⟩ e) (aV #[.slice none 0 0] 201 e λf g=>bF a 3 g λi=>Wi.c i ⟨248,#[],#[.pointer (some f)]⟩ g λj k=>bW a λl=>aR l 3 (.slice j.a j.len j.cap) k λm=>jF f m λn=>c n m)
theorem Ya.o {a b c}(d:Ya.v a b c):Ya.c a b c:=Wa Tryz.func185 (x:=Ya.h) (R0 d)
def W8.h:Hn:=.q .o1 (.q (.cU (.seq [.op,.op,.op,.cZ true 6 (RI.ops 6),.op])) .l)
def W8.v (a:R2)(b:Hp)(c:aO):Prop:=bX (λd e=>c d e) λf=>If (!a.isNone) (bW a λg=>bN ((g.add 0).add 0) b λh=>f (decide (h>0)) b) (f false b)
theorem W8.o {a b c}(d:W8.v a b c):W8.c a b c:=Wa Tryz.func197 (x:=W8.h) (R0 d)
def QJ.h:Hn:=.q .o3 (.q (.q .o7 (.q .o2 .aJ)) (.q .o5 .l))
def QJ.v (a b c:Int)(d:Hp)(e:Option Addr->Int->Hp->Prop):Prop:=aV #[.I a,.I b,.I c] 149 d λf g=>aQ f 0 g λh=>aQ f 1 g λi=>aQ f 2 g λj=>ZU.c h i j g λk l m=>If (l != 0) (e none 1 m) (aQ f 0 m λn=>aQ f 1 m λo=>aQ f 2 m λp=>aV #[.I n,.I o,.I p,.slice none 0 0] 274 m λq r=>e (some q) 0 r)
theorem QJ.o {a b c d e}(f:QJ.v a b c d e):QJ.c a b c d e:=Wa Tryz.func212 (x:=QJ.h) (R0 f)
def Xt.h:Hn:=.q .o2 (.q (.k (.q .o4 (.c .aL (.q .o3 .aJ)))) (.q .o1 (.q (.k (.loop [(6,.one .s)] (.q (.q .o4 (.c .l .l)) (.k (.q .o7 (.q (.q .o2 (.c .l .l)) .o5)))))) (.q .o3 .l))))
def Xt.v (a:R2)(b:Int)(c:Hp)(d:Sl->Int->Hp->Prop):Prop:=W8.c a c λe f=>If (!e) (d ⟨none,0,0⟩ 5 f) (If (b<0) (d ⟨none,0,0⟩ 1 f) (X9 [.s] (λg=>g ⟨none,0,0⟩ f) λh (i:Sl) j=>If (((i.len:Nat):Int)<b) (Zh.c a j λk l m=>If (!l) (d i 0 m) (aV #[.I k] 3 m λn o=>App i 1 8 3 [.I 0] ⟨some n,1,1⟩ o λp q=>h p q)) (d i 0 j)))
theorem Xt.o {a b c d}(e:Xt.v a b c d):Xt.c a b c d:=Wa Tryz.func233 (x:=Xt.h) (R0 e)
def Zc.h:Hn:=.q .o1 (.q (.q .o3 .aK) (.q (.o 11) (.q (.q .o2 .aJ) (.q (.q .o6 (.k (.loop [(31,.I)] (.q .o1 (.q (.c .l .l) (.q (.k (.q .o4 (.q (.oq 17) .aK))) .o2)))))) (.q (.o 11) (.q (.o 15) .aM))))))
def Zc.v (a:R2)(b:Int)(c:Hp)(d:aN):Prop:=W8.c a c λe f=>If (!e) (d 5 f) (bW a λg=>bN ((g.add 0).add 0) f λh=>bN ((g.add 0).add 1) f λi=>bN ((g.add 0).add 2) f λj=>Vk.c b h i j f λk l m=>If (l != 0) (d l m) (bF a 3 m λo=>X9 [bO] (λp=>p 0 m) λq (r:Int) s=>If (r<((o.len:Nat):Int)) (Ix o.a o.len r 3 λt=>aQ t 0 s λu=>aQ t 1 s λv=>aY t 2 s λw=>aV #[.I 0,.I 0,.pointer none] 279 s λx y=>aR x 0 (.I u) y λz=>aR x 1 (.I v) z λaa=>aR x 2 (.pointer w) aa λab=>bN ((x.add 0).add 1) ab λac=>bN ((x.add 0).add 1) ab λad=>bM ((if b>ac then b else ac)-(if b<ad then b else ad)) λae=>bW a λaf=>bN ((af.add 0).add 1) ab λag=>If (ae<ag) (d 9 ab) (bM (r+1) λah=>q ah ab)) (bF a 3 s λaj=>Wc.c aj b ⟨292,#[],#[]⟩ s λak al am=>bF a 3 am λao=>aV #[.I 0,.I b,.pointer k] 279 am λap aq=>Wk.c ao ak ⟨some ap,1,1⟩ aq λar au=>bW a λav=>aR av 3 (.slice ar.a ar.len ar.cap) au λaw=>d 0 aw)))
theorem Zc.o {a b c d}(e:Zc.v a b c d):Zc.c a b c d:=Wa Tryz.func235 (x:=Zc.h) (R0 e)
def Yg.h:Hn:=.q .o2 (.kx [] (.q .o4 (.c (.cU (.held true [6] (.tk [0,1,2] (.all [(3,.all [(4,.all [(5,.all [(6,.done)])])])])))) .l)) (.q .o5 .l))
def Yg.v (a b:Int)(c:R2)(d:Addr)(e:Hp)(f:aO):Prop:=aV #[.I a,.I b,.pointer c] 279 e λg h=>Jn [] (λi=>bN ((g.add 0).add 0) i λj=>f (j==0) i) λk=>bN ((g.add 0).add 0) h λl=>If (l==0) (dT h λm=>gF m .s d λ(n:Sl)=>aU m g 2 λo=>Z3.c o h λp q r=>And (m r) <| aV #[.I p,.I q] 268 r λs t=>And (m t) <| App n 2 16 268 [.I 0,.I 0] ⟨some s,1,1⟩ t λu v=>And (m v) <| dG d (.slice u.a u.len u.cap) v λw=>k w) (k h)
theorem Yg.o {a b c d e f}(g:Yg.v a b c d e f):Yg.c a b c d e f:=Wa Tryz.func248 (x:=Yg.h) (R0 g)
def Y9.h:Hn:=.q .o2 (.q (.q .o3 .aJ) (.q .o1 (.q (.q .o3 (.k (.loop [(6,.one .b),(19,.I)] (.q .o1 (.q (.c .l .l) (.q (.k (.q .o5 (.q .o8 (.q (.q .o2 (.c (.q .o3 .l) .l)) (.cU (.seq [.op,.op,.cZ false 2 [.op,.op],.op,.cZ false 5 (RI.ops 5),.op])))))) .o2)))))) (.q (.q .o1 .aJ) (.q (.q .o3 (.k (.loop [(49,.I)] (.q .o1 (.q (.c .l .l) (.q (.k (.q .o3 (.q .o4 (.q .o6 .gE)))) .o2)))))) (.q .o4 .l))))))
def Y9.v (a:R2)(b:Sl)(c:Hp)(d:Sl->Int->Hp->Prop):Prop:=W8.c a c λe f=>If (!e) (d ⟨none,0,0⟩ 5 f) (X9 [.b,bO] (λg=>g false 0 f) λh (i:Bool) (j:Int) k=>If (j<((b.len:Nat):Int)) (Ix b.a b.len j 1 λl=>bN l k λm=>Xp.c a m k λn o p=>If (o != 0) (d ⟨none,0,0⟩ o p) (bX (λq r=>bX (λs t=>bM (j+1) λu=>h s u t) λv=>If q (v true r) (fI b 1 0 j (b.cap:Nat) λw=>Ww.c w m r λx y=>v x y)) λz=>If i (z true p) (z (!n) p))) (If i (d ⟨none,0,0⟩ 9 k) (X9 [bO] (λaa=>aa 0 k) λab (ac:Int) ad=>If (ac<((b.len:Nat):Int)) (Ix b.a b.len ac 1 λae=>bN ae ad λaf=>X2.c a af ad λag ah=>bG ag 2 ah λaj=>ZV.c aj af ah λak al=>bW ag λam=>bN ((am.add 0).add 0) al λan=>bM (an-1) λao=>bW ag λap=>dG ((ap.add 0).add 0) (.I ao) al λaq=>bM (ac+1) λar=>ab ar aq) (Ya.c a ad λau av=>d au 0 av))))
theorem Y9.o {a b c d}(e:Y9.v a b c d):Y9.c a b c d:=Wa Tryz.func267 (x:=Y9.h) (R0 e)
def Zh.h:Hn:=.q .o2 (.q .o1 (.q (.q .o6 (.k (.loop [(4,.one .p),(14,.I)] (.q .o1 (.q (.c .l .l) (.q (.k (.q .o2 (.q .o7 (.q (.cU (.gM true [] [(48,.one .b)] (.tk [0,1,2,3,4,5,6,7,8] (.all [(9,.take 10 (.take 11 (.split 34 (.take 12 (.take 13 (.take 14 (.split 37 (.take 15 (.take 16 (.take 17 (.take 18 (.take 19 (.take 20 (.take 21 (.take 22 (.take 23 (.take 24 (.take 25 (.done)))))))))))) (.take 15 (.take 16 (.take 17 (.take 19 (.take 20 (.take 21 (.all [(18,.all [(22,.all [(23,.take 24 (.take 25 (.done)))])]),(22,.all [(18,.all [(23,.take 24 (.take 25 (.done)))])])]))))))))))) (.take 12 (.take 13 (.take 14 (.take 15 (.take 16 (.take 17 (.take 18 (.take 19 (.take 20 (.take 21 (.take 22 (.take 23 (.take 24 (.take 25 (.done))))))))))))))))))])))) (.c .o2 .l))))) .o2)))))) (.q (.q .o2 .aJ) (.q .gE (.q .gE (.q .o3 .l))))))
def Zh.v (a:R2)(b:Hp)(c:Int->Bool->Hp->Prop):Prop:=bF a 3 b λe=>X9 [.p,bO] (λf=>f none 0 b) λg (h:R2) (i:Int) j=>If (i<((e.len:Nat):Int)) (bF a 3 j λl=>Ix l.a l.len i 3 λm=>Jn [.b] (λ(n:Bool) o=>If n (bM (i+1) λp=>g (some m) p o) (bM (i+1) λq=>g h q o)) λr=>dT j λs=>bW (some m) λt=>gF s bO ((t.add 0).add 0) λ(u:Int)=>bW (some m) λv=>aU s v 2 λw=>YC.c w j λx y=>And (s y) <| If (u<x) (If h.isNone (r true y) (bW (some m) λz=>bW h λaa=>(bN ((z.add 0).add 0) y λab=>bN ((z.add 0).add 1) y λac=>And (s y) <| bN ((aa.add 0).add 0) y λad=>bN ((aa.add 0).add 1) y λae=>And (s y) <| Xn.c ab ac ad ae y λaf ag=>And (s ag) <| r af ag) ∧ (bN ((aa.add 0).add 0) y λah=>bN ((aa.add 0).add 1) y λai=>And (s y) <| bN ((z.add 0).add 0) y λaj=>bN ((z.add 0).add 1) y λak=>And (s y) <| Xn.c aj ak ah ai y λal am=>And (s am) <| r al am))) (r false y)) (If h.isNone (c 0 false j) (bG h 2 j λao=>ZP.c ao j λap aq ar=>bW h λau=>bN ((au.add 0).add 0) ar λav=>bM (av+1) λaw=>bW h λax=>dG ((ax.add 0).add 0) (.I aw) ar λay=>c ap true ay))
theorem Zh.o {a b c}(d:Zh.v a b c):Zh.c a b c:=Wa Tryz.func285 (x:=Zh.h) (R0 d)
def YY.h:Hn:=.q .o2 (.q .o6 .l)
def YY.v (a b:Int)(c:R2)(d:Int)(e:Hp)(f:aN):Prop:=aV #[.I a,.I b,.pointer c] 279 e λg h=>bN ((g.add 0).add 1) h λi=>bM (i-d) λj=>f j h
theorem YY.o {a b c d e f}(g:YY.v a b c d e f):YY.c a b c d e f:=Wa Tryz.func292 (x:=YY.h) (R0 g)
def YO.h:Hn:=.q .o2 (.q (.q .o3 .aJ) (.q .o4 (.q (.q .o2 .aJ) (.q (.o 11) (.q (.oq 16) .l)))))
def YO.v (a:R2)(b:Int)(c:Hp)(d:Int->Int->Hp->Prop):Prop:=W8.c a c λe f=>If (!e) (d 0 5 f) (X2.c a b f λg h=>If g.isNone (d 0 8 h) (bG g 2 h λj=>Yq.c j b h λk l m=>bW g λn=>bN ((n.add 0).add 1) m λo=>bM (o*256) λp=>bW a λq=>bN ((q.add 0).add 0) m λr=>bM (k*r) λs=>bM (p+s) λt=>d t 0 m))
theorem YO.o {a b c d}(e:YO.v a b c d):YO.c a b c d:=Wa Tryz.func296 (x:=YO.h) (R0 e)
def Xp.h:Hn:=.q .o2 (.q (.q .o3 .aJ) (.q .o4 (.q (.q .o2 .aJ) (.q .gE .l))))
def Xp.v (a:R2)(b:Int)(c:Hp)(d:Bool->Int->Hp->Prop):Prop:=W8.c a c λe f=>If (!e) (d false 5 f) (X2.c a b f λg h=>If g.isNone (d false 8 h) (bG g 2 h λj=>YD.c j b h λk l m=>d k l m))
theorem Xp.o {a b c d}(e:Xp.v a b c d):Xp.c a b c d:=Wa Tryz.func299 (x:=Xp.h) (R0 e)
def X2.h:Hn:=.q .o1 (.q (.q .o6 (.k (.loop [(13,.I)] (.q .o1 (.q (.c .l .l) (.q (.k (.q .o2 (.q (.o 15) (.q .o2 (.c (.q .o7 .l) .l))))) .o2)))))) .aM)
def X2.v (a:R2)(b:Int)(c:Hp)(d:Option Addr->Hp->Prop):Prop:=bF a 3 c λf=>X9 [bO] (λg=>g 0 c) λh (i:Int) j=>If (i<((f.len:Nat):Int)) (bF a 3 j λl=>Ix l.a l.len i 3 λm=>aY m 2 j λn=>Yq.c n b j λo p q=>If (p==0) (bF a 3 q λs=>Ix s.a s.len i 3 λt=>d (some t) q) (bM (i+1) λu=>h u q)) (d none j)
theorem X2.o {a b c d}(e:X2.v a b c d):X2.c a b c d:=Wa Tryz.func310 (x:=X2.h) (R0 e)
def Xn.h:Hn:=.q .o3 (.q (.cU (.seq [.op,.op,.op,.op,.op,.op,.cZ false 12 [.op,.op,.op,.op,.op,.op,.cZ true 5 (RI.ops 5)],.op])) .l)
def Xn.v (a b c d:Int)(e:Hp)(f:aO):Prop:=aV #[.I a,.I b] 276 e λg h=>aV #[.I c,.I d] 276 h λi j=>aQ g 0 j λk=>aQ i 0 j λl=>bX (λm n=>f m n) λo=>If (k>l) (o true j) (aQ g 0 j λp=>aQ i 0 j λq=>bX (λr s=>o r s) λt=>If (p==q) (aQ g 1 j λu=>aQ i 1 j λv=>t (decide (u<v)) j) (t false j))
theorem Xn.o {a b c d e f}(g:Xn.v a b c d e f):Xn.c a b c d e f:=Wa Tryz.func315 (x:=Xn.h) (R0 g)
end Go.Proofs
namespace Go.Ar
open Go Go.Vc Go.Proofs
variable {U:Hp}{F:Rg}{p:Nat}{c:cA}{ps:List (Nat×Nat)}{ss:List cH}
def eH (ps:List (Nat×Nat)):List Nat:=ps.flatMap λx=>[x.1,x.2]
theorem HQ {ps:List (Nat×Nat)}{b:Nat}:b∈eH ps↔∃x∈ps,b=x.1\/b=x.2:=by simp[eH]
def dV:List (Nat×Nat)->List cH->List Value
 | x::ps,s::ss=>.int .i64 (s.many:Int) :: .int .i64 (s.st:Int) :: .pointer (some ⟨x.1,0,none⟩)::dV ps ss
 | _,_=>[]
theorem KF:∀{ps:List (Nat×Nat)} {ss:List cH},ps.length=ss.length->(dV ps ss).length=3*ss.length
 | [],[],_=>rfl
 | x::ps,s::ss,h=>by simp only[dV,zS]at *;rw[KF O];omega
theorem Ks:∀{ps:List (Nat×Nat)} {ss:List cH} {i:Nat} {x:Nat×Nat} {s:cH},ps[i]?=some x->ss[i]?=some s →
 (dV ps ss)[3*i]?=some (.int .i64 (s.many:Int))/\(dV ps ss)[3*i+1]?=some (.int .i64 (s.st:Int))/\(dV ps ss)[3*i+2]?=some (.pointer (some ⟨x.1,0,none⟩))
 | [],_,_,_,_,h,_=>by simp at h
 | _::_,[],_,_,_,_,h=>by simp at h
 | y::ps,t::ss,0,x,s,h1,h2=>by simp at h1 h2;subst h1;subst h2;simp[dV]
 | y::ps,t::ss,i+1,x,s,h1,h2=>by
  have:=Ks (ps:=ps) (ss:=ss) (i:=i) (by simpa using h1) (by simpa using h2);simp only[dV];rw[show 3*(i+1)=3*i+3 by omega];simpa using this
theorem VT:∀{ps ps':List (Nat×Nat)} {ss ss':List cH},ps.length=ss.length->dV (ps++ps') (ss++ss')=dV ps ss++dV ps' ss'
 | [],_,[],_,_=>rfl
 | x::ps,_,s::ss,_,h=>by simp only[lN,dV,VT (ps:=ps) (ss:=ss) (by simpa using h)]
theorem JK:∀{ps:List (Nat×Nat)} {ss:List cH},∀v∈dV ps ss,dY v=true
 | [],_,v,h=>by simp[dV]at h
 | _::_,[],v,h=>by simp[dV]at h
 | x::ps,s::ss,v,h=>by
  simp only[dV,zW]at h;rcases h with rfl|rfl|rfl|h
  .rfl
  .rfl
  .rfl
  .exact JK v h
structure fJ (U:Hp) (F:Rg) (p:Nat) (c:cA) (ps:List (Nat×Nat)) (ss:List cH):Prop where
 hd:∃sl:Sl,bY U p [.int .i64 (c.size:Int),.int .i64 (c.aG:Int),.int .i64 (c.batch:Int),.slice sl.a sl.len sl.cap]/\bU sl 3 (dV ps ss) U (λb=>F b/\b≠p/\b∉eH ps)
 sp:∀(i:Nat) (x:Nat×Nat) s,ps[i]?=some x->ss[i]?=some s->ij U x.1 x.2 c s
 fp:F p
 fb:∀b∈eH ps,F b
 nd:(p::eH ps).Nodup
 len:ps.length=ss.length
 ok:c.ok
 rG:ss.Pairwise (λa b=>a.st<b.st)
theorem fJ.loc:dP λU F=>fJ U F p c ps ss:=λU C F G h K j=>by
 obtain⟨sl,a,A⟩:=h.hd;have bT:∀b,b<U.size->F b->C[b]?=U[b]? := λb a d=>(j b a d).2;have w:∀{b:Nat} {cs:List Value},bY U b cs->F b->bY C b cs:=by
  rintro b cs ⟨e,B⟩ d;exact⟨e,(bT b (bY.lt ⟨e,B⟩) d).trans B⟩
 have lt:∀b∈eH ps,b<U.size:=by
  intro b a;obtain⟨x,m,z⟩:=HQ.1 a;obtain⟨i,hi⟩:=zP m;have y:=(cY.1 hi).1;have:=(h.sp i x _ hi (cW (by rw[←h.len];exact y))).lt;rcases z with rfl|rfl
  .exact this.1
  .exact this.2
 refine⟨⟨sl,w a h.fp,bU.loc _ _ _ _ _ _ _ A K λb a d=>⟨⟨(j b a d.1).1,d.2⟩,(j b a d.1).2⟩⟩,λi x s m u=>?_,(j p a.lt h.fp).1,λb a=>(j b (lt b a) (h.fb b a)).1,h.nd,h.len,h.ok,h.rG⟩;have g:=h.sp i x s m u;have J:x.1∈eH ps:=HQ.2 ⟨x,zG m,.inl rfl⟩;have H:x.2∈eH ps:=HQ.2 ⟨x,zG m,.inr rfl⟩;obtain⟨D,E,hd⟩:=g.hd;obtain⟨r,A⟩:=g.row;exact⟨⟨D,E,w hd (h.fb _ J)⟩,⟨r,w A (h.fb _ H)⟩,g.ne,g.len,g.ok,g.fit⟩
theorem fJ.bP {σ':Hp}(h:fJ U F p c ps ss)(e:aF U σ'):fJ σ' F p c ps ss:=dP.bP fJ.loc h e
theorem fJ.qV (h:fJ U F p c ps ss):ss.length<=1024:=by
 have key:∀i (hi:i<ss.length),i<=ss[i].st:=by
  intro i
  induction i with
  | zero=>intro _;omega
  | succ i ih=>
   intro hi;have b:=ih O;have d:=mB.1 h.rG i (i+1) O hi O;omega
 rcases CF ss.length with h0|h0
 .omega
 .have a:ss.length-1<ss.length:=O
  have b:=key _ a;have g:ss.length-1<ps.length:=by rw[h.len];exact a
  have d:=(h.sp _ _ _ (cW g) (cW a)).fit;have:=h.ok.2.2.2.1;omega
structure sY (U:Hp) (F:Rg) (p:Nat) (ps:List (Nat×Nat)) (ss:List cH) (sl:Sl) (rb:Nat) (cs:List Value):Prop where
 a:sl.a=some ⟨rb,0,none⟩
 bV:bY U rb cs
 fr:F rb/\rb≠p/\rb∉eH ps
 get:∀{j:Nat} {v:Value},(dV ps ss)[j]?=some v->cs[j]?=some v
 C1:3*ss.length<=cs.length
theorem fJ.sl (h:fJ U F p c ps ss):∃sl:Sl,bY U p [.int .i64 (c.size:Int),.int .i64 (c.aG:Int),.int .i64 (c.batch:Int),.slice sl.a sl.len sl.cap]/\sl.len=ss.length/\(ss≠[]->∃rb cs,sY U F p ps ss sl rb cs):=by
 obtain⟨sl,s,i⟩:=h.hd;have r:=i.1;rw[KF h.len]at r;refine⟨sl,s,O,λg=>?_⟩;have m:0<ss.length:=pB.2 g;rcases i.2 with⟨h0,_⟩|⟨b,cs,hq,ha,hbb,hle,hcl,ht⟩
 .omega
 .refine⟨b,cs,ha,hbb,hq,λ{j v} d=>?_,?_⟩
  .rw[←ht,zm]at d;split at d
   .exact d
   .cases d
  .have:=congrArg List.length ht;rw[zY,KF h.len]at this;omega
theorem fJ.jP (h:fJ U F p c ps ss){i:Nat}(hi:i<ss.length):∃x s,ps[i]?=some x/\ss[i]?=some s/\ij U x.1 x.2 c s:=by
 have a:i<ps.length:=by rw[h.len];exact hi
 have b:ps[i]?=some ps[i]:=cW a;exact⟨_,_,b,cW hi,h.sp i _ _ b (cW hi)⟩
theorem Uq (h:fJ U F p c ps ss){R:aO}(hR:R true U):W8.c (aW p) U R:=by
 refine W8.o ?_;unfold W8.v;obtain⟨sl,a,d,g⟩:=h.sl;have b:=h.ok;unfold cA.ok at b;refine bX.intro (cF rfl (bL (a.fE rfl ?_)));rw[zI O];exact hR
def iN (x:Int):Prop:=x<=9223372036854775807
theorem DT (h:fJ U F p c ps ss)(x:Int)(hx:iN x){R:Option Addr->Hp->Prop}(h0:kV c ss x=none->R none U)
 (h1:∀(i:Nat) sl rb cs,kV c ss x=some i->i<ss.length->bY U p [.int .i64 (c.size:Int),.int .i64 (c.aG:Int),.int .i64 (c.batch:Int),.slice sl.a sl.len sl.cap]->sY U F p ps ss sl rb cs->R (some ⟨rb,3*i,none⟩) U):X2.c (aW p) x U R:=by
 refine X2.o ?_;unfold X2.v;obtain⟨sl,A,Q,M⟩:=h.sl;have D:=h.qV;refine bL (A.rS rfl ?_);refine Qg (a:=bO) (λ(t:Int) G=>∃i:Nat,t=(i:Int)/\i<=ss.length/\G=U/\∀(j:Nat) s,j<i->ss[j]?=some s->idx c s x=none) (λt _=>ss.length-t.toNat) ⟨0,rfl,O,rfl,λj s y=>O⟩ ?_;rintro t G ⟨i,rfl,hi,rfl,u⟩;refine cN (λB=>?_) λC=>?_
 .simp only at B;have b:i<ss.length:=O
  obtain⟨P,s,J,z,K⟩:=h.jP b;obtain⟨rb,cs,E⟩:=M (by rintro rfl;simp at b);have H:=Ks J z;refine bL (A.rS rfl ?_);rw[E.a];refine ix O O ?_;rw[add_lit];refine E.bV.rP (x:=some ⟨P.1,0,none⟩) ?_ ?_
  .have:=E.get H.2.2;rw[show 0+(i:Int).toNat*3+2=3*i+2 by omega];exact this
  have d:∀r,idx c s x=some r->kV c ss x=some i:=by
   intro r g;refine nV.2 ⟨b,?_,λj y=>?_⟩
   .have:ss[i]=s:=by rw[cW b]at z;simpa using z
    rw[this,g];rfl
   .rw[u j _ y (cW O)];simp
  refine DY K x hx (λr g=>cF rfl (bL (A.rS rfl ?_))) λL=>cD rfl ?_
  .rw[E.a];refine ix O O ?_;rw[add_lit,show 0+(i:Int).toNat*3=3*i by omega];exact h1 i sl rb cs (d r g) b A E
  .refine cT (m:=i+1) O O ⟨⟨i+1,rfl,O,rfl,λj N y w=>?_⟩,O⟩;by_cases e:j=i
   .subst e;rw[z]at w;cases w;exact L
   .exact u j N O w
 .refine h0 ?_;refine vV.2 λs z=>?_;obtain⟨j,y⟩:=zP z;have:=(cY.1 y).1;rw[u j s (by simp only at C;omega) y];rfl
theorem Un {x:Int}{k:Nat}{s:cH}(hk:kV c ss x=some k)(hs:ss[k]?=some s):eD c ss x=(obj c s x).map s.is:=by
 unfold eD;rw[hk];simp only[hs];rfl
theorem DA {x:Int}(hk:kV c ss x=none):eD c ss x=none:=by unfold eD;rw[hk]
theorem Lr (h:fJ U F p c ps ss)(x:Int)(hx:iN x){R:Bool->Int->Hp->Prop}(h1:∀b,eD c ss x=some b->R b 0 U)(h0:eD c ss x=none->R false 8 U):Xp.c (aW p) x U R:=by
 refine Xp.o ?_;unfold Xp.v;refine Uq h (cD rfl (DT h x hx (λa=>cF rfl (h0 (DA a))) λi sl A C d hi B E=>cD rfl (bL ?_)));obtain⟨u,s,z,g,y⟩:=h.jP hi;have r:=Ks z g;refine E.bV.rP (x:=some ⟨u.1,0,none⟩) (E.get r.2.2) ?_;have m:=Un d g;exact Wfd y x hx (λj w=>h1 _ (by rw[m,w];rfl)) λa=>h0 (by rw[m,a];rfl)
theorem GW {x:Int}{k:Nat}{s:cH}(hk:kV c ss x=some k)(hs:ss[k]?=some s):rO c ss x=(idx c s x).map (at_ c s):=by
 unfold rO;rw[hk];simp only[hs]
theorem F8 {x:Int}(hk:kV c ss x=none):rO c ss x=none:=by unfold rO;rw[hk]
theorem T4 {x:Int}{k:Nat}{s:cH}(hk:kV c ss x=some k)(hs:ss[k]?=some s):∃i,idx c s x=some i:=by
 obtain⟨hi,a,_⟩:=nV.1 hk;have:ss[k]=s:=by rw[cW hi]at hs;simpa using hs
 rw[this]at a;exact pv.1 a
theorem MO (h:fJ U F p c ps ss)(x:Int)(hx:iN x){R:Int->Int->Hp->Prop}(h1:∀a,rO c ss x=some a->R (a:Int) 0 U)(h0:rO c ss x=none->R 0 8 U):YO.c (aW p) x U R:=by
 refine YO.o ?_;unfold YO.v;refine Uq h (cD rfl (DT h x hx (λd=>cF rfl (h0 (F8 d))) λi sl J K g hi C E=>cD rfl (bL ?_)));obtain⟨G,s,H,y,u⟩:=h.jP hi;have z:=Ks H y;obtain⟨r,j⟩:=T4 g y;have D:=GW g y;have B:=h.ok;unfold cA.ok at B;have w:=((Uu O).1 j).2.2;rw[u.len]at w;have d:=h.ok.kT;have A:=u.fit;have M:r*c.size<=128*512:=mC O O;refine E.bV.rP (x:=some ⟨G.1,0,none⟩) (E.get z.2.2) ?_;refine DY u x hx (λL b=>?_) λd=>by rw[j]at d;cases d
 rw[j]at b;cases b;refine bL (E.bV.fE (x:=s.st) (E.get z.2.1) (cT (m:=s.st*256) aA O (bL (C.fE rfl ?_))));refine cT (m:=r*c.size) aA O (cT (m:=at_ c s r) (by simp[at_]) (by unfold at_;omega) (h1 _ (by rw[D,j];rfl)))
theorem ym {h:Hp}{rb i:Nat}{cs:List Value}{x y:Int}{z:Option Addr}{e:Nat}(hb:bY h rb cs)(h0:cs[3*i]?=some (.int .i64 x))(h1:cs[3*i+1]?=some (.int .i64 y))(h2:cs[3*i+2]?=some (.pointer z))
 {K:Int->Int->Option Addr->Prop} (hK:K x y z):gL .i64 (Addr.add ⟨rb,3*i,none⟩ 0) h λu=>gL .i64 (Addr.add ⟨rb,3*i,none⟩ 1) h λv=>fZ (Addr.add ⟨rb,3*i,none⟩ 2) h λw=>K u v w:=
 hb.rI h0 (hb.rI h1 (hb.rP h2 hK))
theorem Fk {h:Hp}{x y:Int}{z:Option Addr}{e:Nat}{K:Addr->Hp->Prop}(hK:∀h',aF h h'->bY h' h.size [.int .i64 x,.int .i64 y,.pointer z]->K ⟨h.size,0,none⟩ h') :
 Nw (.cells #[.int .i64 0,.int .i64 0,.pointer none] e (0,0)) h λn v=>dG (n.add 0) (.int .i64 x) v λv1=>dG (n.add 1) (.int .i64 y) v1 λv2=>dG (n.add 2) (.pointer z) v2 λv3=>K n v3:=by
 refine nw (cs:=[.int .i64 0,.int .i64 0,.pointer none]) λv j e g=>g.s1 aA λv1 o1 b=>b.s1 aA λv2 o2 d=>d.s1 aA λv3 o3 a=>?_;refine hK v3 ?_ a;exact Ext.fresh (Ext.fresh (Ext.fresh e o1.ext λi hi=>O) o2.ext λi hi=>O) o3.ext λi hi=>by omega
def iU (c:cA)(l:List Nat):List Value:=l.flatMap λ(s:Nat)=>[.int .i64 (s:Int),.int .i64 (c.aG:Int)]
theorem NP (c:cA)(l:List Nat):(iU c l).length=2*l.length:=by
 induction l with
 | nil=>rfl
 | cons x l ih=>simp only[iU,pT,zM,zS,lh]at *;omega
theorem SI (hc:c.ok){R:Option Addr->Int->Hp->Prop}(hR:∀σ' p,aF U σ'->U.size<=p->p<σ'.size->fJ σ' (· = p) p c [] []->R (some ⟨p,0,none⟩) 0 σ'):QJ.c c.size c.aG c.batch U R:=by
 refine QJ.o ?_;unfold QJ.v;refine nw (cs:=[.int .i64 c.size,.int .i64 c.aG,.int .i64 c.batch]) λv x e d=>?_;refine d.rI rfl (d.rI rfl (d.rI rfl (IY _ _ _ (λw r e1 e2 y s j=>?_) λb=>?_)))
 case refine_2=>rw[(FZ c).2 hc]at b;cases b
 have a:=j.bV d id;refine cD rfl (a.rI rfl (a.rI rfl (a.rI rfl (nw (cs:=[.int .i64 c.size,.int .i64 c.aG,.int .i64 c.batch,.slice none 0 0]) λu m g i=>?_))));exact hR _ _ ((e.trans j).trans g) (by have:=j.1;omega) O ⟨⟨⟨none,0,0⟩,i,bU.nil _ _ _ _⟩,by simp,rfl,by simp[eH],by simp[eH],rfl,hc,by simp⟩
theorem TR (a b a' b':Nat){R:aO}(hR:∀σ',aF U σ'->R (decide (a>a')||(a==a'&&decide (b<b'))) σ'):Xn.c (a:Int) (b:Int) (a':Int) (b':Int) U R:=by
 refine Xn.o ?_;unfold Xn.v;refine nw (cs:=[.int .i64 a,.int .i64 b]) λv s e p=>nw (cs:=[.int .i64 a',.int .i64 b']) λr m e1 g=>?_;have i:=e1.bV p id;have d:=hR _ (e.trans e1);refine i.rI rfl (g.rI rfl (bX.intro (cN (λh=>?_) λh=>?_)))
 .have:decide (a>a')=true:=by simpa using h
  rw[this,Bool.true_or]at d;exact d
 .have:decide (a>a')=false:=by simpa using h
  rw[this,xN]at d;refine i.rI rfl (g.rI rfl (bX.intro ?_));rw[mg];refine cP (λj=>?_) λj=>?_
  .rw[j,r8]at d;refine i.rI rfl (g.rI rfl ?_);have:decide ((b:Int)<(b':Int))=decide (b<b'):=by rw[decide_eq_decide];omega
   rw[this];exact d
  .rw[j,vQ]at d;exact d
theorem Km:∀{i k:Nat},ZE ss i=some k->k<i/\∃s,ss[k]?=some s/\s.many<s.tk.length
 | 0,_,h=>by simp[ZE]at h
 | i+1,k,h=>by
  have up:ZE ss i=some k->k<i+1/\∃s,ss[k]?=some s/\s.many<s.tk.length:=λh=>by
   have:=Km h;exact⟨O,this.2⟩
  simp only[ZE]at h;split at h
  .rename_i x hx;split at h
   .rename_i hlt;have a:i<i+1/\∃s,ss[i]?=some s/\s.many<s.tk.length:=⟨O,x,hx,hlt⟩;split at h
    .rename_i j hj;split at h
     .split at h
      .cases h;exact a
      .cases h;exact up hj
     .cases h;exact a
    .cases h;exact a
   .exact up h
  .exact up h
theorem Av {s:cH}(h:s.many<s.tk.length):∃i,low s=some i/\i<s.tk.length/\s.is i=false:=by
 unfold low;cases hf:s.tk.findIdx? (· == false)with
 | some i=>
  obtain⟨hi,b,_⟩:=nV.1 hf;refine⟨i,rfl,hi,?_⟩;have:s.tk[i]=false:=by simpa using b
  simp[cH.is,zQ,cW hi,this]
 | none=>
  exfalso;have a:=vV.1 hf;have:s.many=s.tk.length:=by
   unfold cH.many;rw[List.count_eq_length];intro x hx;have:=a x hx;cases x
   .simp at this
   .rfl
  omega
theorem JD:∀{ps:List (Nat×Nat)} {ss:List cH} {k:Nat} {s s':cH},ps.length=ss.length->ss[k]?=some s->s'.st=s.st->dV ps (ss.set k s')=(dV ps ss).set (3*k) (.int .i64 (s'.many:Int))
 | [],[],_,_,_,_,h,_=>by simp at h
 | [],_::_,_,_,_,h,_,_=>by simp at h
 | _::_,[],_,_,_,_,h,_=>by simp at h
 | x::ps,t::ss,0,s,s',_,h,e=>by simp at h;subst h;simp[dV,e]
 | x::ps,t::ss,k+1,s,s',hl,h,e=>by
  simp only[tG,dV];rw[JD (ps:=ps) (ss:=ss) (s:=s) (by simpa using hl) (by simpa using h) e];rw[show 3*(k+1)=3*k+1+1+1 by omega];simp
theorem WgO {h:Hp}{b:Nat}{cs cs':List Value}(h1:bY h b cs)(h2:bY h b cs'):cs=cs':=by
 obtain⟨e,d⟩:=h1;obtain⟨g,a⟩:=h2;rw[d]at a;simp only[Option.some.injEq,Obj.cells.injEq]at a;simpa using congrArg Array.toList a.1
theorem QZ {x:Nat×Nat}{i:Nat}(hx:ps[i]?=some x):x.1∈eH ps/\x.2∈eH ps:=
 ⟨HQ.2 ⟨x,zG hx,.inl rfl⟩,HQ.2 ⟨x,zG hx,.inr rfl⟩⟩
theorem F3:∀{ps:List (Nat×Nat)},(eH ps).Nodup->∀{i j:Nat} {x y:Nat×Nat},ps[i]?=some x->ps[j]?=some y->i≠j->∀b,(b=x.1\/b=x.2)->¬(b=y.1\/b=y.2)
 | [],_,_,_,_,_,h,_,_=>by simp at h
 | z::ps,hn,i,j,x,y,h1,h2,hij=>by
  have hn':z.1∉eH ps/\z.2∉eH ps/\z.1≠z.2/\(eH ps).Nodup:=by
   simp only[eH,pT,lN,tg,zr,zW,not_or]at hn;exact⟨hn.1.2,hn.2.1,hn.1.1,hn.2.2⟩
  intro b hb hb'
  match i,j,hij with
  | 0,0,h=>exact h rfl
  | 0,j+1,_=>
   simp at h1;subst h1;have:=QZ (ps:=ps) (i:=j) (by simpa using h2);rcases hb with rfl|rfl<;>rcases hb' with e|e<;>rw[e]at hn'<;>simp[this]at hn'
  | i+1,0,_=>
   simp at h2;subst h2;have:=QZ (ps:=ps) (i:=i) (by simpa using h1);rcases hb with rfl|rfl<;>rcases hb' with e|e<;>rw[←e]at hn'<;>simp[this]at hn'
  | i+1,j+1,h=>exact F3 hn'.2.2.2 (by simpa using h1) (by simpa using h2) O b hb hb'
theorem fJ.oS (h:fJ U F p c ps ss){k:Nat}{x:Nat×Nat}{s s':cH}(hx:ps[k]?=some x)(hs:ss[k]?=some s)(hst:s'.st=s.st){σ1:Hp}(e1:Ext (λb=>b=x.1\/b=x.2) U σ1)(hS:ij σ1 x.1 x.2 c s')
 {sl:Sl} {rb:Nat} {cs:List Value} (hb:bY U p [.int .i64 (c.size:Int),.int .i64 (c.aG:Int),.int .i64 (c.batch:Int),.slice sl.a sl.len sl.cap]) (E:sY U F p ps ss sl rb cs)
 {K:aP} (hK:∀σ2,Ext F U σ2->fJ σ2 F p c ps (ss.set k s')->K σ2):dG ⟨rb,3*k,none⟩ (.int .i64 (s'.many:Int)) σ1 K:=by
 obtain⟨nB,D,P⟩:=h.hd;have G:nB=sl:=by
  have:=WgO D hb;simp at this;obtain⟨a,n,c⟩:=sl;obtain⟨S,Q,V⟩:=nB;simp at this ⊢;exact this
 subst G;have m:=QZ hx;have g:=h.nd;simp only[zr]at g;have r:=(cY.1 hs).1;have J:=(bU.loc nB 3 (dV ps ss)).bT P e1 λb hb N=>λd=>N.2.2 (by rcases d with rfl|rfl;exact m.1;exact m.2);have H:=e1.bV hb λd=>g.1 (by rcases d with h|h<;>rw[h];exact m.1;exact m.2)
 refine J.st (j:=3*k) (by rw[KF h.len];omega) (λb u=>by rw[E.a]at u;cases u;rfl) λσ2 e2 B=>?_;have C:Ext F U σ2:=(e1.sub λi hi=>h.fb i (by rcases hi with rfl|rfl;exact m.1;exact m.2)).trans (e2.sub λi hi=>hi.1);refine hK σ2 C ⟨⟨nB,e2.bV H λd=>d.2.1 rfl,?_⟩,λi y t w A=>?_,h.fp,h.fb,h.nd,by simpa using h.len,h.ok,?_⟩
 .rw[JD h.len hs hst];exact B
 .have z:=QZ w;have k2:ij σ1 y.1 y.2 c t:=by
   by_cases hik:i=k
   .subst hik;rw[hx]at w;cases w;rw[zO r]at A;cases A;exact hS
   .rw[zh (Ne.symm hik)]at A;have M:=F3 g.2 w hx hik;exact(h.sp i y t w A).bT e1 (M _ (.inl rfl)) (M _ (.inr rfl))
  exact k2.bT e2 (λd=>d.2.2 z.1) (λd=>d.2.2 z.2)
 .have:(ss.set k s').map (·.st)=ss.map (·.st):=by
   apply zt;intro i;simp only[zZ];by_cases hik:i=k
   .subst hik;rw[zO r,hs];simp[hst]
   .rw[zh (Ne.symm hik)]
  have L:=h.rG;rw[←td (f:=cH.st) (R:=(· < ·))]at L ⊢;rw[this];exact L
theorem Oz (h:fJ U F p c ps ss){R:Int->Bool->Hp->Prop}(h1:∀x ss',ja c ss=some (x,ss')->∀σ',Ext F U σ'->fJ σ' F p c ps ss'->R (x:Int) true σ')(h0:ja c ss=none->∀σ',aF U σ'->R 0 false σ') :
 Zh.c (aW p) U R:=by
 refine Zh.o ?_;unfold Zh.v;obtain⟨sl,hb,hl,hr⟩:=h.sl;have hfew:=h.qV;have hn:=h.ok.kT;obtain⟨d,cs,E⟩:∃d cs,ss≠[]->sY U F p ps ss sl d cs:=by
  by_cases hne:ss=[]
  .exact⟨0,[],λh=>absurd hne h⟩
  .obtain⟨d,cs,E⟩:=hr hne;exact⟨d,cs,λ_=>E⟩
 refine bL (hb.rS rfl ?_);refine UJ (a:=.p) (bb:=bO) (λ(iR:Option Addr) (t:Int) H=>∃i:Nat,t=(i:Int)/\i<=ss.length/\aF U H/\iR=(ZE ss i).map λk=>⟨d,3*k,none⟩) (λ_ t _=>ss.length-t.toNat) ⟨0,rfl,O,Ext.refl _ _,rfl⟩ ?_;rintro iR t H ⟨i,rfl,hi,e,rfl⟩;refine cN (λab=>?_) λac=>?_
 .simp only at ab;have K:i<ss.length:=O
  have E:=E (by rintro rfl;simp at K);obtain⟨P,s,L,D,A⟩:=h.jP K;have z:=Ks L D;have X:=A.len;refine bL ((e.bV hb id).rS rfl ?_);rw[E.a];refine ix O O ?_;rw[add_lit,show 0+(i:Int).toNat*3=3*i by omega];have Eb:=e.bV E.bV id;have C:ZE ss (i+1)=if s.many<s.tk.length then(match ZE ss i with
   | some j=>match ss[j]? with
    | some y=>if xL s y then some i else some j
    | none=>some i
   | none=>some i)else ZE ss i:=by
   simp only[ZE,D];rfl
  have J:∀(r:Bool) (v:Hp),aF U v->(if r then some i else ZE ss i)=ZE ss (i+1) →
   If r (Ar .i64 ((i:Int)+1) λb=>(∃j:Nat,b=(j:Int)/\j<=ss.length/\aF U v/\some (⟨d,3*i,none⟩:Addr)=(ZE ss j).map λk=>⟨d,3*k,none⟩)/\ss.length-b.toNat<ss.length-(i:Int).toNat)
    (Ar .i64 ((i:Int)+1) λb=>(∃j:Nat,b=(j:Int)/\j<=ss.length/\aF U v/\((ZE ss i).map λk=>(⟨d,3*k,none⟩:Addr))=(ZE ss j).map λk=>⟨d,3*k,none⟩)/\ss.length-b.toNat<ss.length-(i:Int).toNat):=by
   intro r v ev hr';cases r
   .refine cD rfl (cT (m:=i+1) O O ⟨⟨i+1,rfl,O,ev,?_⟩,O⟩);rw[←hr'];rfl
   .refine cF rfl (cT (m:=i+1) O O ⟨⟨i+1,rfl,O,ev,?_⟩,O⟩);rw[←hr'];rfl
  refine Jn.intro ⟨λG=>bY G d cs,Eb,bL ⟨_,λG A=>by rw[add_lit,add_lit,A.cell];exact E.get z.1,bL ⟨_,λG A=>by rw[add_lit,A.cell];exact E.get z.2.2,?_⟩⟩⟩;refine Ξ (A.bP e) ⟨Eb,?_⟩;refine cN (λhlt2=>?_) λhge2=>?_
  .have Y:s.many<s.tk.length:=O
   rw[zC Y]at C;cases hbf:ZE ss i with
   | none=>
    rw[hbf]at C J;exact cF rfl (J true H e C.symm)
   | some j=>
    rw[hbf]at C J;obtain⟨hji,y,hy,hym⟩:=Km hbf;simp only[hy]at C;have ad:j<ps.length:=by rw[h.len];omega
    have w:=Ks (cW ad) hy;have fin:Xn.c (s.many:Int) (s.st:Int) (y.many:Int) (y.st:Int) H λV v3=>bY v3 d cs ∧
     If V (Ar .i64 ((i:Int)+1) λb=>(∃j:Nat,b=(j:Int)/\j<=ss.length/\aF U v3/\some (⟨d,3*i,none⟩:Addr)=(ZE ss j).map λk=>⟨d,3*k,none⟩)/\ss.length-b.toNat<ss.length-(i:Int).toNat)
      (Ar .i64 ((i:Int)+1) λb=>(∃j':Nat,b=(j':Int)/\j'<=ss.length/\aF U v3/\((some j).map λk=>(⟨d,3*k,none⟩:Addr))=(ZE ss j').map λk=>⟨d,3*k,none⟩)/\ss.length-b.toNat<ss.length-(i:Int).toNat):=by
     refine TR _ _ _ _ λv3 e3=>⟨e3.bV Eb id,J _ v3 (e.trans e3) ?_⟩;rw[C];rfl
    refine cD rfl (bL (bL ⟨?_,?_⟩))
    .exact Eb.fE (E.get z.1) (Eb.fE (E.get z.2.1) ⟨Eb,Eb.fE (E.get w.1) (Eb.fE (E.get w.2.1) ⟨Eb,fin⟩)⟩)
    .exact Eb.fE (E.get w.1) (Eb.fE (E.get w.2.1) ⟨Eb,Eb.fE (E.get z.1) (Eb.fE (E.get z.2.1) ⟨Eb,fin⟩)⟩)
  .have Y:¬s.many<s.tk.length:=O
   rw[zB Y]at C;exact J false H e C.symm
 .have hii:i=ss.length:=by simp only at ac;omega
  subst hii;cases hbf:ZE ss ss.length with
  | none=>
   refine cF rfl (h0 ?_ _ e);simp[ja,iR,hbf]
  | some k=>
   obtain⟨hk,s,D,Z⟩:=Km hbf;have E:=E (by rintro rfl;simp at hk);obtain⟨P,s',L,M,A⟩:=h.jP hk;rw[D]at M;cases M;have z:=Ks L D;obtain⟨r,B,aa,Q⟩:=Av Z;have H:=h.bP e;have one:ja c ss=some (at_ c s r,ss.set k (s.put r true)):=by simp[ja,iR,hbf,D,B]
   have E':sY _ F p ps ss sl d cs:=⟨E.a,e.bV E.bV id,E.fr,E.get,E.C1⟩;refine cD rfl (bL (E'.bV.rP (x:=some ⟨P.1,0,none⟩) (E.get z.2.2) ?_));refine N4 (A.bP e) B λv5 e5 S=>bL ?_;have N:=QZ L;have W:¬(d=P.1\/d=P.2):=λhh=>E.fr.2.2 (by rcases hh with h|h<;>rw[h];exact N.1;exact N.2)
   have hml:=Eh s;have g:=Bn aa true;rw[Q]at g;have u:(s.put r true).many=s.many+1:=by simp at g;omega
   have X:=A.len;refine(e5.bV E'.bV W).fE (E.get z.1) (cT (m:=s.many+1) O O (bL ?_));rw[add_lit,add_lit,kr,kr,←u];exact H.oS (s':=s.put r true) L D rfl e5 S (e.bV hb id) E' λv6 e6 h6=>h1 _ _ one v6 (e.to.trans e6) h6
theorem M9 {k:Nat}{s s':cH}(hs:ss[k]?=some s):pd (ss.set k s')+(s.tk.length-s.many)=pd ss+(s'.tk.length-s'.many):=by
 unfold pd
 induction ss generalizing k with
 | nil=>simp at hs
 | cons x ss ih=>
  cases k with
  | zero=>simp at hs;subst hs;simp;omega
  | succ k=>
   have:=ih (by simpa using hs);simp only[tG,zR,oA];omega
theorem Tp {x:Nat}{ss':List cH}(h:ja c ss=some (x,ss')):pd ss'+1=pd ss:=by
 unfold ja at h;split at h
 .rename_i k hk;obtain⟨_,s,m,d⟩:=Km hk;rw[m]at h;simp only at h;split at h
  .rename_i i hi;cases h;obtain⟨r,j,a,b⟩:=Av d;rw[hi]at j;cases j;have p:=M9 (s':=s.put i true) m;have g:=Bn a true;rw[b]at g;have u:(s.put i true).tk.length=s.tk.length:=by simp[cH.put]
   simp at g;omega
  .cases h
 .cases h
theorem fJ.room (h:fJ U F p c ps ss):pd ss<=131072:=by
 have key:∀l:List cH,(∀s∈l,s.tk.length<=128)->pd l<=128*l.length:=by
  intro l
  induction l with
  | nil=>intro _;simp[pd]
  | cons x l ih=>
   intro hl;have m:=hl x aA;have j:=ih λs d=>hl s (by simp[d]);simp only[pd,zR,oA,zS]at *;omega
 have:=key ss λs d=>by
  obtain⟨i,hi⟩:=zP d;have b:=(cY.1 hi).1;obtain⟨x,r,_,a,g⟩:=h.jP b;rw[hi]at a;cases a;rw[g.len];exact h.ok.kT
 have:=h.qV;omega
theorem GQ {m:Nat}{x:Nat}{ss':List cH}(h:ja c ss=some (x,ss')):KJ c (m+1) ss=(x::(KJ c m ss').1,(KJ c m ss').2):=by
 simp[KJ,h]
theorem Pm (h:fJ U F p c ps ss)(m:Int)(hm:0<=m){R:Sl->Int->Hp->Prop}
 (hR:∀s σ',Ext F U σ'->bU s 1 (ints (KJ c m.toNat ss).1) σ' (λb=>U.size<=b)->fJ σ' (Cut F U) p c ps (KJ c m.toNat ss).2->R s 0 σ'):Xt.c (aW p) m U R:=by
 refine Xt.o ?_;unfold Xt.v;have h:=fJ.loc.cut h;have E:=fJ.room h;refine Uq h (cD rfl (gA O ?_));refine Qg (a:=.s) (λ(out:Sl) C=>∃j d,Ext F U C/\bU out 1 (ints j) C (λb=>U.size<=b)/\fJ C (Cut F U) p c ps d/\j.length<=m.toNat/\j.length+pd d=pd ss/\KJ c m.toNat ss=(j++(KJ c (m.toNat-j.length) d).1,(KJ c (m.toNat-j.length) d).2))
  (λout _=>m.toNat-out.len) ⟨[],ss,Ext.refl _ _,bU.nil _ _ _ _,h,by simp,by simp,by simp⟩ ?_
 rintro out C ⟨j,d,e,g,H,Y,W,r⟩;have L:=g.oY;refine cN (λP=>?_) λQ=>?_
 .have u:m.toNat-j.length=(m.toNat-(j.length+1))+1:=O
  refine Oz H (λx J w v2 e2 K=>cD rfl ?_) λy v2 e2=>cF rfl ?_
  .have B:Ext F U v2:=e.trans (e2.sub λi hi=>hi.1);have z:=aI.bT g e2 λb _ D M=>by have:=M.2;omega
   refine z.push (vs:=[.int .i64 (x:Int)]) (λb D=>kD B.1 D) rfl rfl (by simp[dY]) O O λs' Z S N G=>?_;have V:=Tp w;refine⟨⟨j++[x],J,B.dX N λi hi=>.inr hi,by rw[HD];exact G,fJ.loc.bT K N λb _ D M=>(by have:=D.2;omega),by simp;omega,by simp;omega,?_⟩,O⟩;rw[r,u,GQ w];simp
  .have:KJ c (m.toNat-j.length) d=([],d):=by rw[u];simp[KJ,y]
   rw[this]at r;have A:=hR out v2 (e.trans e2.to);rw[r,kG]at A;exact A (aI.bP g e2) (H.bP e2)
 .have X:m.toNat-j.length=0:=O
  rw[X]at r;have A:=hR out C e;rw[r]at A;simp only[KJ,kG]at A;exact A g H
theorem Wg4 (h:fJ U F p c ps ss)(m:Int)(hm:m<0){R:Sl->Int->Hp->Prop}(hR:R ⟨none,0,0⟩ 1 U):Xt.c (aW p) m U R:=by
 refine Xt.o ?_;unfold Xt.v;exact Uq h (cD rfl (lV O hR))
def jj:List (Nat×Nat)->List cH->List (Nat×Nat)
 | x::ps,s::ss=>if s.many != 0 then x::jj ps ss else jj ps ss
 | _,_=>[]
theorem GI:∀{ps:List (Nat×Nat)} {ss:List cH},ps.length=ss.length->(jj ps ss).length=(cK ss).length
 | [],[],_=>rfl
 | x::ps,s::ss,h=>by
  have ih:=GI (ps:=ps) (ss:=ss) (by simpa using h);simp only[jj,cK,tZ]at *;split<;>simp[ih]
theorem DU:∀{ps:List (Nat×Nat)} {ss:List cH},(jj ps ss).Sublist ps
 | [],_=>by simp[jj]
 | _::_,[]=>by simp[jj]
 | x::ps,s::ss=>by
  simp only[jj];split
  .exact DU.cons_cons x
  .exact DU.cons x
theorem Ih:∀{ps ps':List (Nat×Nat)} {ss ss':List cH},ps.length=ss.length->jj (ps++ps') (ss++ss')=jj ps ss++jj ps' ss'
 | [],_,[],_,_=>rfl
 | x::ps,_,s::ss,_,h=>by
  simp only[lN,jj,Ih (ps:=ps) (ss:=ss) (by simpa using h)];split<;>rfl
theorem FQ:∀{ps:List (Nat×Nat)} {ss:List cH} {i:Nat} {x:Nat×Nat} {s:cH},ps.length=ss.length->(jj ps ss)[i]?=some x->(cK ss)[i]?=some s->∃j:Nat,ps[j]?=some x/\ss[j]?=some s
 | [],[],_,_,_,_,h,_=>by simp[jj]at h
 | y::ps,t::ss,i,x,s,hl,h1,h2=>by
  have ih:=λi=>FQ (ps:=ps) (ss:=ss) (i:=i) (x:=x) (s:=s) (by simpa using hl);simp only[jj,cK,tZ]at h1 h2;cases hm:(t.many != 0)
  .rw[hm]at h1 h2;obtain⟨j,a,b⟩:=ih i h1 h2;exact⟨j+1,by simpa using a,by simpa using b⟩
  .rw[hm]at h1 h2;cases i with
   | zero=>simp at h1 h2;exact⟨0,by simp[h1],by simp[h2]⟩
   | succ i=>
    obtain⟨j,a,b⟩:=ih i (by simpa using h1) (by simpa[cK]using h2);exact⟨j+1,by simpa using a,by simpa using b⟩
theorem Tx (a b:List cH):cK (a++b)=cK a++cK b:=by simp[cK]
theorem P8 (a b:List cH):QW (a++b)=QW a++QW b:=by simp[QW]
theorem We9 (c:cA)(a b:List Nat):iU c (a++b)=iU c a++iU c b:=by simp[iU]
theorem TM {a b:List (Nat×Nat)}(h:a.Sublist b):(eH a).Sublist (eH b):=by
 induction h with
 | slnil=>exact List.Sublist.refl _
 | cons x _ ih=>exact(ih.cons _).cons _
 | cons_cons x _ ih=>exact(ih.cons_cons _).cons_cons _
theorem Iv {h:Hp}{Q:Rg}{n3:Nat}{o:Sl}{l:List Nat}{x1 x2:Nat}{s:cH}(hb:bY h n3 [.slice o.a o.len o.cap])(hrow:bU o 2 (iU c l) h Q)(hQ:∀b,Q b->n3<b)(hl:l.length<=2000)(hS:ij h x1 x2 c s){R:aO}
 (hR:∀h' o',Ext (λb=>b=n3\/Q b) h h'->bY h' n3 [.slice (Sl.a o') o'.len o'.cap]->bU o' 2 (iU c (l++if s.many=0 then[s.st]else[])) h' (Grow Q h)->R (s.many==0) h') :
 VP Tryz.prog ⟨248,#[],#[.pointer (some ⟨n3,0,none⟩)]⟩ [.agg #[.int .i64 (s.many:Int),.int .i64 (s.st:Int),.pointer (some ⟨x1,0,none⟩)]] [.one .b] h R:=by
 refine Gn (all := #[.agg #[.int .i64 (s.many:Int),.int .i64 (s.st:Int),.pointer (some ⟨x1,0,none⟩)],.pointer (some ⟨n3,0,none⟩)]) (by kernel_rfl) aA ?_;refine Yg.o ?_;unfold Yg.v;refine nw (cs:=[.int .i64 (s.many:Int),.int .i64 (s.st:Int),.pointer (some ⟨x1,0,none⟩)]) λv Z e d=>?_;have N:=hb.lt;have g:=e.bV hb id;have hrow:=(bU.loc o 2 (iU c l)).mono hrow (G:=λb=>Q b/\b<h.size) λb hb z=>⟨z,hb⟩;refine Jn.intro (d.fE rfl ?_);rw[ye];refine cP (λC=>?_) λC=>?_
 .have r:s.many=0:=by simpa using C
  rw[zC r]at hR;refine⟨λh'=>bY h' h.size [.int .i64 (s.many:Int),.int .i64 (s.st:Int),.pointer (some ⟨x1,0,none⟩)]/\bY h' n3 [.slice o.a o.len o.cap],⟨d,g⟩,⟨o,λh' hS=>by rw[hS.2.cell];rfl,⟨some ⟨x1,0,none⟩,λh' hS=>by rw[add_lit,hS.1.cell];rfl,?_⟩⟩⟩;refine N1 (hS.bP e) λY e2=>⟨⟨e2.bV d id,e2.bV g id⟩,?_⟩;have x:=e.trans e2;have m:=aI.bP hrow x;have y:=m.1;rw[NP]at y;refine nw (cs:=[.int .i64 (s.st:Int),.int .i64 (c.aG:Int)]) λv3 V w D=>⟨⟨(e2.trans w).bV d id,(e2.trans w).bV g id⟩,?_⟩;have p:=aI.bP m w;have P:=x.1;refine p.app (ys:=[.int .i64 (s.st:Int),.int .i64 (c.aG:Int)]) rfl rfl ?_ (by simp[dY]) ?_ ?_ nc λU J M B E=>?_
  .intro j u hu;rw[add_lit,zH,D.cell];exact hu
  .simp only;have:(o.len+1)*16<=2001*16:=mC O O;omega
  .simp only;omega
  .have H:bY J h.size [.int .i64 (s.many:Int),.int .i64 (s.st:Int),.pointer (some ⟨x1,0,none⟩)]:=B.bV ((e2.trans w).bV d id) λF=>by have:=F.2;omega
   have K:bY J n3 [.slice o.a o.len o.cap]:=B.bV ((e2.trans w).bV g id) λF=>by have:=hQ _ F.1;omega
   refine⟨⟨H,K⟩,K.s0 aA λv5 o5 S=>(WF o5 H O).fE rfl ?_⟩;have A:Ext (λb=>b=n3\/Q b) h v5:=(aF.to ((e.trans e2).trans w)).trans (B.sub λi hi=>.inr hi.1)|>.trans (o5.ext.sub λi hi=>.inl hi);rw[ye];refine hR v5 U A S ?_;rw[We9];have:iU c [s.st]=[.int .i64 (s.st:Int),.int .i64 (c.aG:Int)]:=rfl;rw[this];have L:=aI.mono E (G:=Grow Q h) λb _ W=>by
    rcases W with h|h
    .exact .inl h.1
    .exact .inr O
   exact aI.bT L o5.ext λb _ z X=>by
    rcases z with h|h
    .have:=hQ _ h;omega
    .omega
 .have r:¬s.many=0:=by simpa using C
  rw[zB r,kG]at hR;refine d.fE rfl ?_;rw[ye];exact hR v o e.to g (aI.bP (aI.mono hrow λb _ z=>.inl z.1) e)
def Ah (n3:Nat)(c:cA)(l:List Nat)(h:Hp):Prop:=∃o:Sl,bY h n3 [.slice o.a o.len o.cap]/\bU o 2 (iU c l) h (λb=>n3<b)
theorem DR {A D:List Value}{x y z:Value}{k:Nat}(hk:k=A.length)(hD:3<=D.length):(((A++D).set k x).set (k+1) y).set (k+2) z=A++[x,y,z]++D.drop 3:=by
 subst hk
 match D,hD with
 | d0::d1::d2::D,_=>simp[List.set_append]
theorem GD {i:Nat}{s:cH}(hs:ss[i]?=some s):QW (ss.take (i+1))=QW (ss.take i)++(if s.many=0 then[s.st]else[]):=by
 rw[kB,hs,P8]
 congr 1
 by_cases hm:s.many=0<;>simp[QW,hm]
theorem GY {i:Nat}{s:cH}(hs:ss[i]?=some s):cK (ss.take (i+1))=cK (ss.take i)++(if s.many=0 then[]else[s]):=by
 rw[kB,hs,Tx]
 congr 1
 by_cases hm:s.many=0<;>simp[cK,hm]
theorem DD {i:Nat}{x:Nat×Nat}{s:cH}(hl:ps.length=ss.length)(hx:ps[i]?=some x)(hs:ss[i]?=some s):jj (ps.take (i+1)) (ss.take (i+1))=jj (ps.take i) (ss.take i)++(if s.many=0 then[]else[x]):=by
 rw[kB,kB,hs,hx,Ih (by simp[hl])]
 congr 1
 by_cases hm:s.many=0<;>simp[jj,hm]
theorem Ra (l:List cH):(QW l).length<=l.length:=by unfold QW;rw[zk];exact pI _ _
theorem Tb (l:List cH):(cK l).length<=l.length:=pI _ _
theorem Ni (h:fJ U F p c ps ss){sl:Sl}{rb n3:Nat}{cs:List Value}{σ1:Hp}(e1:aF U σ1)(hlen:sl.len=ss.length)(hn3:U.size<=n3)(hE:ss≠[]->sY U F p ps ss sl rb cs/\sl.len<=sl.cap/\cs.length=sl.cap*3)(h0:Ah n3 c [] σ1){R:Sl->Hp->Prop}
 (hR:∀h' nB,Ext (λb=>F b/\b≠p/\b∉eH ps\/n3<=b) σ1 h'->Ah n3 c (QW ss) h'->(nB=sl/\QW ss=[]/\cK ss=ss/\jj ps ss=ps/\Ext (λb=>n3<=b) σ1 h'\/(bU nB 3 (dV (jj ps ss) (cK ss)) h' (λb=>F b/\b≠p/\b∉eH ps)))->R nB h') :
 Wi.c sl ⟨248,#[],#[.pointer (some ⟨n3,0,none⟩)]⟩ σ1 R:=by
 refine Wi.o ?_;unfold Wi.v;refine Wn.o ?_;unfold Wn.v;have hfew:=h.qV;have r:=h.len;refine Qg (a:=bO) (λ(t:Int) h'=>∃i:Nat,t=(i:Int)/\i<=ss.length/\Ext (λb=>n3<=b) σ1 h'/\Ah n3 c [] h'/\QW (ss.take i)=[]/\cK (ss.take i)=ss.take i/\jj (ps.take i) (ss.take i)=ps.take i) (λt _=>ss.length-t.toNat) ⟨0,rfl,O,Ext.refl _ _,h0,by simp[QW],by simp[cK],by simp[jj]⟩ ?_;rintro t h' ⟨i,rfl,hi,e,⟨o,P,ab⟩,q1,q2,q3⟩;have eo:∀{v:Hp},Ext (λb=>n3<=b) σ1 v->Ext (λb=>n3<=b) U v:=λe=>e1.to.trans e;refine cN (λhlt=>?_) λhge=>?_
 .have ad:i<ss.length:=O
  obtain⟨E,hcap,hcl⟩:=hE (by rintro rfl;simp at ad);obtain⟨xx,s,hp,J,hS⟩:=h.jP ad;have eg:=Ks hp J;have hrl:=E.bV.lt;have hSl:=hS.lt;rw[E.a];refine ix O O ?_;rw[add_lit,show 0+(i:Int).toNat*3=3*i by omega];refine ym (e:=0) ((eo e).bV E.bV O) (E.get eg.1) (E.get eg.2.1) (E.get eg.2.2) ?_;have hn3h:n3<h'.size:=P.lt;refine Iv P ab (λb h=>h) aA (hS.bT (eo e) O O) λh2 o2 e2 ag A=>?_;have e2:Ext (λb=>n3<=b) h' h2:=e2.sub λb g=>by omega
  have A:=aI.mono A (G:=λb=>n3<b) λb _ g=>by
   rcases g with h|h
   .exact h
   .omega
  refine cP (λhm=>?_) λhm=>?_
  .-- the first that goes
   have x:s.many=0:=by simpa using hm
   rw[zC x,tg]at A;have B:((i:Int)==(-1))=false:=by rw[mV];omega
   show If ((i:Int)==(-1)) _ _;refine cD B (cT (m:=i+1) O O ?_);have q1':QW (ss.take (i+1))=[s.st]:=by rw[GD J,q1,zC x];rfl
   have S:cK (ss.take (i+1))=ss.take i:=by rw[GY J,q2,zC x,kG]
   have q3':jj (ps.take (i+1)) (ss.take (i+1))=ps.take i:=by rw[DD r hp J,q3,zC x,kG]
   have hke:∀k,k<=ss.length->(dV (jj (ps.take k) (ss.take k)) (cK (ss.take k))).length=3*(cK (ss.take k)).length:=λk _=>KF (GI (by simp[r]));have Eb2:bY h2 rb cs:=(eo (e.trans e2)).bV E.bV O;refine UJ (a:=bO) (bb:=bO) (λ(i1 j1:Int) v=>∃j:Nat,j1=(j:Int)/\i<j/\j<=ss.length/\i1=((cK (ss.take j)).length:Int)/\(cK (ss.take j)).length<j/\Ext (λb=>b=rb\/n3<=b) σ1 v/\Ah n3 c (QW (ss.take j)) v ∧
    bY v rb (dV (jj (ps.take j) (ss.take j)) (cK (ss.take j))++cs.drop (3*(cK (ss.take j)).length))) (λ_ j1 _=>ss.length-j1.toNat) ?_ ?_
   .refine⟨i+1,rfl,O,O,?_,?_,(e.trans e2).sub λb g=>.inr g,?_,?_⟩
    .rw[S,zY];omega
    .rw[S,zY];omega
    .rw[q1'];exact⟨o2,ag,A⟩
    .rw[S,q3',zY,qI O];have:dV (ps.take i) (ss.take i)++cs.drop (3*i)=cs:=by
      have h1:(dV (ps.take i) (ss.take i)).length=3*i:=by rw[KF (by simp[r]),zY];omega
      apply zt;intro k;rcases kv k (3*i)with hk|hk
      .rw[zd O];have h2:(dV ps ss)[k]?=(dV (ps.take i) (ss.take i))[k]? := by
        conv=>lhs;rw[←oQ i ps,←oQ i ss,VT (by simp[r])]
        rw[zd O]
       rw[←h2];have h3:k<(dV ps ss).length:=by rw[KF r];omega
       rw[cW h3];exact(E.get (cW h3)).symm
      .rw[zp O,lK,h1]
       congr 1;omega
     rw[this];exact Eb2
   .rintro i1 j1 v ⟨j,rfl,hij,hj,rfl,hKj,ev,⟨o3,C,K⟩,z⟩;have y:=hke j hj;have evo:Ext (λb=>b=rb\/n3<=b) U v:=e1.to.trans ev;refine cN (λhlt2=>?_) λhge2=>?_
    .have hj':j<ss.length:=O
     obtain⟨yy,u,V,H,ah⟩:=h.jP hj';have Q:=Ks V H;have hSul:=ah.lt;have ae:=QZ V;refine ix O O ?_;rw[add_lit,show 0+(j:Int).toNat*3=3*j by omega];have get:∀d,d<3->∀w,(dV ps ss)[3*j+d]?=some w->(dV (jj (ps.take j) (ss.take j)) (cK (ss.take j))++cs.drop (3*(cK (ss.take j)).length))[3*j+d]?=some w:=by
      intro d hd w hw;rw[zp O,lK,y,show 3*(cK (ss.take j)).length+(3*j+d-3*(cK (ss.take j)).length)=3*j+d by omega];exact E.get hw
     refine ym (e:=0) z (get 0 O _ Q.1) (get 1 O _ Q.2.1) (get 2 O _ Q.2.2) (Fk λv5 X b5=>b5.rI rfl (b5.rI rfl (b5.rP rfl ?_)));have hn3v:n3<v.size:=C.lt;have Y:=aI.mono K (G:=λb=>n3<b/\b<v.size) λb g hf=>⟨hf,g⟩;have L:=Ra (ss.take j);rw[zY]at L;refine Iv (X.bV C id) (aI.bP Y X) (λb g=>g.1) O ((ah.bT evo (λW=>by rcases W with h|h;exact E.fr.2.2 (h▸ae.1);omega) (λW=>by rcases W with h|h;exact E.fr.2.2 (h▸ae.2);omega)).bP X) λv6 o6 e6 ac D=>?_;have hsz5:=X.1;have D:=aI.mono D (G:=λb=>n3<b) λb _ g=>by
      rcases g with h|h
      .exact h.1
      .omega
     have b6:bY v6 v.size [.int .i64 (u.many:Int),.int .i64 (u.st:Int),.pointer (some ⟨yy.1,0,none⟩)]:=e6.bV b5 λW=>by rcases W with h|h;omega;have:=h.2;omega
     have hrb:rb<U.size:=E.bV.lt;have M:=e6.bV (X.bV z id) λW=>by rcases W with h|h;omega;have:=h.1;omega
     have Z:Ext (λb=>b=rb\/n3<=b) σ1 v6:=(ev.trans X.to).trans (e6.sub λb g=>by rcases g with h|h;omega;have:=h.1;omega);rw[←GD H]at D;have st:=GY H;have kt:=DD r V H;by_cases hum:u.many=0
     .rw[zC hum,kG]at st kt;have:(u.many==0)=true:=by simp[hum]
      rw[this];refine cD rfl (cT (m:=j+1) O O ⟨⟨j+1,rfl,O,O,?_,?_,Z,⟨o6,ac,D⟩,?_⟩,O⟩)
      .rw[st]
      .rw[st];omega
      .rw[st,kt];exact M
     .rw[zB hum]at st kt;have:(u.many==0)=false:=by simp[hum]
      rw[this];refine cF rfl (b6.rI rfl (b6.rI rfl (b6.rP rfl (ix O O ?_))));rw[add_lit,show 0+((cK (ss.take j)).length:Int).toNat*3=3*(cK (ss.take j)).length by omega];have hlen6:(dV (jj (ps.take j) (ss.take j)) (cK (ss.take j))++cs.drop (3*(cK (ss.take j)).length)).length=cs.length:=by
       rw[zM,y,kj];omega
      refine M.s1 O λv7 o7 b7=>b7.s1 aE λv8 o8 b8=>b8.s1 aE λv9 o9 b9=>?_;rw[kr,DR y.symm (by rw[kj];omega),List.drop_drop]at b9;have ev9:Ext (λb=>b=rb\/n3<=b) σ1 v9:=((Z.trans (o7.ext.sub λb g=>.inl g)).trans (o8.ext.sub λb g=>.inl g)).trans (o9.ext.sub λb g=>.inl g);have aa:Ext (· = rb) v6 v9:=(o7.ext.trans o8.ext).trans o9.ext;refine cT (m:=(cK (ss.take j)).length+1) O O (cT (m:=j+1) O O ⟨⟨j+1,rfl,O,O,?_,?_,ev9,⟨o6,aa.bV ac O,aI.bT D aa λb _ g he=>O⟩,?_⟩,O⟩)
      .rw[st];simp
      .rw[st];simp;omega
      .rw[st,kt,VT (GI (by simp[r]))];simp only[zM,zS,lh,dV];rw[show 3*((cK (ss.take j)).length+(0+1))=3*(cK (ss.take j)).length+3 by omega];exact b9
    .have hjj:j=ss.length:=O
     subst hjj;rw[mi]at *;have N:ps.take ss.length=ps:=by rw[←r,mi]
     rw[N]at z y;have L:=Tb ss;refine jv O O O ?_;have hK3:3*(cK ss).length<=cs.length:=O
     have hlt3:(cK ss).length<ss.length:=hKj;rw[zB O];simp only[E.a,ze,add_lit,zH];refine⟨by simp[dY],?_⟩;simp only;have hz:(List.replicate (sl.len-(cK ss).length) [Value.int .i64 0,.int .i64 0,.pointer none]).flatten.length=3*(sl.len-(cK ss).length):=by
      rw[wV,wB,yl];simp;omega
     refine V9 (o:=(cK ss).length*3) (i:=0) z (by rw[hz,zM,y,kj];omega) λv10 gE b10=>?_;refine jv (lo:=0) O O O ?_;have af:Ext (λb=>b=rb\/n3<=b) σ1 v10:=ev.trans (gE.ext.sub λb g=>.inl g);refine hR v10 _ (af.sub λb g=>?_) ⟨o3,WF gE C (by have:=E.bV.lt;omega),aI.bT K gE.ext λb _ g he=>by have:=E.bV.lt;omega⟩ (.inr ?_)
     .rcases g with rfl|h
      .exact .inl E.fr
      .exact .inr h
     .refine⟨by rw[KF (GI r)];simp;omega,.inr ⟨rb,_,E.fr,?_,b10,?_,?_,?_⟩⟩
      .simp only[E.a];split<;>simp[add_lit]
      .simp only;omega
      .simp only[zM,zY,kj,hz,y];omega
      .rw[KF (GI r),kr,show(cK ss).length*3=3*(cK ss).length by omega];rw[zl,pA (by rw[zY,zM,y];omega),yN,Nat.min_self];rw[pA O,lP O]
  .have x:¬s.many=0:=by simpa using hm
   rw[zB x,kG]at A;refine cT (m:=i+1) O O ⟨⟨i+1,rfl,O,e.trans e2,⟨o2,ag,A⟩,?_,?_,?_⟩,O⟩
   .rw[GD J,q1,zB x];rfl
   .rw[GY J,q2,zB x,kB,J];rfl
   .rw[DD r hp J,q3,zB x,kB,hp];rfl
 .have hii:i=ss.length:=O
  subst hii;rw[mi]at *;have N:ps.take ss.length=ps:=by rw[←r,mi]
  rw[N]at q3;have B:((-1:Int)==(-1))=true:=rfl;refine cF B (hR h' sl (e.sub λb g=>.inr g) ?_ (.inl ⟨rfl,q1,q2,q3,e⟩));rw[q1];exact⟨o,P,ab⟩
theorem fJ.nB (h:fJ U F p c ps ss):∃sl:Sl,bY U p [.int .i64 (c.size:Int),.int .i64 (c.aG:Int),.int .i64 (c.batch:Int),.slice sl.a sl.len sl.cap]/\sl.len=ss.length/\bU sl 3 (dV ps ss) U (λb=>F b/\b≠p/\b∉eH ps) ∧
 ∃rb cs,(ss≠[]->sY U F p ps ss sl rb cs/\sl.len<=sl.cap/\cs.length=sl.cap*3):=by
 obtain⟨sl,r,g⟩:=h.hd;have m:=g.1;rw[KF h.len]at m;refine⟨sl,r,O,g,?_⟩;rcases g.2 with⟨h0,_⟩|⟨b,cs,hq,ha,hbb,hle,hcl,ht⟩
 .exact⟨0,[],λi=>by have:=pB.2 i;omega⟩
 .refine⟨b,cs,λ_=>⟨⟨ha,hbb,hq,λ{j v} d=>?_,?_⟩,hle,hcl⟩⟩
  .rw[←ht,zm]at d;split at d
   .exact d
   .cases d
  .have:=congrArg List.length ht;rw[zY,KF h.len]at this;omega
theorem Mm (h:fJ U F p c ps ss){R:Sl->Hp->Prop}
 (hR:∀o σ',Ext F U σ'->bU o 2 (iU c (QW ss)) σ' (λb=>U.size<=b)->fJ σ' (Cut F U) p c (jj ps ss) (cK ss)->R o σ'):Ya.c (aW p) U R:=by
 refine Ya.o ?_;unfold Ya.v;have h:=fJ.loc.cut h;obtain⟨sl,a,C,z,V,cs,S⟩:=h.nB;refine Uq h (cD rfl (nw (cs:=[.slice none 0 0]) λW N e1 H=>bL ((e1.bV a id).rS rfl ?_)));refine Ni h e1 C (zD _) S ⟨⟨none,0,0⟩,H,bU.nil _ _ _ _⟩ λX nB e2 ⟨o,B,E⟩ u=>bL ?_;have K:=a.lt;have g:=h.nd;have d:=TM (DU (ps:=ps) (ss:=ss));simp only[zr]at g;refine(e2.bV (e1.bV a id) λJ=>by rcases J with h|h;exact h.2.1 rfl;omega).s1 aA λv3 o3 G=>?_;have y:=WF o3 B (by have:=B.lt;omega);refine y.wu rfl (hR o v3 ?_ (aI.bT (aI.mono E λb _ a=>O) o3.ext λb _ a m=>O) ?_)
 .refine(e1.to.dX e2 λb a=>?_).dX o3.ext λb a=>?_
  .rcases a with h|h
   .exact .inl h.1.1
   .exact .inr h
  .subst a;exact .inl h.fp.1
 .have A:∀b,b∈eH ps->b<U.size->¬(Cut F U b/\b≠p/\b∉eH ps\/U.size<=b):=λb a M J=>by
   rcases J with h|h
   .exact h.2.2 a
   .omega
  refine⟨⟨nB,G,?_⟩,λi x s Q P=>?_,h.fp,λb a=>h.fb b (d.subset a),?_,GI h.len,h.ok,h.rG.sublist uB⟩
  .rcases u with⟨rfl,_,q2,q3,ex⟩|hr
   .rw[q2,q3];exact aI.bT (aI.bT (aI.bP z e1) ex λb _ a m=>by have:=a.1.2;omega) o3.ext λb _ a m=>a.2.1 m
   .exact aI.bT (aI.mono hr λb _ a=>⟨a.1,a.2.1,λr=>a.2.2 (d.subset r)⟩) o3.ext λb _ a m=>a.2.1 m
  .obtain⟨j,w,D⟩:=FQ h.len Q P;have L:=h.sp j x s w D;have r:=QZ w;have C:=L.lt;exact((L.bP e1).bT e2 (A _ r.1 C.1) (A _ r.2 C.2)).bT o3.ext (λm=>g.1 (m▸r.1)) (λm=>g.1 (m▸r.2))
  .simp only[zr];exact⟨λr=>g.1 (d.subset r),g.2.sublist d⟩
theorem Pj {x:Int}{k i:Nat}{s:cH}(hc:0<c.size)(hk:kV c ss x=some k)(hs:ss[k]?=some s)(v:Bool)(y:Int):kV c (ss.set k (s.put i v)) y=kV c ss y:=by
 have b:∀t:cH,∀j w z,idx c (t.put j w) z=idx c t z:=λt j w z=>by unfold idx cH.put;simp only[pH]
 unfold kV;have a:=(cY.1 hs).1;have:(ss.set k (s.put i v)).map (λs=>(idx c s y).isSome)=ss.map (λs=>(idx c s y).isSome):=by
  apply zt;intro j;simp only[zZ];by_cases hjk:j=k
  .subst hjk;rw[zO a,hs];simp[b]
  .rw[zh (Ne.symm hjk)]
 have d:∀l:List cH,l.findIdx? (λs=>(idx c s y).isSome)=(l.map λs=>(idx c s y).isSome).findIdx? id:=λl=>by rw[List.findIdx?_map];rfl
 rw[d,d,this]
def kO (c:cA)(ss:List cH)(xs:List Int):Prop:=(∀x∈xs,eD c ss x=some true)/\xs.Nodup
theorem yI {x:Int}{b:Bool}(h:eD c ss x=some b):∃k s i,kV c ss x=some k/\ss[k]?=some s/\obj c s x=some i/\s.is i=b:=by
 unfold eD at h;split at h
 .rename_i k hk;split at h
  .rename_i s hs;cases ho:obj c s x with
   | none=>rw[ho]at h;cases h
   | some i=>rw[ho]at h;exact⟨k,s,i,hk,hs,ho,by simpa[cH.is]using h⟩
  .cases h
 .cases h
theorem Ak {x:Int}{k i:Nat}{s:cH}(hk:kV c ss x=some k)(hs:ss[k]?=some s)(ho:obj c s x=some i):fM c ss x=ss.set k (s.put i false):=by
 simp[fM,hk,hs,ho]
theorem SM {x y:Int}(hc:0<c.size)(hx:eD c ss x=some true)(hne:y≠x):eD c (fM c ss x) y=eD c ss y:=by
 obtain⟨k,s,i,A,d,u,_⟩:=yI hx;rw[Ak A d u];have r:=(cY.1 d).1;have a:=Pj hc A d false (i:=i) y;have p:∀t:cH,∀j w z,obj c (t.put j w) z=obj c t z:=λt j w z=>by unfold obj idx at_ cH.put;simp only[pH]
 cases hy:kV c ss y with
 | none=>rw[DA (a.trans hy),DA hy]
 | some m=>
  by_cases hmk:m=k
  .subst hmk;rw[Un (a.trans hy) (zO r),Un hy d,p];cases hoy:obj c s y with
   | none=>rfl
   | some j=>
    simp only[ze,Option.some.injEq];have g:i≠j:=λe=>by
     subst e;exact hne (((Hg hc).1 hoy).1.trans ((Hg hc).1 u).1.symm)
    simp[cH.is,cH.put,zQ,zh g]
  .have b:m<ss.length:=(nV.1 hy).1;rw[Un (a.trans hy) ((zh (Ne.symm hmk)).trans (cW b)),Un hy (cW b)]
theorem kO.next {x:Int}{xs:List Int}(hc:0<c.size)(h:kO c ss (x::xs)):kO c (fM c ss x) xs:=by
 have b:=zr.1 h.2;refine⟨λy a=>?_,b.2⟩;rw[SM hc (h.1 x aA) λe=>b.1 (e▸a)];exact h.1 y (by simp[a])
theorem FA {xs:List Int}(h:iI c ss xs=0):kO c ss xs:=by
 unfold iI at h;split at h
 .cases h
 .rename_i h1;split at h
  .cases h
  .rename_i h2;simp only[nS,not_or,rU,mG,Bool.not_eq_false',zV,zU]at h1 h2;refine⟨λx d=>?_,h2.2⟩;have a:=h1 x d;have b:=h2.1 x d;cases ht:eD c ss x with
   | none=>rw[ht]at a;simp at a
   | some v=>
    cases v
    .rw[ht]at b;exact absurd rfl b
    .rfl
theorem Oi {sl:Sl}{xs:List Int}{X:Rg}(h:fJ U F p c ps ss)(hs:cV sl 1 (xs.map (Value.int .i64)) U X)(hX:∀b,X b->¬F b)(hi:∀x∈xs,iN x)(hA:kO c ss xs)(hl:xs.length<=1000000){K:aP}
 (hK:∀σ',Ext F U σ'->fJ σ' F p c ps (xs.foldl (fM c) ss)->K σ') :
 X9 [bO] (λI1=>I1 0 U) λJ3 (t49:Int) v6=>If (decide (t49<((sl.len:Nat):Int))) (Ix sl.a sl.len t49 1 λa51=>gL .i64 a51 v6 λaddr1=>
  X2.c (aW p) addr1 v6 λvx v7=>bW vx λa57=>fZ (a57.add 2) v7 λt59=>ZV.c t59 addr1 v7 λt61 v8=>bW vx λa63=>gL .i64 ((a63.add 0).add 0) v8 λt66=>
  Ar .i64 (t66-1) λt67=>bW vx λa68=>dG ((a68.add 0).add 0) (.int .i64 t67) v8 λv9=>Ar .i64 (t49+1) λt71=>J3 t71 v9) (K v6):=by
 have hlen:sl.len=xs.length:=by have:=hs.1;simp at this;omega
 have z:0<c.size:=by have:=h.ok.1;omega
 refine Qg (a:=bO) (λ(t:Int) N=>∃(i:Nat) (u:List cH),t=(i:Int)/\i<=xs.length/\Ext F U N/\fJ N F p c ps u/\kO c u (xs.drop i)/\(xs.drop i).foldl (fM c) u=xs.foldl (fM c) ss) (λt _=>xs.length-t.toNat) ⟨0,ss,rfl,O,Ext.refl _ _,h,by simpa using hA,by simp⟩ ?_;rintro t N ⟨i,u,rfl,hil,e,L,w,G⟩;refine cN (λhlt=>?_) λhge=>?_
 .have y:i<xs.length:=O
  have hx:xs[i]?=some xs[i]:=cW y;have hd:xs.drop i=xs[i]::xs.drop (i+1):=xh y;rw[hd]at w G;refine(aH.bT hs e λb _ Y hF=>hX b Y hF).mf hx ?_;obtain⟨k,s,j,M,d,J,C⟩:=yI (w.1 xs[i] mL);have A:=hi xs[i] (ky y);refine DT L xs[i] A (λhn=>by rw[M]at hn;cases hn) λk' nB rb cs H W Y E=>bL ?_;rw[M]at H;cases H;obtain⟨Q,s',V,B,R⟩:=L.jP W;rw[d]at B;cases B;have eg:=Ks V d;have hj:=((Hg z).1 J).2;refine E.bV.rP (x:=some ⟨Q.1,0,none⟩) (E.get eg.2.2) ?_;refine SS R A J C λv8 e8 Z=>bL ?_;have D:=QZ V;have S:¬(rb=Q.1\/rb=Q.2):=λhh=>E.fr.2.2 (by rcases hh with h|h<;>rw[h];exact D.1;exact D.2)
  have hml:=Eh s;have g:=Bn hj false;rw[C]at g;have hsl:=R.len;have hnl:=R.ok.kT;have r:((s.put j false).many:Int)=s.many-1:=by simp at g;omega
  refine(e8.bV E.bV S).fE (E.get eg.1) (ar O O (bL ?_));simp only[add_lit,kr];rw[←r];refine L.oS (s':=s.put j false) V d rfl e8 Z Y E λv9 e9 P=>?_;refine cT (m:=i+1) O O ⟨⟨i+1,_,rfl,O,e.trans e9,P,?_,?_⟩,O⟩
  .have:=kO.next z w
   rwa [Ak M d J]at this
  .rw[ry,Ak M d J]at G;exact G
 .have:i=xs.length:=O
  subst this;rw[List.drop_length,List.foldl_nil]at G;subst G;exact hK N e L
theorem RL (h:fJ U F p c ps ss){sl:Sl}{xs:List Int}{X:Rg}(hs:cV sl 1 (xs.map (Value.int .i64)) U X)(hX:∀b,X b->¬F b)(hi:∀x∈xs,iN x)(hl:xs.length<=1000000)(hcap:sl.len<=sl.cap){R:Sl->Int->Hp->Prop}
 (h0:iI c ss xs≠0->R ⟨none,0,0⟩ (iI c ss xs) U)
 (h1:iI c ss xs=0->∀o σ',Ext F U σ'->bU o 2 (iU c (QW (xs.foldl (fM c) ss))) σ' (λb=>U.size<=b)->fJ σ' (Cut F U) p c (jj ps (xs.foldl (fM c) ss)) (cK (xs.foldl (fM c) ss))->R o 0 σ') :
 Y9.c (aW p) sl U R:=by
 refine Y9.o ?_;unfold Y9.v;have af:sl.len=xs.length:=by have:=hs.1;simp at this;omega
 refine Uq h (cD rfl ?_);have P:∀i,(xs.take i).any (λx=>eD c ss x==some false)=true\/¬(xs.take i).Nodup->(∀x∈xs,(eD c ss x).isSome=true)->iI c ss xs=9:=by
  intro i d hall;unfold iI;rw[zB,zC]
  .rcases d with d|d
   .rw[zy]at d;obtain⟨x,u,ab⟩:=d;have:xs.any (λx=>eD c ss x==some false)=true:=zy.2 ⟨x,vu u,ab⟩;rw[this];rfl
   .have:¬xs.Nodup:=λE=>d (E.sublist (Dd _ _));simp[this]
  .simp only[rU,mG];intro x u;have:=hall x u;cases ht:eD c ss x
   .rw[ht]at this;cases this
   .simp
 refine UJ (a:=.b) (bb:=bO) (λ(P:Bool) (t:Int) B=>∃i:Nat,t=(i:Int)/\i<=xs.length/\B=U/\(∀x∈xs.take i,(eD c ss x).isSome=true)/\(P=true↔(xs.take i).any (λx=>eD c ss x==some false)=true\/¬(xs.take i).Nodup)) (λ_ t _=>xs.length-t.toNat)
  ⟨0,rfl,O,rfl,by simp,by simp⟩ ?_
 rintro w t B ⟨i,rfl,hil,rfl,g,D⟩;refine cN (λhlt=>?_) λhge=>?_
 .have C:i<xs.length:=O
  have u:xs[i]?=some xs[i]:=cW C;have ac:=hi xs[i] (ky C);have G:xs.take (i+1)=xs.take i++[xs[i]]:=by rw[kB,u];rfl
  refine hs.mf u (Lr h xs[i] ac (λb d=>cD rfl ?_) λE=>cF rfl ?_)
  .have A:∀x∈xs.take (i+1),(eD c ss x).isSome=true:=by
    rw[G];intro x u;rcases zJ.1 u with h1|h1
    .exact g x h1
    .simp at h1;subst h1;rw[d];rfl
   have fin:∀L:Bool,(L=true↔(xs.take (i+1)).any (λx=>eD c ss x==some false)=true\/¬(xs.take (i+1)).Nodup)->Ar .i64 ((i:Int)+1) λs=>
    (∃j:Nat,s=(j:Int)/\j<=xs.length/\B=B/\(∀x∈xs.take j,(eD c ss x).isSome=true)/\(L=true↔(xs.take j).any (λx=>eD c ss x==some false)=true\/¬(xs.take j).Nodup))/\xs.length-s.toNat<xs.length-(i:Int).toNat:=
    λL ae=>cT (m:=i+1) O O ⟨⟨i+1,rfl,O,rfl,A,ae⟩,O⟩
   have V:∀y:Int,(xs.take i++[y]).Nodup↔(xs.take i).Nodup/\y∉xs.take i:=λy=>by
    rw[m9];constructor
    .exact λh=>⟨h.1,λM=>h.2.2 y M y aA rfl⟩
    .exact λh=>⟨h.1,by simp,λa ha z hz e=>by simp at hz;subst hz;exact h.2 (e▸ha)⟩
   have ex:(xs.take (i+1)).any (λx=>eD c ss x==some false)=true\/¬(xs.take (i+1)).Nodup↔(w=true\/b=false)\/xs[i]∈xs.take i:=by
    rw[G,V,List.any_append,D];simp only[List.any_cons,List.any_nil,Bool.or_false,nS,d];have aa:((some b==some false)=true)↔b=false:=by cases b<;>simp
    rw[aa];constructor
    .rintro((h|h)|h)
     .exact .inl (.inl (.inl h))
     .exact .inl (.inr h)
     .by_cases E:(xs.take i).Nodup
      .by_cases M:xs[i]∈xs.take i
       .exact .inr M
       .exact absurd ⟨E,M⟩ h
      .exact .inl (.inl (.inr E))
    .rintro(((h|h)|h)|h)
     .exact .inl (.inl h)
     .exact .inr λK=>h K.1
     .exact .inl (.inr h)
     .exact .inr λK=>K.2 h
   have J1:∀r:Bool,(r=true↔w=true\/b=false)->bX (λL v4=>Ar .i64 ((i:Int)+1) λs=>
    (∃j:Nat,s=(j:Int)/\j<=xs.length/\v4=B/\(∀x∈xs.take j,(eD c ss x).isSome=true)/\(L=true↔(xs.take j).any (λx=>eD c ss x==some false)=true\/¬(xs.take j).Nodup))/\xs.length-s.toNat<xs.length-(i:Int).toNat) λJ2=>
    If r (J2 true B) (fI sl 1 0 (i:Int) (sl.cap:Nat) λZ=>Ww.c Z xs[i] B λN v5=>J2 N v5):=by
    intro r hr;refine bX.intro ?_;cases r
    .refine cD rfl ?_;refine jv (lo:=0) O O O ?_;have H:cV ⟨if sl.cap=0 then sl.a else sl.a.map (·.add (0*1)),i-0,sl.cap-0⟩ 1 ((xs.take i).map (Value.int .i64)) B X:=by
      refine⟨by simp;omega,?_⟩;rcases hs.2 with h0|⟨b',o',cs',hf',ha',hb',hc'⟩
      .left;have:xs=[]:=by simpa using h0
       simp[this]
      .refine .inr ⟨b',o',cs',hf',?_,hb',λj hj=>?_⟩
       .rw[zB O,ha'];simp[add_lit]
       .simp only[zk,zY]at hj;rw[hc' j aE,List.map_take,zm,zC O]
     refine G6 H aE _ (fin _ ?_);rw[ex,←hr];simp
    .refine cF rfl (fin true ?_);rw[ex,←hr];simp
   refine bX.intro ?_;cases w
   .refine cD rfl (J1 _ ?_);cases b<;>simp
   .exact cF rfl (J1 _ aA)
  .have:iI c ss xs=8:=by
    unfold iI;rw[zC];exact zy.2 ⟨xs[i],ky C,by rw[E];rfl⟩
   have h0:=h0 (by rw[this];decide);rw[this]at h0;exact h0
 .have:i=xs.length:=O
  subst this;rw[mi]at *;cases w
  .refine cD rfl ?_;have hE:iI c ss xs=0:=by
    unfold iI;have S:¬(xs.any (λx=>eD c ss x==some false)=true\/¬xs.Nodup):=λK=>by have:=D.2 K;cases this
    rw[zB,zB]
    .simp only[not_or,rU,Decidable.not_not]at S;rw[S.1];simp[S.2]
    .simp only[rU,mG];intro x u;have:=g x u;cases ht:eD c ss x
     .rw[ht]at this;cases this
     .simp
   refine Oi (fJ.loc.cut h) hs (λb d hf=>hX b d hf.1) hi (FA hE) hl λv6 e6 ad=>?_;refine Mm ad λo W Y Q J=>?_;exact h1 hE o W ((e6.trans Y).sub λb d=>d.1) (aI.mono Q λb _ d=>kD e6.1 d) (fJ.loc.mono J λb _ d=>d.1)
  .refine cF rfl ?_;have h9:=P xs.length (by rw[mi];exact D.1 rfl) g;have h0:=h0 (by rw[h9];decide);rw[h9]at h0;exact h0
theorem Ts {x y:Sl}{a o b o':Nat}{cs ds:List Value}(hx:x.a=some ⟨a,o,none⟩)(hy:y.a=some ⟨b,o',none⟩)(ha:bY U a cs)(hb:bY U b ds)(hne:a≠b)(hd:ds≠[]){K:aO}(hK:K false U) :
 uS Tryz.prog 320 [.slice x.a x.len x.cap,.slice y.a y.len y.cap] U K:=by
 rintro w rfl;obtain⟨g,ha⟩:=ha;obtain⟨d,hb⟩:=hb;refine⟨false,w,?_,.refl _,hK⟩;rw[hx,hy,run_callFunc_extern Tryz.func320 (by kernel_rfl) (by kernel_rfl) (by kernel_rfl) (e:=Extern.SlicesOverlaps.overlaps #[272,272] #[4]) (by kernel_rfl)];have:=Lib.run_overlaps_apart (P:=Tryz.prog) w 272 4 279 Tryz.underlying272 3 Tryz.sizeOf279
  ⟨a,o,none⟩ ⟨b,o',none⟩ x.len x.cap y.len y.cap hne g d cs.length ds.length (by simp[World.shape?,ha]) (by simp[World.shape?,hb]) (by simpa using hd) (by simp[World.frozen?,ha]) (by simp[World.frozen?,ha])
 rw[this];rfl
theorem PL {Q:Rg}{s:Sl}{xs:List Value}{i m vb:Nat}{x y z:Value}(h:bU s 3 xs U Q)(hlen:s.len=m)(hm:m<=2000)(hi:i<=m)(hv:bY U vb [x,y,z])(hvb:¬Q vb)(h1:∀v∈xs,dY v=true)(h2:dY x=true/\dY y=true/\dY z=true)
 {R:Sl->Hp->Prop} (hR:∀s' σ',Ext Q U σ'->bU s' 3 (xs.take (3*i)++[x,y,z]++xs.drop (3*i)) σ' (Grow Q U)->R s' σ') :
 Wk.c s (i:Int) ⟨some ⟨vb,0,none⟩,1,1⟩ U R:=by
 refine Wk.o ?_;unfold Wk.v;have hxl:=h.1;have hcap:s.len<=s.cap:=by
  rcases h.2 with⟨h0,h0'⟩|⟨b,cs,_,_,_,N,_⟩
  .omega
  .exact N
 have V:Rd U (some ⟨vb,0,none⟩) [x,y,z]:=by
  intro j u hu;rw[add_lit,zH,hv.cell];exact hu
 have X:∀v∈[x,y,z],dY v=true:=by simp[h2]
 refine jv O O O (cD rfl (cP (λhe=>?_) λhe=>?_))
 .have hie:i=m:=by
   have:(i:Int)=((s.len:Nat):Int):=by simpa using he
   omega
  refine h.app (ys:=[x,y,z]) rfl rfl V X aD aD nc λs' h' hl' e' ho'=>hR s' h' e' ?_
  rw[lP O,B9 O,kG];exact ho'
 .have hie:i<m:=by
   have:¬(i:Int)=((s.len:Nat):Int):=by simpa using he
   omega
  obtain⟨b,cs,P,Z,E,N,H,ht⟩:∃b cs,Q b/\s.a=some ⟨b,0,none⟩/\bY U b cs/\s.len<=s.cap/\cs.length=s.cap*3/\cs.take xs.length=xs:=by
   rcases h.2 with⟨h0,_⟩|h
   .omega
   .exact h
  have J:vb≠b:=λe=>hvb (e▸P);have w:∀j v,xs[j]?=some v->cs[j]?=some v:=λj v p=>by
   rw[←ht,zm]at p;split at p
   .exact p
   .cases p
  refine cT (m:=m+1) aD O (cN (λhgt=>?_) λhle2=>?_)
  .-- no room: a new row
   refine jv (lo:=0) O O O (cT (m:=m+1) aD O (cT (m:=m+1-i) O O ?_))
   have B:¬s.cap=0:=O
   rw[zB B];simp only[Z,ze,add_lit,wE,kr,Nat.sub_zero];refine⟨O,xs.take (3*i),by rw[zY];simp only;omega,?_,by simp[dY],by simp only;omega,by simp only;omega,O,λW=>by simp only at W;omega,λ_ cc K=>?_⟩
   .intro j v p;rw[add_lit,zH,E.cell];rw[zm]at p;split at p
    .exact w j v p
    .cases p
   simp only[dH]at K ⊢;have aa:i+(m+1-i)=m+1:=O
   rw[aa]at K ⊢;refine nw λv2 hz2 e2 hb2=>?_;have A:∀k,(List.replicate k [Value.int .i64 0,.int .i64 0,.pointer none]).flatten.length=3*k:=λk=>by
    rw[wV,wB,yl];simp;omega
   have g:(xs.take (3*i)).length=3*i:=by rw[zY];omega
   refine jv aD aD aD ?_
   have hv2:=e2.bV hv id;have n1:(if cc=i then(some ⟨U.size,0,none⟩:Option Addr)else(some ⟨U.size,0,none⟩:Option Addr).map (·.add (i*3)))=some ⟨U.size,i*3,none⟩:=by
    have:¬cc=i:=O
    rw[zB this];simp[add_lit]
   rw[n1];refine⟨[x,y,z],by simp only;rw[qI O];rfl,?_,X,?_⟩
   .intro j u hu;rw[add_lit,zH,hv2.cell];exact hu
   simp only;refine V9 (o:=i*3) (i:=0) hb2 (by simp only[zM,g,A,zS,lh];omega) λv3 o3 S=>?_;refine cT (m:=i+1) aD O (jv aD aD aD (jv O O O ?_))
   have M:bY v3 b cs:=WF o3 (e2.bV E id) (by have:=E.lt;omega);have d:(xs.drop (3*i)).length=3*(m-i):=by rw[kj];omega
   refine⟨xs.drop (3*i),by simp only;rw[qI O,d];omega,?_,λv hv=>h1 v (ur hv),?_⟩
   .have r:¬s.cap=i:=O
    rw[zB r];simp only[Z,ze,add_lit];intro j v p;rw[add_lit,M.cell];rw[lK]at p;have:=w _ _ p;rw[show 0+i*3+j=3*i+j by omega];exact this
   have hbig:(xs.take (3*i)++(List.replicate (m+1-i) [Value.int .i64 0,.int .i64 0,.pointer none]).flatten++(List.replicate (cc-(m+1)) [Value.int .i64 0,.int .i64 0,.pointer none]).flatten).length=3*cc:=by
    simp only[zM,g,A];omega
   have tk:∀L:List Value,((xs.take (3*i)++(List.replicate (m+1-i) [Value.int .i64 0,.int .i64 0,.pointer none]).flatten++(List.replicate (cc-(m+1)) [Value.int .i64 0,.int .i64 0,.pointer none]).flatten).take (3*i))=xs.take (3*i):=λ_=>by
    rw[zl,pA O,lP O]
   have fin:∀v4,Ka v3 v4 U.size->bY v4 U.size ((xs.take (3*i)++[x,y,z])++xs.drop (3*i)++((xs.take (3*i)++(List.replicate (m+1-i) [Value.int .i64 0,.int .i64 0,.pointer none]).flatten++(List.replicate (cc-(m+1)) [Value.int .i64 0,.int .i64 0,.pointer none]).flatten).drop (3*i+3)).drop (3*(m-i)))->R ⟨some ⟨U.size,0,none⟩,m+1,cc⟩ v4:=by
    intro v4 o4 b4;refine hR _ v4 ?_ ⟨?_,.inr ⟨U.size,_,.inr (zD _),rfl,b4,by simp only;omega,?_,?_⟩⟩
    .exact((e2.to.dX o3.ext λi hi=>by subst hi;exact .inr (zD _)).dX o4.ext λi hi=>by subst hi;exact .inr (zD _))
    .simp only[zM,g,d,zS,lh];omega
    .simp only[zM,g,d,zS,lh,kj,A];omega
    .rw[zl (xs.take (3*i)++[x,y,z]),←zl,AD];rfl
   have e3:(xs.take (3*i)++(List.replicate (m+1-i) [Value.int .i64 0,.int .i64 0,.pointer none]).flatten++(List.replicate (cc-(m+1)) [Value.int .i64 0,.int .i64 0,.pointer none]).flatten).take (i*3+0)=xs.take (3*i):=by
    rw[show i*3+0=3*i by omega];exact tk []
   rw[e3]at S;have C:(xs.take (3*i)++[x,y,z]++(xs.take (3*i)++(List.replicate (m+1-i) [Value.int .i64 0,.int .i64 0,.pointer none]).flatten++(List.replicate (cc-(m+1)) [Value.int .i64 0,.int .i64 0,.pointer none]).flatten).drop (i*3+0 + [x,y,z].length)).length=3*cc:=by
    simp only[zM,kj,g,A,zS,lh];omega
   by_cases r:cc=i+1
   .exfalso;omega
   .rw[zB r];simp only[ze,add_lit,zH];refine V9 (o:=(i+1)*3) (i:=0) S (by rw[C,d];omega) λv4 o4 b4=>fin v4 o4 ?_;have q1:(i+1)*3+0=(xs.take (3*i)++[x,y,z]).length:=by rw[zM,g];simp;omega
    have q2:(i+1)*3+0+(xs.drop (3*i)).length=(xs.take (3*i)++[x,y,z]).length+3*(m-i):=by rw[d,q1]
    rw[q2,q1,AD,List.drop_append]at b4
    .rw[B9 (show(xs.take (3*i)++[x,y,z]).length<=(xs.take (3*i)++[x,y,z]).length+3*(m-i) by omega),tg]at b4;have q3:i*3+0 + [x,y,z].length=3*i+3:=by simp;omega
     rw[q3]at b4;have q4:(xs.take (3*i)++[x,y,z]).length+3*(m-i)-(xs.take (3*i)++[x,y,z]).length=3*(m-i):=O
     rw[q4]at b4;exact b4
    .rfl
  .-- room: the rest moves
   have hle3:m+1<=s.cap:=O
   have B:¬s.cap=0:=O
   have r:¬s.cap=i:=O
   refine cT (m:=m+1) aD O (jv (lo:=0) O O O ?_)
   rw[zB B];simp only[Z,ze,add_lit,wE,kr,Nat.sub_zero];refine cT (m:=i+1) aD O (jv aD aD aD ?_)
   have D:cs.take (3*m)=xs:=by rw[←hlen,show 3*s.len=xs.length by omega];exact ht
   have na:∃o',(if s.cap=i+1 then(some ⟨b,0,none⟩:Option Addr)else(some ⟨b,0,none⟩:Option Addr).map (·.add ((i+1)*3)))=some ⟨b,o',none⟩:=by
    split
    .exact⟨0,rfl⟩
    .exact⟨_,by simp[add_lit];rfl⟩
   obtain⟨o',na⟩:=na;refine Ts (x:=⟨some ⟨vb,0,none⟩,1,1⟩) (a:=vb) (o:=0) (b:=b) rfl na hv E J (λe=>by rw[e]at H;simp at H;omega) (cF rfl ?_);refine cT (m:=i+1) aD O (jv aD aD aD (jv aD aD aD ?_))
   have G:¬s.cap=i+1:=O
   rw[zB G,zB r];simp only[ze,add_lit,zH];have d:(xs.drop (3*i)).length=3*(m-i):=by rw[kj];omega
   refine⟨xs.drop (3*i),by simp only;rw[Nat.min_eq_right O,d];omega,?_,λv hv=>h1 v (ur hv),?_⟩
   .intro j v p;rw[add_lit,E.cell];rw[lK]at p;have:=w _ _ p;rw[show i*3+j=3*i+j by omega];exact this
   refine V9 (o:=(i+1)*3) (i:=0) E (by rw[d];omega) λv3 o3 S=>?_;refine jv aD aD aD ?_
   rw[zB r];simp only[ze,add_lit,zH];have hv3:=WF o3 hv J;refine⟨[x,y,z],by simp only;rw[qI O];rfl,?_,X,?_⟩
   .intro j u hu;rw[add_lit,zH,hv3.cell];exact hu
   have Y:(cs.take ((i+1)*3+0)++xs.drop (3*i)++cs.drop ((i+1)*3+0+(xs.drop (3*i)).length)).length=cs.length:=by
    simp only[zM,zY,kj,d];omega
   refine V9 (o:=i*3) (i:=0) S (by rw[Y];simp;omega) λv4 o4 b4=>?_;have a1:(cs.take ((i+1)*3+0)).length=3*i+3:=by rw[zY];omega
   have g:(xs.take (3*i)).length=3*i:=by rw[zY];omega
   have p1:(cs.take ((i+1)*3+0)++xs.drop (3*i)++cs.drop ((i+1)*3+0+(xs.drop (3*i)).length)).take (i*3+0)=xs.take (3*i):=by
    rw[zl,pA O,yN,qI O,←D,yN,qI O]
    congr 1;omega
   have p2:(cs.take ((i+1)*3+0)++xs.drop (3*i)++cs.drop ((i+1)*3+0+(xs.drop (3*i)).length)).drop (i*3+0 + [x,y,z].length)=xs.drop (3*i)++cs.drop ((i+1)*3+0+(xs.drop (3*i)).length):=by
    rw[zl,List.drop_left'];rw[a1];simp;omega
   rw[p1,p2,←zl]at b4;refine hR _ v4 ((Ext.eW (F:=Q) o3 P).trans (Ext.eW o4 P)) ⟨?_,.inr ⟨b,_,.inl P,rfl,b4,aD,?_,?_⟩⟩
   .simp only[zM,g,zS,lh,d];omega
   .simp only[zM,g,kj,zS,lh,d];omega
   .rw[AD];rfl
def ZK (ss:List cH)(st:Nat):Nat:=(ss.takeWhile (λs=>s.st<st)).length
theorem GL (l:List cH)(P:cH->Bool):l.takeWhile P=l.take (l.takeWhile P).length/\l.dropWhile P=l.drop (l.takeWhile P).length:=by
 induction l with
 | nil=>simp
 | cons x l ih=>
  simp only[List.takeWhile_cons,List.dropWhile_cons];cases P x
  .simp
  .simp only[zT,zS,we,vR];exact⟨by rw[←ih.1],ih.2⟩
theorem xI (c:cA)(ss:List cH)(st:Nat):ir c ss st=ss.take (ZK ss st)++⟨st,List.replicate c.n false⟩::ss.drop (ZK ss st):=by
 have:=GL ss (λs=>decide (s.st<st));unfold ir ZK;rw[this.2,←this.1]
theorem GV (hs:ss.Pairwise (λa b=>a.st<b.st))(st:Nat):ZK ss st<=ss.length/\∀(i:Nat) s,ss[i]?=some s->(s.st<st↔i<ZK ss st):=by
 unfold ZK
 induction ss with
 | nil=>simp
 | cons x ss ih=>
  have d:=tH.1 hs;obtain⟨j,g⟩:=ih d.2;simp only[List.takeWhile_cons];by_cases hx:x.st<st
  .simp only[hx,decide_true,zT,zS];refine⟨O,λi s hi=>?_⟩;cases i with
   | zero=>simp at hi;subst hi;simp[hx]
   | succ i=>have:=g i s (by simpa using hi);omega
  .simp only[hx,decide_false,za,jV,lh,Nat.zero_le,Nat.not_lt_zero,iff_false,uP];intro i s hi;cases i with
   | zero=>simp at hi;subst hi;exact hx
   | succ i=>
    have:=d.1 s (zG (i:=i) (by simpa using hi));omega
theorem Pe (h:fJ U F p c ps ss){σ1:Hp}(e1:aF U σ1){sl:Sl}{rb:Nat}{cs:List Value}(hl:sl.len=ss.length)(hE:ss≠[]->sY U F p ps ss sl rb cs)(st:Nat)(hst:st<=1024){R:Int->Bool->Hp->Prop}(hR:∀σ' b,aF σ1 σ'->R (ZK ss st:Int) b σ') :
 Wc.c sl (st:Int) ⟨292,#[],#[]⟩ σ1 R:=by
 refine Wc.o ?_;unfold Wc.v;have N:=h.qV;obtain⟨H,ko⟩:=GV h.rG st;have B:∀(k:Nat) (x:Nat×Nat) s (v:Hp) (K:aN),ps[k]?=some x->ss[k]?=some s->aF σ1 v->(∀D,aF v D->K ((s.st:Int)-(st:Int)) D) →
  VP Tryz.prog ⟨292,#[],#[]⟩ [.agg #[.int .i64 (s.many:Int),.int .i64 (s.st:Int),.pointer (some ⟨x.1,0,none⟩)],.int .i64 (st:Int)] [.one bO] v K:=by
  intro k x s v K y g ev hK;refine Gn (all := #[.agg #[.int .i64 (s.many:Int),.int .i64 (s.st:Int),.pointer (some ⟨x.1,0,none⟩)],.int .i64 (st:Int)]) (by kernel_rfl) aA ?_;refine YY.o ?_;unfold YY.v;have hf:=(h.sp k x s y g).fit;refine nw (cs:=[.int .i64 (s.many:Int),.int .i64 (s.st:Int),.pointer (some ⟨x.1,0,none⟩)]) λZ hz e J=>J.fE rfl (ar O O (hK Z e))
 refine UJ (a:=bO) (bb:=bO) (λ(i j:Int) v=>∃a b:Nat,i=(a:Int)/\j=(b:Int)/\a<=ZK ss st/\ZK ss st<=b/\b<=ss.length/\aF σ1 v) (λi j _=>j.toNat-i.toNat) ⟨0,ss.length,rfl,by rw[hl],O,H,O,Ext.refl _ _⟩ ?_;rintro i j v ⟨a,b,rfl,rfl,Y,J,A,ev⟩;have C:aF U v:=e1.trans ev;refine cN (λW=>?_) λX=>?_
 .have w:ss≠[]:=by rintro rfl;simp at A;omega
  have E:=hE w;refine cT (m:=a+b) O O ?_;have hw:IntKind.u64.wrap ((a+b:Nat):Int)=((a+b:Nat):Int):=by
   unfold IntKind.wrap;simp[IntKind.bits,IntKind.signed];omega
  refine vO ?_;rw[hw];refine nn O ?_;have M:min (1:Int).toNat IntKind.u64.bits=1:=by decide
  rw[M,BR];have z:(((a+b:Nat):Int)/2^1)=(((a+b)/2:Nat):Int):=O
  refine cT (m:=(a+b)/2) z O ?_;have d:(a+b)/2<ss.length:=O
  obtain⟨x,s,y,g,hS⟩:=h.jP d;have u:=Ks y g;rw[E.a];refine ix O O ?_;rw[add_lit,show 0+(((a+b)/2:Nat):Int).toNat*3=3*((a+b)/2) by omega];refine ym (e:=0) (C.bV E.bV id) (E.get u.1) (E.get u.2.1) (E.get u.2.2) (B _ x s v _ y g ev λD G=>?_);have r:=ko _ s g;show If (decide (((s.st:Int)-(st:Int))<0)) _ _;refine cN (λQ=>?_) λV=>?_
  .exact cT (m:=(a+b)/2+1) O O ⟨⟨_,b,rfl,rfl,by have:=r.1 O;omega,J,A,ev.trans G⟩,O⟩
  .exact⟨⟨a,_,rfl,rfl,Y,by
    apply Classical.byContradiction;intro hc;have:=r.2 O;omega,O,ev.trans G⟩,O⟩
 .have L:a=ZK ss st:=O
  subst L;refine bX.intro (cN (λP=>?_) λS=>hR v _ ev);have d:ZK ss st<ss.length:=O
  have w:ss≠[]:=by rintro rfl;simp at d
  have E:=hE w;obtain⟨x,s,y,g,hS⟩:=h.jP d;have u:=Ks y g;rw[E.a];refine ix O O ?_;rw[add_lit,show 0+(ZK ss st:Int).toNat*3=3*ZK ss st by omega];refine ym (e:=0) (C.bV E.bV id) (E.get u.1) (E.get u.2.1) (E.get u.2.2) (B _ x s v _ y g ev λD G=>hR D _ (ev.trans G))
theorem Sg (h:fJ U F p c ps ss){st:Nat}(hf:st+c.aG<=1024){R:aN}(h9:oh c ss st=9->∀σ',aF U σ'->R 9 σ')
 (h0:oh c ss st=0->∀σ' ps',Ext F U σ'->fJ σ' (Grow F U) p c ps' (ir c ss st)->R 0 σ'):Zc.c (aW p) (st:Int) U R:=by
 refine Zc.o ?_;unfold Zc.v;have h:=fJ.loc.cut h;obtain⟨sl,d,hl,ac,rb,cs,hE⟩:=h.nB;have hfew:=h.qV;have hc:=h.ok;have hck:=hc;unfold cA.ok at hck;refine Uq h (cD rfl (bL (d.fE rfl (d.fE rfl (d.fE rfl ?_)))));refine Ε hc hf λv1 D M e1 hpn hqn V=>cD rfl (bL ((e1.bV d id).rS rfl ?_));have hplt:=d.lt;refine Qg (a:=bO) (λ(t:Int) v=>∃i:Nat,t=(i:Int)/\i<=ss.length/\aF v1 v/\∀(j:Nat) s,j<i->ss[j]?=some s->¬max s.st st-min s.st st<c.aG) (λt _=>ss.length-t.toNat) ⟨0,rfl,O,Ext.refl _ _,λj s y=>O⟩ ?_;rintro t v ⟨i,rfl,hi,ev,Y⟩;have r:=e1.trans ev;refine cN (λaa=>?_) λhge=>?_
 .simp only at aa;have ae:i<ss.length:=O
  obtain⟨E,hcap,hcl⟩:=hE (by rintro rfl;simp at ae);obtain⟨x,s,z,g,hS⟩:=h.jP ae;have eg:=Ks z g;have hsf:=hS.fit;rw[E.a];refine ix O O ?_;rw[add_lit,show 0+(i:Int).toNat*3=3*i by omega];refine ym (e:=0) (r.bV E.bV id) (E.get eg.1) (E.get eg.2.1) (E.get eg.2.2) (Fk λv6 e6 b6=>b6.fE rfl (b6.fE rfl ?_));have hd:(if(st:Int)>(s.st:Int)then(st:Int)else(s.st:Int))-(if(st:Int)<(s.st:Int)then(st:Int)else(s.st:Int))=((max s.st st-min s.st st:Nat):Int):=by
   split<;>split<;>omega
  refine cT (m:=max s.st st-min s.st st) hd O (bL (((r.trans e6).bV d id).fE rfl ?_));refine cN (λhlt2=>h9 ?_ _ (r.trans e6)) λhge2=>?_
  .unfold oh;rw[zC];exact zy.2 ⟨s,zG g,by simpa using(by omega:max s.st st-min s.st st<c.aG)⟩
  .refine cT (m:=i+1) O O ⟨⟨i+1,rfl,O,ev.trans e6,λj s' y X=>?_⟩,O⟩;by_cases e:j=i
   .subst e;rw[g]at X;cases X;omega
   .exact Y j s' O X
 .have hii:i=ss.length:=by simp only at hge;omega
  subst hii;have hE0:oh c ss st=0:=by
   unfold oh;rw[zB];simp only[rU,mG,zV];intro s g;obtain⟨j,y⟩:=zP g;exact Y j s (cY.1 y).1 y
  refine bL ((r.bV d id).rS rfl ?_);refine Pe h r hl (λW=>(hE W).1) st O λv7 bb e7=>bL (((r.trans e7).bV d id).rS rfl ?_);have e07:=r.trans e7;obtain⟨hp1,ko⟩:=GV h.rG st;refine nw (cs:=[.int .i64 0,.int .i64 st,.pointer (some ⟨D,0,none⟩)]) λv8 hz8 e8 hb8=>?_;have J:=e07.trans e8;have Q:=aI.bP ac J;have hsz7:=e07.1;refine PL Q hl O hp1 hb8 (λw=>by have:=w.1.2;omega) JK ⟨rfl,rfl,rfl⟩ λs' v9 e9 hr9=>bL ?_;have hb9:=e9.bV (J.bV d id) λw=>w.2.1 rfl;refine hb9.s1 aA λP gE ab=>?_;have H:=h.len;have B:=h.nd;simp only[zr]at B;have aa:=V.lt;have hsz1:=(ev.trans e7).trans e8 |>.1;have A:∀b∈eH ps,b<U.size:=λb d=>(h.fb b d).2;have af:∀{a b s'},ij v8 a b c s'->¬(Cut F U a/\a≠p/\a∉eH ps)->¬(Cut F U b/\b≠p/\b∉eH ps)->a≠p->b≠p->ij P a b c s':=λhS n1 n2 m1 m2=>(hS.bT e9 n1 n2).bT gE.ext m1 m2;have ad:=((V.bP ev).bP e7).bP e8;have Z:dV (ps.take (ZK ss st)++(D,M)::ps.drop (ZK ss st)) (ss.take (ZK ss st)++⟨st,List.replicate c.n false⟩::ss.drop (ZK ss st)) =
   (dV ps ss).take (3*ZK ss st)++[.int .i64 0,.int .i64 st,.pointer (some ⟨D,0,none⟩)]++(dV ps ss).drop (3*ZK ss st):=by
   rw[VT (by simp[H])];have u:dV ps ss=dV (ps.take (ZK ss st)) (ss.take (ZK ss st))++dV (ps.drop (ZK ss st)) (ss.drop (ZK ss st)):=by
    rw[←VT (by simp[H]),oQ,oQ]
   have h2:(dV (ps.take (ZK ss st)) (ss.take (ZK ss st))).length=3*ZK ss st:=by rw[KF (by simp[H]),zY];omega
   rw[u,AD h2,List.drop_left' h2,zl];have:cH.many ⟨st,List.replicate c.n false⟩=0:=by simp[cH.many,AU]
   simp[dV,this]
  refine h0 hE0 P (ps.take (ZK ss st)++(D,M)::ps.drop (ZK ss st)) ?_ ?_
  .refine(((aF.to J).trans (e9.sub λb d=>d.1.1))).trans (gE.ext.sub λb d=>d▸h.fp.1)
  .have C:(eH (ps.take (ZK ss st)++(D,M)::ps.drop (ZK ss st))).Perm (D::M::eH ps):=by
    have:eH ps=eH (ps.take (ZK ss st))++eH (ps.drop (ZK ss st)):=by
     conv=>lhs;rw[←oQ (ZK ss st) ps]
     simp only[eH,List.flatMap_append]
    rw[this];have h3:eH (ps.take (ZK ss st)++(D,M)::ps.drop (ZK ss st))=eH (ps.take (ZK ss st))++D::M::eH (ps.drop (ZK ss st)):=by simp[eH]
    rw[h3];exact List.perm_middle.trans ((List.perm_middle).cons D)
   have S:∀b,b∈eH (ps.take (ZK ss st)++(D,M)::ps.drop (ZK ss st))↔b=D\/b=M\/b∈eH ps:=by
    intro b;rw[C.mem_iff];simp
   refine⟨⟨s',ab,?_⟩,λi x s z g=>?_,.inl h.fp.1,λb d=>?_,?_,?_,hc,?_⟩
   .rw[xI,Z];refine aI.bT (aI.mono hr9 λb _ d=>?_) gE.ext λb _ d he=>d.2.1 he;rw[S];rcases d with d|d
    .exact⟨.inl d.1.1,d.2.1,λw=>by
      rcases w with h|h|h
      .have:=d.1.2;omega
      .have:=d.1.2;omega
      .exact d.2.2 h⟩
    .exact⟨.inr O,O,λw=>by
      rcases w with h|h|h
      .omega
      .omega
      .have:=A b h;omega⟩
   .rw[xI]at g;have K:(ps.take (ZK ss st)).length=ZK ss st:=by rw[zY];omega
    have L:(ss.take (ZK ss st)).length=ZK ss st:=by rw[zY];omega
    have old:∀j:Nat,ps[j]?=some x->ss[j]?=some s->ij P x.1 x.2 c s:=λj u h2=>by
     have G:=QZ u;exact af ((h.sp j x s u h2).bP J) (λw=>w.2.2 G.1) (λw=>w.2.2 G.2) (λe=>B.1 (e▸G.1)) (λe=>B.1 (e▸G.2))
    rcases qQ i (ZK ss st)with hlt'|heq|hgt
    .rw[zd O,zm,zC hlt']at z g;exact old i z g
    .rw[zp O]at z g;rw[K,heq,pY]at z;rw[L,heq,pY]at g;simp at z g;subst z;subst g;exact af ad (λw=>by have:=w.1.2;simp only at this;omega) (λw=>by have:=w.1.2;simp only at this;omega) aC aC
    .rw[zp O]at z g;rw[K]at z;rw[L]at g;obtain⟨k,hk⟩:∃k,i-ZK ss st=k+1:=⟨i-ZK ss st-1,O⟩;rw[hk,Aq,lK]at z g;exact old _ z g
   .rcases(S b).1 d with u|u|u
    .subst u;exact .inr hpn
    .subst u;exact .inr hqn
    .exact .inl (h.fb b u).1
   .simp only[zr];refine⟨λG=>?_,?_⟩
    .rcases(S p).1 G with u|u|u
     .omega
     .omega
     .exact B.1 u
    .rw[C.nodup_iff];simp only[zr,zW,not_or];have W:=V.ne;exact⟨⟨W,λG=>by have:=A _ G;omega⟩,λG=>by have:=A _ G;omega,B.2⟩
   .rw[xI];simp[H]
   .rw[xI];rw[qO];have N:=h.rG;refine⟨N.sublist (Dd _ _),tH.2 ⟨λs g=>?_,N.sublist (List.drop_sublist _ _)⟩,λa ha b d=>?_⟩
    .obtain⟨j,y⟩:=zP g;rw[lK]at y;have u:=ko _ s y;have h2:s.st≠st:=λe=>by
      have:=Y (ZK ss st+j) s (cY.1 y).1 y;rw[e]at this;simp at this;omega
     show st<s.st;omega
    .obtain⟨i,hi⟩:=zP ha;rw[zm]at hi;split at hi
     .rename_i hlt';have hat:=(ko i a hi).2 hlt';rcases zW.1 d with rfl|d
      .exact hat
      .obtain⟨j,y⟩:=zP d;rw[lK]at y;obtain⟨hi1,hi2⟩:=cY.1 hi;obtain⟨hj1,hj2⟩:=cY.1 y;have:=mB.1 N i (ZK ss st+j) hi1 hj1 O;rw[hi2,hj2]at this;exact this
     .cases hi
end Go.Ar
namespace Go.Proofs
open Go.Vc
set_option maxRecDepth 100000
def Xz.h:Hn:=.q .o1 (.q (.cU (.seq [.op,.op,.op,.cZ true 5 (RI.ops 5),.op])) .l)
def Xz.v (a:R2)(b:Hp)(c:aO):Prop:=bX (λd e=>c d e) λf=>If (!a.isNone) (bE a 0 b λh=>f (decide (h>0)) b) (f false b)
theorem Xz.o {a b c}(d:Xz.v a b c):Xz.c a b c:=Wa Tryz.func199 (x:=Xz.h) (R0 d)
def Qj.h:Hn:=.q .o2 (.q (.q (.cU (.seq [.op,.op,.op,.cZ false 2 [.op,.op],.op,.cZ false 2 [.op,.op],.op,.cZ false 2 [.op,.op]])) .aJ) (.q .o6 .l))
def Qj.v (a b:Int)(c:Hp)(d:Option Addr->Int->Hp->Prop):Prop:=bX (λe f=>bX (λg h=>bX (λi j=>If i (d none 1 j) (aV #[.I a,.I b,.I 0,.slice none 0 0] 283 j λk l=>d (some k) 0 l)) λm=>If g (m true h) (m (decide (b>8)) h)) λn=>If e (n true f) (n (decide (b<0)) f)) λo=>If (a<1) (o true c) (o (decide (a>32)) c)
theorem Qj.o {a b c d}(e:Qj.v a b c d):Qj.c a b c d:=Wa Tryz.func213 (x:=Qj.h) (R0 e)
def WT.h:Hn:=.q .o2 (.q (.k (.q .o4 (.c .aL (.q .o7 .aJ)))) (.q .o7 (.q .o8 (.q .gE (.q .gE (.q .o3 .l))))))
def WT.v (a:R2)(b:Hp)(c:Sl->Int->Hp->Prop):Prop:=Xz.c a b λd e=>If (!d) (c ⟨none,0,0⟩ 5 e) (bF a 3 e λg=>If (((g.len:Nat):Int)==0) (c ⟨none,0,0⟩ 4 e) (bF a 3 e λi=>bM (((i.len:Nat):Int)-1) λj=>bF a 3 e λl=>Ix l.a l.len j 1 λm=>jF m e λn=>bF a 3 e λp=>fI p 1 0 j (p.cap:Nat) λq=>bW a λr=>aR r 3 (.slice q.a q.len q.cap) e λs=>bE a 2 s λu=>bW a λv=>aR v 2 (.I (if j<u then j else u)) s λw=>c n 0 w))
theorem WT.o {a b c}(d:WT.v a b c):WT.c a b c:=Wa Tryz.func232 (x:=WT.h) (R0 d)
def Xr.h:Hn:=.q .o2 (.q (.k (.q .o4 (.c .aL (.q .o8 (.c .aL (.q (.oq 11) .aJ)))))) (.q (.cU (.held true [8,11] (.tk [0,1,2,3,4,5] (.all [(6,.all [(7,.all [(8,.take 9 (.take 10 (.all [(11,.done)])))])])])))) .aL))
def Xr.v (a:R2)(b:Sl)(c:Hp)(d:Bool->Int->Hp->Prop):Prop:=Xz.c a c λe f=>If (!e) (d false 5 f) (bE a 0 f λh=>If (((b.len:Nat):Int) != h) (d false 1 f) (bF a 3 f λj=>bE a 1 f λl=>If (((j.len:Nat):Int)≥l) (d false 0 f) (dT f λm=>bW a λn=>aT m n 3 λo=>W4.c b f λp q=>And (m q) <| aV #[.slice p.a p.len p.cap] 31 q λr s=>And (m s) <| App o 1 24 31 [.slice none 0 0] ⟨some r,1,1⟩ s λt u=>bW a λv=>aR v 3 (.slice t.a t.len t.cap) u λw=>d true 0 w)))
theorem Xr.o {a b c d}(e:Xr.v a b c d):Xr.c a b c d:=Wa Tryz.func300 (x:=Xr.h) (R0 e)
end Go.Proofs
namespace Go.Ar
open Go Go.Vc Go.Proofs
variable {U:Hp}{F:Rg}{p batch room:Nat}{t:gQ}
def qP (s:Sl):Value:=.slice s.a s.len s.cap
def Wu (xs:List Int):List Value:=xs.map (Value.int .i64)
theorem Ud {l:List Int}:∀v∈Wu l,dY v=true:=by
 intro v hv;simp only[Wu,zE]at hv;obtain⟨x,_,rfl⟩:=hv;rfl
def r5 (sls:List Sl)(bs:List (List Int))(U:Hp)(D:Rg):Prop:=sls.length=bs.length/\∀(i:Nat) s xs,sls[i]?=some s->bs[i]?=some xs->cV s 1 (Wu xs) U D/\s.len<=s.cap
theorem r5.loc (sls:List Sl)(bs:List (List Int)):dP (r5 sls bs):=λU m F G h g j=>⟨h.1,λi s d b a=>⟨cV.loc _ _ _ _ _ _ _ (h.2 i s d b a).1 g j,(h.2 i s d b a).2⟩⟩
def Dj (sls:List Sl):Prop:=sls.Pairwise λs t=>∀a a',s.a=some a->t.a=some a'->a.block≠a'.block
def k9 (s:Sl)(b:Nat):Prop:=∃a,s.a=some a/\a.block=b
theorem _root_.Go.Vc.cV.l3 {s:Sl}{sz:Nat}{xs:List Value}{D:Rg}(h:cV s sz xs U D):cV s sz xs U λb=>D b/\k9 s b:=
 ⟨h.1,h.2.imp id λ⟨b,o,d,g,a,r⟩=>⟨b,o,d,⟨g,_,a,rfl⟩,a,r⟩⟩
theorem _root_.Go.Vc.cV.bV {s:Sl}{sz:Nat}{xs:List Value}{D:Rg}(h:cV s sz xs U D)(hx:xs≠[]){b:Nat}(hb:k9 s b):D b/\b<U.size:=by
 rcases h.2 with h0|⟨b',o,cs,hq,ha,hc,_⟩
 .exact absurd h0 hx
 .obtain⟨a,d,rfl⟩:=hb;rw[ha]at d;cases d;exact⟨hq,hc.lt⟩
theorem Dj.snoc {sls:List Sl}{bs:List (List Int)}{D:Rg}{z:Nat}{s':Sl}{xs:List Value}{v:Hp}(h:Dj sls)(hB:r5 sls bs U D)(hne:∀xs∈bs,xs≠[])(hz:∀b,D b->b<z)(hs:bU s' 1 xs v λb=>z<=b)(hx:xs≠[]):Dj (sls++[s']):=by
 refine qO.2 ⟨h,List.pairwise_singleton _ _,λs j u m a w p r=>?_⟩;rw[zN]at m;subst m;obtain⟨i,hi⟩:=zP j;have g:=(cY.1 hi).1;have d:bs[i]?=some (bs[i]'(by rw[←hB.1];exact g)):=cW _;have x:=((hB.2 i s _ hi d).1.bV (by simp only[Wu,ne_eq,yV];exact hne _ (zG d)) ⟨a,p,rfl⟩).1;have y:=(hs.fY.bV hx ⟨w,r,rfl⟩).1;have:=hz _ x;omega
structure iV (U:Hp) (F:Rg) (p batch room:Nat) (t:gQ):Prop where
 mem:∃(sl:Sl) (sls:List Sl) (D:Rg),bY U p [.int .i64 (batch:Int),.int .i64 (room:Int),.int .i64 (t.low:Int),.slice sl.a sl.len sl.cap]/\bU sl 1 (sls.map qP) U (λb=>F b/\b≠p/\¬D b)/\r5 sls t.bs U D/\(∀b,D b->F b/\b≠p)/\Dj sls
 fp:F p
 b1:1<=batch/\batch<=32
 r1:room<=8
 qV:t.bs.length<=room
 low:t.low<=t.bs.length
 all:∀xs∈t.bs,xs.length=batch
theorem iV.loc:dP λU F=>iV U F p batch room t:=λU x F G h r d=>by
 obtain⟨sl,i,D,a,s,u,j,w⟩:=h.mem;refine⟨⟨sl,i,λb=>D b/\b<U.size,?_,?_,?_,λb a=>⟨(d b a.2 (j b a.1).1).1,(j b a.1).2⟩,w⟩,(d p a.lt h.fp).1,h.b1,h.r1,h.qV,h.low,h.all⟩
 .obtain⟨e,m⟩:=a;exact⟨e,(d p (bY.lt ⟨e,m⟩) h.fp).2.trans m⟩
 .exact bU.loc _ _ _ _ _ _ _ s r λb a g=>⟨⟨(d b a g.1).1,g.2.1,λhd=>g.2.2 hd.1⟩,(d b a g.1).2⟩
 .exact r5.loc _ _ _ _ _ _ u r λb a hd=>⟨⟨hd,a⟩,(d b a (j b hd).1).2⟩
theorem iV.bP {σ':Hp}(h:iV U F p batch room t)(e:aF U σ'):iV σ' F p batch room t:=dP.bP iV.loc h e
theorem DV (h:iV U F p batch room t){R:aO}(hR:R true U):Xz.c (aW p) U R:=by
 refine Xz.o ?_;unfold Xz.v;obtain⟨sl,b,D,a,_⟩:=h.mem;have:=h.b1;refine bX.intro (cF rfl (bL (a.rI rfl ?_)));rw[zI O];exact hR
theorem _root_.Go.Vc.cV.ixS {s:Sl}{F:Rg}{sls:List Sl}(h:cV s 1 (sls.map qP) U F){i:Nat}{x:Sl}(hx:sls[i]?=some x){K:Sl->Prop}(hK:K x):Ix s.a s.len (i:Int) 1 λa=>jF a U K:=by
 have hi:=(cY.1 hx).1;obtain⟨b,o,d,m⟩:=h.cell (j:=i) (v:=qP x) (by simp[hx]);have g:=h.1;rw[zk]at g;rw[d];refine ix O O ?_;rw[add_lit];exact oL (by simpa[qP]using m) hK
theorem Oe (h1:1<=batch)(h2:batch<=32)(h3:room<=8){R:Option Addr->Int->Hp->Prop}(hR:∀σ' p,aF U σ'->U.size<=p->p<σ'.size->iV σ' (· = p) p batch room ⟨0,[]⟩->R (some ⟨p,0,none⟩) 0 σ'):Qj.c batch room U R:=by
 refine Qj.o ?_;unfold Qj.v;refine bX.intro (gA O (bX.intro (gA O (bX.intro (gA O (gA O ?_))))));refine nw (cs:=[.int .i64 batch,.int .i64 room,.int .i64 0,.slice none 0 0]) λv d e a=>?_;exact hR v _ e (zD _) O ⟨⟨⟨none,0,0⟩,[],λ_=>False,a,bU.nil _ _ _ _,⟨rfl,λi s g h=>by simp at h⟩,λb h=>h.elim,List.Pairwise.nil⟩,rfl,⟨h1,h2⟩,h3,by simp,by simp,by simp⟩
theorem Rv (h:iV U F p batch room t){sl:Sl}{xs:List Int}{X:Rg}(hs:cV sl 1 (Wu xs) U X)(hl:xs.length<=1000000){R:Bool->Int->Hp->Prop}(h1:xs.length≠batch->R false 1 U)(h2:xs.length=batch->room<=t.bs.length->R false 0 U)
 (h3:xs.length=batch->t.bs.length<room->∀σ',Ext F U σ'->iV σ' (Grow F U) p batch room {t with bs:=t.bs++[xs]}->R true 0 σ'):Xr.c (aW p) sl U R:=by
 refine Xr.o ?_;unfold Xr.v;have h:=iV.loc.cut h;obtain⟨B,w,D,d,hr,z,J,hJ⟩:=h.mem;have r:sl.len=xs.length:=by have:=hs.1;simp[Wu]at this;omega
 have hso:B.len=t.bs.length:=by have:=hr.1;rw[zk,z.1]at this;omega
 have hr8:=h.r1;have hb1:=h.b1;refine DV h (cD rfl (bL (d.rI rfl ?_)));rw[rX];refine cP (λx=>h1 (by rw[←r];simpa using x)) λP=>?_;have g:xs.length=batch:=by rw[←r];simpa using P
 refine bL (d.rS rfl (bL (d.rI rfl (cN (λL=>h2 g (by simp only at L;omega)) λK=>?_))));simp only at K;refine⟨λh'=>bY h' p [.int .i64 (batch:Int),.int .i64 (room:Int),.int .i64 (t.low:Int),.slice B.a B.len B.cap],d,bL ⟨B,λh' S=>by rw[add_lit,S.cell];rfl,?_⟩⟩;refine H6 hs Ud O λy v1 hl1 e1 A=>⟨e1.bV d id,?_⟩;refine nw (cs:=[.slice y.a y.len y.cap]) λv2 hz2 e2 Z=>⟨(e1.trans e2).bV d id,?_⟩;have N:=aI.bP (aI.bP hr e1) e2;refine N.app (ys:=[qP y]) rfl rfl ?_ (by simp[dY,qP]) ?_ ?_ nc λs2 v3 hl3 W V=>bL ?_
 .intro j u hu;rw[add_lit,zH,Z.cell];exact hu
 .simp only;have:(B.len+1)*24<=9*24:=mC O O;omega
 .simp only;omega
 .have Q:=W.bV ((e1.trans e2).bV d id) λE=>E.2.1 rfl;have hplt:=d.lt;have hs1:=e1.1;refine Q.s1 aA λv4 o4 Y=>h3 g O v4 ?_ ?_
  .exact((aF.to (e1.trans e2)).trans (W.sub λb d=>d.1.1)).trans (o4.ext.sub λb d=>d▸h.fp.1)
  .refine⟨⟨s2,w++[y],λb=>D b/\b<U.size\/U.size<=b/\b<v1.size,Y,?_,⟨by simp[z.1],λi s ys hi m=>?_⟩,λb d=>?_,?_⟩,.inl h.fp.1,h.b1,h.r1,by simp;omega,by have:=h.low;simp;omega,λys m=>?_⟩
   .rw[zj];refine aI.bT (aI.mono V λb _ d=>?_) o4.ext λb _ d M=>d.2.1 M;rcases d with d|d
    .exact⟨.inl d.1.1,d.2.1,λhd=>by
      rcases hd with hd|hd
      .exact d.2.2 hd.1
      .have:=d.1.2;omega⟩
    .exact⟨.inr O,O,λhd=>by rcases hd with hd|hd<;>omega⟩
   .have mv:∀{s:Sl} {ys:List Int} {G:Rg},cV s 1 (Wu ys) v2 G->(∀b,G b->b≠p/\¬(Cut F U b/\b≠p/\¬D b))->cV s 1 (Wu ys) v4 G:=λS hn=>
     aH.bT (aH.bT S W λb _ d=>(hn b d).2) o4.ext λb _ d M=>(hn b d).1 M
    rcases kv i w.length with hi'|hi'
    .rw[zd hi']at hi;rw[zd (by rw[←z.1];exact hi')]at m;obtain⟨k1,k2⟩:=z.2 i s ys hi m;refine⟨aH.mono (mv (aH.bP (aH.bP (aH.mono k1 (G:=λb=>D b/\b<U.size) λb d hd=>⟨hd,d⟩) e1) e2) λb hd=>⟨(J b hd.1).2,λE=>E.2.2 hd.1⟩) λb _ hd=>.inl hd,k2⟩
    .rw[zp hi']at hi;rw[zp (by rw[←z.1];exact hi')]at m;have C:i-w.length=0:=by
      have:=(cY.1 hi).1;simp at this;omega
     rw[C]at hi;rw[show i-t.bs.length=0 by rw[←z.1];exact C]at m;simp at hi m;subst hi;subst m;have H:y.len<=y.cap:=by
      rcases A.2 with⟨q1,q2⟩|⟨_,_,_,_,_,q,_⟩
      .omega
      .exact q
     refine⟨aH.mono (mv (aH.bP (aH.mono A.fY (G:=λb=>U.size<=b/\b<v1.size) λb d hd=>⟨hd,d⟩) e2) λb hd=>⟨O,λE=>by have:=E.1.2;omega⟩) λb _ hd=>.inr hd,H⟩
   .rcases d with hd|hd
    .exact⟨.inl (J b hd.1).1.1,(J b hd.1).2⟩
    .exact⟨.inr hd.1,O⟩
   .have x:∀ys∈t.bs,ys≠[]:=λys m e=>by have:=iV.all ‹_› ys m;rw[e]at this;simp at this;omega
    exact hJ.snoc z x (λb hd=>(J b hd).1.2) A (by simp only[Wu,ne_eq,yV];intro e;rw[e]at g;simp at g;omega)
   .rcases zJ.1 m with h|h
    .exact iV.all ‹_› ys h
    .simp at h;subst h;exact g
theorem MZ (h:iV U F p batch room t)(h0:t.bs=[]){R:Sl->Int->Hp->Prop}(hR:R ⟨none,0,0⟩ 4 U):WT.c (aW p) U R:=by
 refine WT.o ?_;unfold WT.v;obtain⟨b,d,D,i,g,j,m,r⟩:=h.mem;have a:b.len=t.bs.length:=by have:=g.1;rw[zk,j.1]at this;omega
 refine DV h (cD rfl (bL (i.rS rfl (cF ?_ hR))));simp[a,h0]
theorem M5 (h:iV U F p batch room t)(h0:t.bs≠[]){R:Sl->Int->Hp->Prop}(hR:∀out σ',Ext F U σ'->(∀b,k9 out b->F b)->cV out 1 (Wu (t.bs.getLast?.getD [])) σ' (k9 out)->out.len<=out.cap->iV σ' (λb=>F b/\¬k9 out b) p batch room t.rem->R out 0 σ'):WT.c (aW p) U R:=by
 refine WT.o ?_;unfold WT.v;obtain⟨J,g,D,d,H,A,B,Z⟩:=h.mem;have ac:J.len=t.bs.length:=by have:=H.1;rw[zk,A.1]at this;omega
 have Y:=pB.2 h0;have ad:=h.r1;have ab:=h.qV;have W:=h.low;have Q:t.bs.length-1<g.length:=by rw[A.1];omega
 obtain⟨o,L⟩:∃o,g[t.bs.length-1]?=some o:=⟨_,cW Q⟩;have j:t.bs[t.bs.length-1]?=some (t.bs.getLast?.getD []):=by
  rw[List.getLast?_eq_getElem?,cW O];rfl
 obtain⟨V,k2⟩:=A.2 _ o _ L j;refine DV h (cD rfl (bL (d.rS rfl (cD ?_ ?_))))
 .simp only[mV];omega
 refine bL (d.rS rfl (cT (m:=t.bs.length-1) aC O (bL (d.rS rfl ?_))));refine H.fY.ixS L (bL (d.rS rfl ?_));have aa:J.len<=J.cap:=by
  rcases H.2 with⟨q1,q2⟩|⟨_,_,_,_,_,q,_⟩
  .omega
  .exact q
 refine jv (lo:=0) O aD aD (bL (d.s1 aA λv1 o1 G=>bL (G.rI rfl (bL ?_))))
 refine G.s1 aA λv2 o2 u=>?_;have r:Ext (· = p) U v2:=o1.ext.trans o2.ext;have E:(if((t.bs.length-1:Nat):Int)<(t.low:Int)then((t.bs.length-1:Nat):Int)else(t.low:Int))=((min t.low (t.bs.length-1):Nat):Int):=by split<;>omega
 rw[E]at u;have P:∀z∈t.bs,z≠[]:=λz w e=>by have X:=h.all z w;have h2:=h.b1;rw[e]at X;simp at X;omega
 have x:∀b,k9 o b->D b:=λb d=>(V.bV (by simp only[Wu,ne_eq,yV];exact P _ (zG j)) d).1;refine hR o v2 (r.sub λb d=>d▸h.fp) (λb d=>(B b (x b d)).1) (aH.mono (aH.bT V r λb _ d C=>(B b d).2 C).l3 λb _ hd=>hd.2) k2 ⟨⟨_,g.dropLast,λb=>D b/\¬k9 o b,u,?_,⟨by simp[A.1,gQ.rem],λi s z hi w=>?_⟩,λb hd=>⟨⟨(B b hd.1).1,hd.2⟩,(B b hd.1).2⟩,List.Pairwise.sublist (List.dropLast_sublist _) Z⟩,⟨h.fp,λd=>(B p (x p d)).2 rfl⟩,h.b1,h.r1,by simp[gQ.rem];omega,by simp[gQ.rem];omega,λz w=>h.all z (List.dropLast_subset _ w)⟩
 .refine aI.bT ?_ r λb _ d C=>d.2.1 C;refine⟨by simp[A.1],?_⟩;rcases H.2 with⟨q1,q2⟩|⟨b,cs,hq,N,hbb,hle,hcl,ht⟩
  .omega
  .refine .inr ⟨b,cs,⟨⟨hq.1,λd=>hq.2.2 (x b d)⟩,hq.2.1,λhd=>hq.2.2 hd.1⟩,?_,hbb,by simp only;omega,by simp only;omega,?_⟩
   .simp only[N];split<;>simp[add_lit]
   .simp only[zk]at ht ⊢;have hd:g.dropLast.map qP=(g.map qP).take (g.length-1):=by rw[AJ,List.map_take]
    rw[hd,←ht,yN,BF]
    congr 1;omega
 .have y:i<t.bs.length-1:=by
   have:=(cY.1 w).1;simpa[gQ.rem]using this
  rw[AJ,zm]at hi;simp only[gQ.rem,AJ,zm]at w;rw[zC (by rw[A.1];exact y)]at hi;rw[zC y]at w;obtain⟨m1,m2⟩:=A.2 i s z hi w;refine⟨aH.mono (aH.bT m1 r λb _ d C=>(B b d).2 C).l3 λb _ d=>⟨d.1,λu=>?_⟩,m2⟩;obtain⟨a,N,e1⟩:=d.2;obtain⟨a',M,e2⟩:=u;obtain⟨S,rfl⟩:=cY.1 hi;obtain⟨K,rfl⟩:=cY.1 L;exact mB.1 Z i _ S K y a a' N M (e1.trans e2.symm)
def wM (out:Sl)(bs:List (List Int))(U:Hp)(G:Rg):Prop:=∃sls:List Sl,cV out 1 (sls.map qP) U G/\r5 sls bs U G
theorem wM.loc (out:Sl)(bs:List (List Int)):dP (wM out bs):=λU j F G ⟨a,g,i⟩ b d=>⟨a,cV.loc _ _ _ _ _ _ _ g b d,r5.loc _ _ _ _ _ _ i b d⟩
end Go.Ar
namespace Go.Ar
open Go Go.Vc Go.Proofs
open Go.Bu (ZF)
variable {U:Hp}{F:Rg}{p:Nat}{ow:Nat->Nat}
def wy (ow:Nat->Nat)(x:Nat)(l:List (Nat×Nat×Nat)):Prop:=
 l.length<=x/\(∀r∈l,1<=r.2.1/\r.1+r.2.1<=x/\∀y,r.1<=y->y<r.1+r.2.1->ow y=r.2.2)/\∀y,y<x->ow y≠0->∃r∈l,r.1<=y/\y<r.1+r.2.1
theorem wy.new {x:Nat}{l:List (Nat×Nat×Nat)}(h:wy ow x l):wy ow (x+1) (l++[(x,1,ow x)]):=by
 refine⟨by simp;exact h.1,λr d=>?_,λy i g=>?_⟩
 .rcases zJ.1 d with a|a
  .exact⟨(h.2.1 r a).1,by have:=(h.2.1 r a).2.1;omega,(h.2.1 r a).2.2⟩
  .simp at a;subst a;exact⟨zD _,zD _,λy a b=>by simp only at a b ⊢;rw[show y=x by omega]⟩
 .rcases kv y x with a|a
  .obtain⟨r,d,b⟩:=h.2.2 y a g;exact⟨r,kN _ d,b⟩
  .exact⟨(x,1,ow x),by simp,by simp only;omega⟩
theorem wy.more {x a m no:Nat}{l:List (Nat×Nat×Nat)}(h:wy ow x (l++[(a,m,no)]))(he:a+m=x)(hno:ow x=no):wy ow (x+1) (l++[(a,m+1,no)]):=by
 refine⟨by have:=h.1;simp at this ⊢;omega,λr g=>?_,λy j i=>?_⟩
 .rcases zJ.1 g with b|b
  .have:=h.2.1 r (kN _ b);exact⟨this.1,O,this.2.2⟩
  .simp at b;subst b;have:=h.2.1 (a,m,no) aA;refine⟨by simp only;omega,by simp only;omega,λy b d=>?_⟩;simp only at b d ⊢;rcases kv y (a+m)with h3|h3
   .exact this.2.2 y b h3
   .rw[show y=x by omega];exact hno
 .rcases kv y x with b|b
  .obtain⟨r,g,d⟩:=h.2.2 y b i;rcases zJ.1 g with h3|h3
   .exact⟨r,kN _ h3,d⟩
   .simp at h3;subst h3;exact⟨(a,m+1,no),by simp,by simp only at d ⊢;omega⟩
  .exact⟨(a,m+1,no),by simp,by simp only;have:=h.2.1 (a,m,no) aA;simp only at this;omega⟩
end Go.Ar
namespace Go.Proofs
open Go.Vc
set_option maxRecDepth 100000
def YM.h:Hn:=.q .o1 (.q (.q .o4 (.q .o2 .aJ)) (.q .o5 .aM))
def YM.v (a:R2)(b c:Int)(d:Hp)(e:aN):Prop:=XM.c a b 1 d λf g=>If (f != 0) (e f g) (Nz 8<|bM (b.tdiv 8) λh=>Zv.c a h c g λi=>e 0 i)
theorem YM.o {a b c d e}(f:YM.v a b c d e):YM.c a b c d e:=Wa Tryz.func62 (x:=YM.h) (R0 f)
def Y7.h:Hn:=.q .o2 (.q (.q .o4 (.q .o2 (.c (.q .o3 .l) .l))) (.q .o6 .l))
def Y7.v (a:R2)(b:Int)(c:Hp)(d:Int->Int->Hp->Prop):Prop:=XM.c a b 1 c λe f=>If (e != 0) (d 0 e f) (Nz 8<|bM (b.tdiv 8) λg=>Zu.c a g f λh i=>d h 0 i)
theorem Y7.o {a b c d}(e:Y7.v a b c d):Y7.c a b c d:=Wa Tryz.func65 (x:=Y7.h) (R0 e)
def XM.h:Hn:=.q .o1 (.q (.k (.q .o4 (.c .aM (.q .o3 (.c .aM (.q (.cU (.seq [.op,.op,.op,.cZ false 3 (RI.ops 3),.op])) .aK)))))) (.q .gE (.q (.q (.cU (.gM true [] [(50,.one .b)] (.tk [0,1,2,3,4,5,6,7] (.split 39 (.tk [8,9,10,11,12,13,14,15,16,17,18] (.done)) (.tk [8,9,10,11,12,13,14,15,16] (.all [(17,.take 18 (.done))])))))) .aK) .aM)))
def XM.v (a:R2)(b c:Int)(d:Hp)(e:aN):Prop:=XZ.c a d λf g=>If (!f) (e 5 g) (If (c==0) (e 0 g) (bX (λh i=>If h (e 7 i) (Nz 256<|bM (b.tdiv 256) λj=>Nz 8<|bM (b.tdiv 8) λk=>bM (k+c) λl=>bM (l-1) λm=>Nz 32<|bM (m.tdiv 32) λn=>Jn [.b] (λ(o:Bool) p=>If o (e 7 p) (e 0 p)) λq=>dT i λr=>bW a λs=>aT r s 0 λt=>If (n≥((t.len:Nat):Int)) (q true i) (bW a λu=>aT r u 0 λv=>bM (n+1) λw=>fI v 2 j w (v.cap:Nat) λx=>gF r .b ((Addr.mk 0 0 none).add 0) λ(y:Bool)=>gF r .b ((Addr.mk 0 0 none).add 1) λ(z:Bool)=>Wq.c x y z i λaa ab=>And (r ab) <| q aa ab))) λac=>If (b<0) (ac true g) (Nz 8 <| ac ((b.tmod 8) != 0) g)))
theorem XM.o {a b c d e}(f:XM.v a b c d e):XM.c a b c d e:=Wa Tryz.func104 (x:=XM.h) (R0 f)
def Zv.h:Hn:=.q .o3 (.kx [] (.q (.oq 9) (.c (.q (.cU (.tail 7 (RI.ops 7) [.op])) (.q (.cU (.held true [6] (.tk [0,1,2,3,4] (.all [(5,.all [(6,.done)])])))) (.cU (.tail 13 (RI.ops 13) [.op])))) .l)) (.o 11))
def Zv.v (a:R2)(b c:Int)(d:Hp)(e:aP):Prop:=Nz 32<|bM (b.tdiv 32) λf=>Jn [] (λg=>bJ a 1 g λi=>Lk .i64 .s i f g λj=>Nz 32 <| Ix (j.getD ⟨none,0,0⟩).a (j.getD ⟨none,0,0⟩).len (b.tmod 32) 1 λk=>dG k (.I c) g λl=>e l) λm=>bF a 0 d λo=>Ix o.a o.len f 2 λp=>aZ p 0 d λq=>aZ p 1 d λr=>lZ ((Addr.mk 1 0 none).add 0) d λs=>lZ ((Addr.mk 1 0 none).add 1) d λt=>If (!((q==s)&&((r==t)&&true))) (bF a 0 d λv=>lZ ((Addr.mk 1 0 none).add 0) d λw=>lZ ((Addr.mk 1 0 none).add 1) d λx=>Ix v.a v.len f 2 λy=>aR y 0 (.bool w) d λz=>aR y 1 (.bool x) z λaa=>dT aa λab=>bW a λac=>gF ab .m (ac.add 1) λ(ad:Option Nat)=>Mk 32 32 8 3 [.I 0] aa λae af=>And (ab af) <| kS .i64 .s ad f ae af λag=>bE a 2 ag λai=>bJ a 1 ag λak=>r9 .i64 .s ak ag λal=>bW a λam=>aR am 2 (.I (if al>ai then al else ai)) ag λan=>m an) (m d)
theorem Zv.o {a b c d e}(f:Zv.v a b c d e):Zv.c a b c d e:=Wa Tryz.func105 (x:=Zv.h) (R0 f)
def Zu.h:Hn:=.q .o1 (.q (.q (.o 12) (.q .o1 (.c (.q .o6 .l) .l))) .aM)
def Zu.v (a:R2)(b:Int)(c:Hp)(d:aN):Prop:=bJ a 1 c λf=>Nz 32<|bM (b.tdiv 32) λg=>Lk .i64 .s f g c λh=>If h.isSome (Nz 32 <| Ix (h.getD ⟨none,0,0⟩).a (h.getD ⟨none,0,0⟩).len (b.tmod 32) 1 λi=>bN i c λj=>d j c) (d 0 c)
theorem Zu.o {a b c d}(e:Zu.v a b c d):Zu.c a b c d:=Wa Tryz.func110 (x:=Zu.h) (R0 e)
def X3.h:Hn:=.q .o1 (.q (.q .o3 .aK) (.q .o6 .l))
def X3.v (a:R2)(b:Hp)(c:aN):Prop:=XZ.c a b λd e=>If (!d) (c 0 e) (bF a 0 e λg=>c ((g.len:Nat):Int) e)
theorem X3.o {a b c}(d:X3.v a b c):X3.c a b c:=Wa Tryz.func130 (x:=X3.h) (R0 d)
def XZ.h:Hn:=.q .o1 (.q (.cU (.seq [.op,.op,.op,.cZ true 6 (RI.ops 6),.op])) .l)
def XZ.v (a:R2)(b:Hp)(c:aO):Prop:=bX (λd e=>c d e) λf=>If (!a.isNone) (bF a 0 b λh=>f (decide (((h.len:Nat):Int)>0)) b) (f false b)
theorem XZ.o {a b c}(d:XZ.v a b c):XZ.c a b c:=Wa Tryz.func131 (x:=XZ.h) (R0 d)
def KA.h:Hn:=.q .o2 (.q (.q (.cU (.seq [.op,.op,.op,.cZ false 2 [.op,.op]])) .aJ) (.q .o7 .l))
def KA.v (a:Int)(b:Hp)(c:Option Addr->Int->Hp->Prop):Prop:=bX (λd e=>If d (c none 1 e) (Mk a a 2 181 [.bool false,.bool false] e λf g=>Nw (.map #[] 0) g λh i=>aV #[.slice f.a f.len f.cap,.map (some h.block),.I 0] 185 i λj k=>c (some j) 0 k)) λl=>If (a<1) (l true b) (l (decide (a>1024)) b)
theorem KA.o {a b c}(d:KA.v a b c):KA.c a b c:=Wa Tryz.func153 (x:=KA.h) (R0 d)
def Zt.h:Hn:=.q .o2 (.q (.k (.q .o4 (.c .aL (.q (.cU (.seq [.op,.op,.op,.cZ false 2 [.op,.op],.op,.cZ false 7 (RI.ops 7),.op,.cZ false 9 (RI.ops 9),.op])) .aJ)))) (.q (.o 11) .l))
def Zt.v (a:R2)(b c:Int)(d:Hp)(e:Sl->Int->Hp->Prop):Prop:=XZ.c a d λf g=>If (!f) (e ⟨none,0,0⟩ 5 g) (bX (λh i=>bX (λj k=>bX (λl m=>If l (e ⟨none,0,0⟩ 1 m) (bF a 0 m λo=>bM (b+c) λp=>fI o 2 b p (o.cap:Nat) λq=>e q 0 m)) λr=>If j (r true k) (bF a 0 k λt=>bM (((t.len:Nat):Int)-b) λu=>r (decide (c>u)) k)) λv=>If h (v true i) (bF a 0 i λx=>v (decide (b>((x.len:Nat):Int))) i)) λy=>If (b<0) (y true g) (y (decide (c<1)) g))
theorem Zt.o {a b c d e}(f:Zt.v a b c d e):Zt.c a b c d e:=Wa Tryz.func306 (x:=Zt.h) (R0 f)
def Zq.h:Hn:=.q .o1 (.q .o2 (.k (.loop [(8,.I)] (.q (.q .o5 (.c .l .l)) (.q (.k (.q (.cU (.tail 7 (RI.ops 7) [.op])) .o6)) .o3)))))
def Zq.v (a:R2)(b c:Int)(d e:Bool)(f:Hp)(g:aP):Prop:=aV #[.bool d,.bool e] 181 f λh i=>X9 [bO] (λj=>j b i) λk (l:Int) m=>bM (b+c) λn=>If (l<n) (bF a 0 m λp=>aZ h 0 m λq=>aZ h 1 m λr=>Ix p.a p.len l 2 λs=>aR s 0 (.bool q) m λt=>aR s 1 (.bool r) t λu=>bJ a 1 u λw=>l5 .i64 .s w l u λx=>bM (l+1) λy=>k y x) (g m)
theorem Zq.o {a b c d e f g}(h:Zq.v a b c d e f g):Zq.c a b c d e f g:=Wa Tryz.func307 (x:=Zq.h) (R0 h)
def Zw.h:Hn:=.q .o1 (.q .o9 (.q (.k (.q .o3 (.c .aL (.q .o3 .aK)))) (.q .o5 .aM)))
def Zw.v (a:R2)(b c:Int)(d:Hp)(e:aN):Prop:=Zt.c a b c d λf g h=>If (g != 0) (e g h) (Wl.c f ⟨342,#[],#[]⟩ h λi j=>If i (e 5 j) (lZ ((Addr.mk 2 0 none).add 0) j λk=>lZ ((Addr.mk 2 0 none).add 1) j λl=>Zq.c a b c k l j λm=>e 0 m))
theorem Zw.o {a b c d e}(f:Zw.v a b c d e):Zw.c a b c d e:=Wa Tryz.func318 (x:=Zw.h) (R0 f)
def YS.h:Hn:=.q .o2 (.q .o4 .l)
def YS.v (a b:Bool)(c:Hp)(d:aO):Prop:=aV #[.bool a,.bool b] 181 c λe f=>aZ e 0 f λg=>aZ e 1 f λh=>lZ ((Addr.mk 0 0 none).add 0) f λi=>lZ ((Addr.mk 0 0 none).add 1) f λj=>d (!((g==i)&&((h==j)&&true))) f
theorem YS.o {a b c d}(e:YS.v a b c d):YS.c a b c d:=Wa Tryz.func342 (x:=YS.h) (R0 e)
end Go.Proofs
namespace Go.Ar
open Go Go.Vc Go.Proofs
open Go.Bu (ZF)
variable {U:Hp}{F:Rg}{p q r:Nat}{sp:Sp}
structure Gl (U:Hp):Prop where
 c0:cell U ⟨2,0,none⟩=some (.bool true)
 c1:cell U ⟨2,1,none⟩=some (.bool false)
 u0:cell U ⟨0,0,none⟩=some (.bool false)
 u1:cell U ⟨0,1,none⟩=some (.bool false)
structure Gc (U:Hp):Prop where
 d0:cell U ⟨1,0,none⟩=some (.bool true)
 d1:cell U ⟨1,1,none⟩=some (.bool true)
structure Gd (U:Hp):Prop where
 lt:1<U.size
def jh (F:Rg):Prop:=∀b,F b->b≠2/\b≠0
theorem K0 {h:Hp}{b o:Nat}{v:Value}(hc:cell h ⟨b,o,none⟩=some v):b<h.size:=(Fp hc).1
theorem Gl.bT {σ':Hp}(g:Gl U)(e:Ext F U σ')(hF:jh F):Gl σ':=by
 have a:¬F 2:=λh=>(hF _ h).1 rfl;have b:¬F 0:=λh=>(hF _ h).2 rfl;exact⟨(KE e (K0 g.c0) a).trans g.c0,(KE e (K0 g.c1) a).trans g.c1,(KE e (K0 g.u0) b).trans g.u0,(KE e (K0 g.u1) b).trans g.u1⟩
theorem Gc.bT {σ':Hp}(g:Gc U)(e:Ext F U σ')(hF:¬F 1):Gc σ':=⟨(KE e (K0 g.d0) hF).trans g.d0,(KE e (K0 g.d1) hF).trans g.d1⟩
theorem Gc.bP {σ':Hp}(g:Gc U)(e:aF U σ'):Gc σ':=g.bT e id
theorem Gd.bT {σ':Hp}(g:Gd U)(e:Ext F U σ')(hF:¬F 1):Gd σ':=⟨wH g.lt e.1⟩
theorem Gd.bP {σ':Hp}(g:Gd U)(e:aF U σ'):Gd σ':=g.bT e id
theorem Gc.gd (g:Gc U):Gd U:=⟨K0 g.d0⟩
theorem Gl.bP {σ':Hp}(g:Gl U)(e:aF U σ'):Gl σ':=g.bT e λ_ h=>h.elim
theorem jh.grow (hF:jh F)(g:Gl U):jh (Grow F U):=λb a=>by
 rcases a with h|h
 .exact hF b h
 .have d:=K0 g.c0;have i:=K0 g.u0;exact⟨O,O⟩
theorem jh.sub {G:Rg}(hF:jh F)(h:∀b,G b->F b):jh G:=λb a=>hF b (h b a)
def gD:Nat->Bool×Bool
 | 0=>(false,false)
 | 1=>(true,false)
 | _=>(true,true)
def gW (st:List Nat):List Value:=st.flatMap λx=>[.bool (gD x).1,.bool (gD x).2]
theorem V4 (l:List Nat):(gW l).length=2*l.length:=by
 induction l with
 | nil=>rfl
 | cons x l ih=>simp only[gW,pT,zM,zS,lh]at *;omega
theorem FD {l:List Nat}{i x:Nat}(h:l[i]?=some x):(gW l)[2*i]?=some (.bool (gD x).1)/\(gW l)[2*i+1]?=some (.bool (gD x).2):=by
 induction l generalizing i with
 | nil=>simp at h
 | cons y l ih=>
  have e:gW (y::l)=[.bool (gD y).1,.bool (gD y).2]++gW l:=by simp[gW]
  rw[e];cases i with
  | zero=>simp at h;subst h;simp
  | succ i=>
   have:=ih (i:=i) (by simpa using h);rw[show 2*(i+1)=2*i+2 by omega];simpa using this
theorem Ic {l:List Nat}{i v:Nat}(h:i<l.length)(rest:List Value):((gW l++rest).set (2*i) (.bool (gD v).1)).set (2*i+1) (.bool (gD v).2)=gW (l.set i v)++rest:=by
 induction l generalizing i with
 | nil=>simp at h
 | cons y l ih=>
  have e:∀z m,gW (z::m)=.bool (gD z).1 :: .bool (gD z).2::gW m:=λz m=>by simp[gW]
  cases i with
  | zero=>simp[e]
  | succ i=>
   have:=ih (i:=i) (by simpa using h);rw[tG,e,e,show 2*(i+1)=2*i+1+1 by omega];simp only[lN,tG];rw[this]
theorem Ek {x y:Nat}(hx:x<=2)(hy:y<=2):(((gD x).1==(gD y).1)&&(((gD x).2==(gD y).2)&&true))=(x==y):=by
 match x,y,hx,hy with
 | 0,0,_,_=>rfl
 | 1,1,_,_=>rfl
 | 2,2,_,_=>rfl
 | 0,1,_,_=>rfl
 | 0,2,_,_=>rfl
 | 1,0,_,_=>rfl
 | 1,2,_,_=>rfl
 | 2,0,_,_=>rfl
 | 2,1,_,_=>rfl
theorem KV {α:Type}(x:Int×α)(l:List (Int×α))(k:Int):bS (x::l) k=if x.1=k then some x.2 else bS l k:=by
 unfold bS;rw[vH];by_cases h:x.1=k
 .simp[h]
 .have:(x.1==k)=false:=by simpa using h
  rw[this,zB h]
theorem O0 {α:Type}(l:List (Int×α))(n k:Int)(v:α):bS (l.map λx=>if x.1==n then(n,v)else x) k=if k=n then(if l.any (λx=>x.1==n)then some v else none)else bS l k:=by
 induction l with
 | nil=>simp[bS]
 | cons x l ih=>
  rw[zR,KV,ih,KV,List.any_cons];by_cases hx:x.1=n
  .by_cases hk:k=n
   .subst hk;simp[hx]
   .have:¬n=k:=λe=>hk e.symm;simp[hx,hk,this]
  .have a:(x.1==n)=false:=by simpa using hx
   simp only[a,za,jV,xN];by_cases hk:k=n
   .subst hk;simp[hx]
   .simp[hk]
theorem RX {α:Type}(l:List (Int×α))(n k:Int)(v:α)(h:l.any (λx=>x.1==n)=false):bS (l++[(n,v)]) k=if k=n then some v else bS l k:=by
 induction l with
 | nil=>
  rw[tg,KV];by_cases hk:k=n
  .simp[hk]
  .have:¬n=k:=λe=>hk e.symm;simp[hk,this,bS]
 | cons x l ih=>
  rw[List.any_cons,As]at h;rw[lN,KV,ih h.2,KV];have a:¬x.1=n:=by simpa using h.1
  by_cases hk:k=n
  .subst hk;simp[a]
  .simp[hk]
theorem VF {α:Type}(l:List (Int×α))(n k:Int)(v:α):bS (cX l n v) k=if k=n then some v else bS l k:=by
 unfold cX;cases h:l.any (λx=>x.1==n)
 .rw[zB aA,RX l n k v h]
 .rw[zC rfl,O0,h];simp
theorem Bz {α:Type}(l:List (Int×α))(n k:Int):bS (cO l n) k=if k=n then none else bS l k:=by
 unfold cO
 induction l with
 | nil=>simp[bS]
 | cons x l ih=>
  rw[tZ,KV];by_cases hx:x.1=n
  .have:(!(x.1==n))=false:=by simp[hx]
   rw[this];simp only[za,jV,ih];by_cases hk:k=n
   .simp[hk]
   .have:¬x.1=k:=λe=>hk (e.symm.trans hx);simp[hk,this]
  .have:(!(x.1==n))=true:=by simpa using hx
   rw[this,zC rfl,KV,ih];by_cases hk:k=n
   .subst hk;simp[hx]
   .simp[hk]
theorem YT {α:Type}{l:List (Int×α)}{k:Int}{v:α}(h:bS l k=some v):(k,v)∈l:=by
 unfold bS at h;cases hf:l.find? (λx=>x.1==k)with
 | none=>rw[hf]at h;cases h
 | some x=>
  rw[hf]at h;have a:=tY hf;have b:=tO hf;have d:x.1=k:=by simpa using a
  have g:x.2=v:=by simpa using h
  rw[←d,←g];exact b
theorem OS {α:Type}{l:List (Int×α)}{k:Int}:(bS l k).isSome=true↔k∈l.map (·.1):=by
 unfold bS;rw[Option.isSome_map,Br];simp
def E6 (U:Hp)(s:Sl)(b:Nat)(f:Nat->Int):Prop:=s.a=some ⟨b,0,none⟩/\s.len=32/\32<=s.cap/\∃cs,bY U b cs/\32<=cs.length/\∀j,j<32->cs[j]?=some (.int .i64 (f j))
structure fL (U:Hp) (F:Rg) (p q r:Nat) (l:List (Int×Sl)) (B:Nat->Nat) (sp:Sp):Prop where
 hd:∃cap,sp.st.length<=cap/\bY U p [.slice (some ⟨q,0,none⟩) sp.st.length cap,.map (some r),.int .i64 (sp.pk:Int)]
 row:∃rest,bY U q (gW sp.st++rest)
 map:dM U r .i64 .s l
 keys:∀x:Int,(bS l x).isSome=true↔∃k:Nat,x=k/\sp.st[k]?=some 2
 wd:∀(k:Nat) s,bS l (k:Int)=some s->E6 U s (B k) λj=>sp.wd (32*k+j)
 inj:∀k k':Nat,sp.st[k]?=some 2->sp.st[k']?=some 2->B k=B k'->k=k'
 out:∀k:Nat,sp.st[k]?=some 2->F (B k)/\B k≠p/\B k≠q/\B k≠r
 fs:F p/\F q/\F r/\p≠q/\p≠r/\q≠r
 zero:∀w:Nat,sp.st[w/32]?≠some 2->sp.wd w=0
 n1:1<=sp.st.length
 n2:sp.st.length<=1024
 tC:∀x∈sp.st,x<=2
 pk:sp.pk<=1024
def dR (U:Hp)(F:Rg)(p:Nat)(sp:Sp):Prop:=∃q r l B,fL U F p q r l B sp
theorem fL.entry {l:List (Int×Sl)}{B:Nat->Nat}(h:fL U F p q r l B sp){k:Nat}(hk:sp.st[k]?=some 2):∃s,bS l (k:Int)=some s/\E6 U s (B k) λj=>sp.wd (32*k+j):=by
 have:=(h.keys (k:Int)).2 ⟨k,rfl,hk⟩;obtain⟨s,a⟩:=pv.1 this;exact⟨s,a,h.wd k s a⟩
theorem fL.lU {l:List (Int×Sl)}{B:Nat->Nat}(h:fL U F p q r l B sp){k:Nat}{s:Sl}(hs:bS l (k:Int)=some s):sp.st[k]?=some 2:=by
 obtain⟨k',e,a⟩:=(h.keys (k:Int)).1 (by rw[hs];rfl);have:k=k':=O
 subst this;exact a
theorem dR.loc:dP λU F=>dR U F p sp:=λU L F G ⟨q,r,l,B,h⟩ P y=>by
 have d:∀{b:Nat} {g:List Value},bY U b g->F b->bY L b g/\G b:=by
  rintro b g ⟨e,x⟩ J;have:=y b (bY.lt ⟨e,x⟩) J;exact⟨⟨e,this.2.trans x⟩,this.1⟩
 obtain⟨c,K,hd⟩:=h.hd;obtain⟨j,a⟩:=h.row;obtain⟨H,u,D,M⟩:=h.map;have m:=y r (jT.1 D).1 h.fs.2.2.1;refine⟨q,r,l,B,⟨c,K,(d hd h.fs.1).1⟩,⟨j,(d a h.fs.2.1).1⟩,⟨H,u,m.2.trans D,M⟩,h.keys,λk s i=>?_,h.inj,λk i=>?_,⟨(d hd h.fs.1).2,(d a h.fs.2.1).2,m.1,h.fs.2.2.2⟩,h.zero,h.n1,h.n2,h.tC,h.pk⟩
 .obtain⟨E,A,z,g,w,C⟩:=h.wd k s i;exact⟨E,A,z,g,(d w (h.out k (h.lU i)).1).1,C⟩
 .obtain⟨s,N,E,A,z,g,w,C⟩:=h.entry i;exact⟨(d w (h.out k i).1).2,(h.out k i).2⟩
theorem dR.bP {σ':Hp}(h:dR U F p sp)(e:aF U σ'):dR σ' F p sp:=dP.bP dR.loc h e
variable {l:List (Int×Sl)}{B:Nat->Nat}
theorem fL.rS (h:fL U F p q r l B sp){K:Sl->Prop}(hK:∀cap,sp.st.length<=cap->K ⟨some ⟨q,0,none⟩,sp.st.length,cap⟩):jF (Addr.add ⟨p,0,none⟩ 0) U K:=by
 obtain⟨c,a,hd⟩:=h.hd;exact hd.rS rfl (hK c a)
theorem fL.rM (h:fL U F p q r l B sp){K:Option Nat->Prop}(hK:K (some r)):lO (Addr.add ⟨p,0,none⟩ 1) U K:=by
 obtain⟨c,a,hd⟩:=h.hd;exact hd.rM rfl hK
theorem fL.AB (h:fL U F p q r l B sp){i x:Nat}(hx:sp.st[i]?=some x){K:Bool->Bool->Prop}(hK:K (gD x).1 (gD x).2):lZ (Addr.add ⟨q,2*i,none⟩ 0) U λa=>lZ (Addr.add ⟨q,2*i,none⟩ 1) U λb=>K a b:=by
 obtain⟨g,d⟩:=h.row;have hi:=(cY.1 hx).1;have j:=FD hx;refine d.rB (x:=(gD x).1) ?_ (d.rB (x:=(gD x).2) ?_ hK)
 .rw[kr,zd (by rw[V4];omega)];exact j.1
 .rw[zd (by rw[V4];omega)];exact j.2
theorem B2 (h:dR U F p sp){R:aO}(hR:R true U):XZ.c (aW p) U R:=by
 refine XZ.o ?_;unfold XZ.v;obtain⟨q,r,l,B,h⟩:=h;have:=h.n1;refine bX.intro (cF rfl (bL (h.rS λcap _=>?_)));rw[zI aC];exact hR
theorem JY (h:dR U F p sp){R:aN}(hR:R (sp.st.length:Int) U):X3.c (aW p) U R:=by
 refine X3.o ?_;unfold X3.v;have a:=h;obtain⟨q,r,l,B,h⟩:=h;exact B2 a (cD rfl (bL (h.rS λcap _=>hR)))
theorem fL.yD (h:fL U F p q r l B sp):l.length=sp.st.count 2:=by
 have m:=h.map.nodup;have s:(l.map (·.1)).Perm (((List.range sp.st.length).filter λk=>sp.st[k]?==some 2).map λk=>((k:Nat):Int)):=by
  rw[Cx m]
  .intro x;rw[←OS,h.keys];simp only[zE,zK,zg,zU];constructor
   .rintro⟨k,rfl,hk⟩;exact⟨k,⟨(cY.1 hk).1,hk⟩,rfl⟩
   .rintro⟨k,⟨_,hk⟩,rfl⟩;exact⟨k,rfl,hk⟩
  .have g:((List.range sp.st.length).filter λk=>sp.st[k]?==some 2).Pairwise (· ≠ ·):=List.Pairwise.sublist uB List.nodup_range;exact List.Pairwise.map _ (λa b (d:a≠b) i=>d (by exact_mod_cast i)) g
 have j:=s.length_eq;simp only[zk]at j;rw[j,←AK];have key:∀st:List Nat,(List.range st.length).countP (λk=>st[k]?==some 2)=st.count 2:=by
  intro st
  induction st with
  | nil=>rfl
  | cons x st ih=>
   rw[zS,List.range_succ_eq_map,xU,List.countP_map,List.count_cons,←ih]
   congr 1
 exact key sp.st
end Go.Ar
namespace Go.Ar
open Go Go.Vc Go.Proofs
open Go.Bu (ZF)
variable {U:Hp}{F:Rg}{p q r:Nat}{sp:Sp}{l:List (Int×Sl)}{B:Nat->Nat}
theorem Ns (l:List Nat)(n:Nat):gW (l.take n)=(gW l).take (2*n):=by
 induction l generalizing n with
 | nil=>simp[gW]
 | cons y l ih=>
  have e:∀z m,gW (z::m)=.bool (gD z).1 :: .bool (gD z).2::gW m:=λz m=>by simp[gW]
  cases n with
  | zero=>simp[gW]
  | succ n=>
   rw[we,e,e,ih,show 2*(n+1)=2*n+1+1 by omega];simp
theorem Wkc (l:List Nat)(n:Nat):gW (l.drop n)=(gW l).drop (2*n):=by
 induction l generalizing n with
 | nil=>simp[gW]
 | cons y l ih=>
  have e:∀z m,gW (z::m)=.bool (gD z).1 :: .bool (gD z).2::gW m:=λz m=>by simp[gW]
  cases n with
  | zero=>simp[gW]
  | succ n=>
   rw[vR,e,ih,show 2*(n+1)=2*n+1+1 by omega];simp
theorem Wna (n v:Nat):gW (List.replicate n v)=(List.replicate n [Value.bool (gD v).1,.bool (gD v).2]).flatten:=by
 induction n with
 | zero=>rfl
 | succ n ih=>rw[sX,sX,vY,←ih];simp[gW]
theorem _root_.Go.Vc.cV.AB {s:Sl}{l:List Nat}(h:cV s 2 (gW l) U F){i x:Nat}(hx:l[i]?=some x){K:Bool->Bool->Prop}(hK:K (gD x).1 (gD x).2) :
 Ix s.a s.len (i:Int) 2 λa=>lZ (a.add 0) U λu=>lZ (a.add 1) U λw=>K u w:=by
 have hi:=(cY.1 hx).1;have j:=FD hx;obtain⟨b,o,m,p⟩:=h.cell j.1;obtain⟨y,o1,d,g⟩:=h.cell j.2;rw[m]at d;cases d;have r:=h.1;rw[V4]at r;rw[m];refine ix O O ?_;rw[add_lit];refine nJ ?_ (nJ ?_ hK)<;>rw[add_lit]
 .rw[show o+(i:Int).toNat*2+0=o+2*i by omega];exact p
 .rw[show o+(i:Int).toNat*2+1=o+(2*i+1) by omega];exact g
theorem _root_.Go.Vc.cV.xE {s:Sl}{l:List Nat}(h:cV s 2 (gW l) U F):s.len=l.length:=by
 have:=h.1;rw[V4]at this;omega
theorem Rw {s:Sl}{xs:List Nat}(h:cV s 2 (gW xs) U F)(hl:xs.length<=1000000)(h2:∀x∈xs,x<=2){v:Nat}(hv:v<=2){R:aN}
 (hR:∀(t:Int) σ',aF U σ'->decide (t≥0)=xs.contains v->R t σ'):Wv.c s (gD v).1 (gD v).2 U R:=by
 refine Wv.o ?_;unfold Wv.v;have u:=h.xE;refine nw (cs:=[.bool (gD v).1,.bool (gD v).2]) λw E e z=>?_;have h:=aH.bP h e;refine Qg (a:=bO) (λ(t:Int) y=>∃i:Nat,t=(i:Int)/\i<=xs.length/\y=w/\∀j,j<i->xs[j]?≠some v) (λt _=>xs.length-t.toNat) ⟨0,rfl,O,rfl,λj g=>O⟩ ?_;rintro t y ⟨i,rfl,hi,rfl,d⟩;refine cN (λB=>?_) λC=>?_
 .have b:i<xs.length:=O
  have A:xs[i]?=some xs[i]:=cW b;refine z.rB rfl (z.rB rfl (h.AB A ?_));rw[Ek hv (h2 _ (ky b))];refine cP (λp=>?_) λp=>?_
  .have:v=xs[i]:=by simpa using p
   refine hR _ _ e ?_;have D:xs.contains v=true:=by rw[this];simp
   rw[D,zI O]
  .have r:¬v=xs[i]:=by simpa using p
   refine cT (m:=i+1) O O ⟨⟨i+1,rfl,O,rfl,λj g=>?_⟩,O⟩;by_cases e:j=i
   .subst e;rw[A];intro e2;cases e2;exact r rfl
   .exact d j O
 .refine hR _ _ e ?_;have:xs.contains v=false:=by
   simp only[s7,decide_eq_false_iff_not];intro hm;obtain⟨j,g⟩:=zP hm;have:=(cY.1 g).1;exact d j O g
  rw[this];rfl
theorem ME {s:Sl}{xs:List Nat}(h:cV s 2 (gW xs) U F)(hl:xs.length<=1000000)(h2:∀x∈xs,x<=2){v:Nat}(hv:v<=2){R:aO}
 (hR:∀σ',aF U σ'->R (xs.contains v) σ'):Wq.c s (gD v).1 (gD v).2 U R:=by
 refine Wq.o ?_;unfold Wq.v;refine nw (cs:=[.bool (gD v).1,.bool (gD v).2]) λw g e a=>a.rB rfl (a.rB rfl ?_);refine Rw (aH.bP h e) hl h2 hv λt σ' d b=>?_;rw[b];exact hR σ' (Ext.trans e d)
theorem Ty (g:Gl U){x:Nat}(hx:x<=2){R:aO}(hR:∀σ',aF U σ'->R (x != 0) σ'):YS.c (gD x).1 (gD x).2 U R:=by
 refine YS.o ?_;unfold YS.v;refine nw (cs:=[.bool (gD x).1,.bool (gD x).2]) λv d e a=>a.rB rfl (a.rB rfl ?_);have g:=g.bP e;refine nJ (by rw[←g.u0];rfl) (nJ (by rw[←g.u1];rfl) ?_);have b:(((gD x).1==false)&&(((gD x).2==false)&&true))=(x==0):=Ek hx (y:=0) O;rw[b];exact hR v e
theorem Μ {s:Sl}{xs:List Nat}(h:cV s 2 (gW xs) U F)(g:Gl U)(hl:xs.length<=1000000)(h2:∀x∈xs,x<=2){R:aO}
 (hR:∀σ',aF U σ'->R (xs.any (· != 0)) σ'):Wl.c s ⟨342,#[],#[]⟩ U R:=by
 refine Wl.o ?_;unfold Wl.v;refine Wt.o ?_;unfold Wt.v;have z:=h.xE;refine Qg (a:=bO) (λ(t:Int) E=>∃i:Nat,t=(i:Int)/\i<=xs.length/\aF U E/\∀(j x:Nat),j<i->xs[j]?=some x->x=0) (λt _=>xs.length-t.toNat) ⟨0,rfl,O,Ext.refl _ _,λj x r=>O⟩ ?_;rintro t w ⟨i,rfl,hi,e,p⟩;refine cN (λC=>?_) λD=>?_
 .have d:i<xs.length:=O
  have A:xs[i]?=some xs[i]:=cW d;refine(aH.bP h e).AB A ?_;refine Gn (all := #[.agg #[.bool (gD xs[i]).1,.bool (gD xs[i]).2]]) (by kernel_rfl) aA ?_;refine Ty (g.bP e) (h2 _ (ky d)) λG B=>?_;refine cP (λu=>?_) λu=>?_
  .have:xs.any (· != 0)=true:=zy.2 ⟨_,ky d,u⟩;have:=hR G (Ext.trans e B);rw[‹xs.any (· != 0)=true›]at this;show R (decide ((i:Int)≥0)) _;rw[zI O];exact this
  .have y:xs[i]=0:=by simpa using u
   refine cT (m:=i+1) O O ⟨⟨i+1,rfl,O,Ext.trans e B,λj x r b=>?_⟩,O⟩;by_cases e:j=i
   .subst e;rw[A]at b;cases b;exact y
   .exact p j x O b
 .have:xs.any (· != 0)=false:=by
   rw[mG];intro x hm;obtain⟨j,r⟩:=zP hm;have:=(cY.1 r).1;simpa using p j x O r
  have:=hR w e;rw[‹xs.any (· != 0)=false›]at this;exact this
theorem fL.part (h:fL U F p q r l B sp){x y c:Nat}(hl:x+y<=sp.st.length):cV ⟨some ⟨q,2*x,none⟩,y,c⟩ 2 (gW ((sp.st.drop x).take y)) U F:=by
 obtain⟨d,b⟩:=h.row;have a:(gW ((sp.st.drop x).take y)).length=y*2:=by rw[V4,zY,kj];omega
 refine⟨a,.inr ⟨q,2*x,_,h.fs.2.1,rfl,b.q,λj g=>?_⟩⟩;rw[a]at g;rw[zd (by rw[V4];omega),Ns,Wkc,zm,zC O,lK]
theorem SF (h:dR U F p sp)(a m:Int){R:Sl->Int->Hp->Prop}(h0:ZF sp.st.length a m=false->R ⟨none,0,0⟩ 1 U)
 (h1:∀(x y:Nat) s,a=x->m=y->1<=y->x+y<=sp.st.length->cV s 2 (gW ((sp.st.drop x).take y)) U F->R s 0 U):Zt.c (aW p) a m U R:=by
 refine Zt.o ?_;unfold Zt.v;have w:=h;obtain⟨q,r,l,B,h⟩:=h;have n2:=h.n2;have b:¬(0<=a/\1<=m/\m<=sp.st.length-a)->R ⟨none,0,0⟩ 1 U:=λA=>h0 (by simp only[ZF,←wh];exact zL A);refine B2 w (cD rfl (bX.intro (cN (λz=>bX.intro (cF rfl (bX.intro (cF rfl (cF rfl (b O)))))) λz=>?_)));refine bX.intro (cN (λj=>bX.intro (cF rfl (cF rfl (b O)))) λj=>bL (h.rS λcap d=>?_));simp only;refine bX.intro (cN (λi=>cF rfl (b O)) λi=>?_);refine bL (h.rS λcap d=>ar aC aC ?_);simp only;refine cN (λg=>b O) λg=>?_;obtain⟨x,rfl⟩:=zc (show 0<=a by omega);obtain⟨y,rfl⟩:=zc (show 0<=m by omega);refine bL (h.rS λcap d=>cT (m:=x+y) O O ?_);refine jv O aC (zD _) ?_;simp only;rw[zB O];refine h1 x y _ rfl rfl O O ?_;have:=h.part (x:=x) (y:=y) (c:=cap-x) O;have e:(Option.map (λ(u:Addr)=>u.add (x*2)) (some (⟨q,0,none⟩:Addr)))=some ⟨q,2*x,none⟩:=by
  simp only[ze,add_lit];congr 2;omega
 rw[e,CO];exact this
def Sp.j8 (s:Sp)(k v:Nat):Sp:={s with st:=s.st.set k v,wd:=λw=>if k*32<=w/\w<(k+1)*32 then 0 else s.wd w}
theorem JZ {st:List Nat}(h:∀x∈st,x<=2){k v:Nat}(hv:v<=2):∀x∈st.set k v,x<=2:=by
 intro x hx;rcases Al hx with h1|h1
 .exact h x h1
 .omega
theorem fL.j8 (h:fL U F p q r l B sp){k v:Nat}(hk:k<sp.st.length)(hv:v<=1){σ':Hp}(e:Ext (λb=>b=q\/b=r) U σ'){rest:List Value}
 (hb:bY σ' q (gW (sp.st.set k v)++rest)) (hm:dM σ' r .i64 .s (cO l (k:Int))):fL σ' F p q r (cO l (k:Int)) B (sp.j8 k v):=by
 have d:∀j:Nat,(sp.st.set k v)[j]?=some 2↔j≠k/\sp.st[j]?=some 2:=λj=>by
  rw[nU];by_cases hjk:k=j
  .subst hjk;rw[zC rfl,zC hk];constructor
   .intro h;have:v=2:=by simpa using h
    omega
   .intro h;exact absurd rfl h.1
  .rw[zB hjk];exact⟨λh=>⟨λe=>hjk e.symm,h⟩,λh=>h.2⟩
 obtain⟨c,C,hd⟩:=h.hd;have A:¬(p=q\/p=r):=by have:=h.fs;omega
 refine⟨⟨c,by simpa[Sp.j8]using C,by simpa[Sp.j8]using e.bV hd A⟩,⟨rest,hb⟩,hm,λx=>?_,λj s g=>?_,λj u z m=>?_,λj a=>?_,h.fs,λw y=>?_,by simpa[Sp.j8]using h.n1,by simpa[Sp.j8]using h.n2,JZ h.tC O,h.pk⟩
 .rw[Bz];by_cases hx:x=(k:Int)
  .rw[zC hx];constructor
   .intro h;cases h
   .rintro⟨j,rfl,a⟩;have:=(d j).1 a;omega
  .rw[zB hx,h.keys];constructor
   .rintro⟨j,rfl,a⟩;exact⟨j,rfl,(d j).2 ⟨O,a⟩⟩
   .rintro⟨j,rfl,a⟩;exact⟨j,rfl,((d j).1 a).2⟩
 .rw[Bz]at g;by_cases hx:(j:Int)=(k:Int)
  .rw[zC hx]at g;cases g
  .rw[zB hx]at g;obtain⟨K,J,H,D,G,E,L⟩:=h.wd j s g;have M:=h.out j (h.lU g);refine⟨K,J,H,D,e.bV G O,E,λi hi=>?_⟩;rw[L i hi];simp only[Sp.j8];rw[zB O]
 .exact h.inj j u ((d j).1 z).2 ((d u).1 m).2
 .exact h.out j ((d j).1 a).2
 .simp only[Sp.j8]at y ⊢;by_cases hin:k*32<=w/\w<(k+1)*32
  .rw[zC hin]
  .rw[zB hin];refine h.zero w λm=>y ((d _).2 ⟨O,m⟩)
theorem Sp.qv (s:Sp)(a v:Nat):s.set a 0 v=s:=by
 have b:gH s.st a (a+0) v=s.st:=by
  apply zt;intro i;rw[HL];cases s.st[i]? with
  | none=>rfl
  | some x=>simp only[ze];rw[zB O]
 have d:(λw=>if a*32<=w/\w<(a+0)*32 then 0 else s.wd w)=s.wd:=by
  funext w;rw[zB O]
 simp only[Sp.set,b,d]
theorem Sp.qd (s:Sp)(a m v:Nat)(h:a+m<s.st.length):(s.set a m v).j8 (a+m) v=s.set a (m+1) v:=by
 have b:(gH s.st a (a+m) v).set (a+m) v=gH s.st a (a+(m+1)) v:=by
  apply zt;intro i;rw[nU,HL,HL,Vn];by_cases hi:a+m=i
  .subst hi;rw[zC rfl,zC h,cW h,ze,zC O]
  .rw[zB hi];cases s.st[i]? with
   | none=>rfl
   | some x=>
    simp only[ze];by_cases hin:a<=i/\i<a+m
    .rw[zC hin,zC O]
    .rw[zB hin,zB O]
 have d:(λw=>if(a+m)*32<=w/\w<(a+m+1)*32 then 0 else(if a*32<=w/\w<(a+m)*32 then 0 else s.wd w))=λw=>if a*32<=w/\w<(a+(m+1))*32 then 0 else s.wd w:=by
  funext w
  by_cases b:(a+m)*32<=w/\w<(a+m+1)*32
  .rw[zC b,zC O]
  .rw[zB b];by_cases d:a*32<=w/\w<(a+m)*32
   .rw[zC d,zC O]
   .rw[zB d,zB O]
 simp only[Sp.set,Sp.j8,b,d]
theorem L8 (h:dR U F p sp){x y v:Nat}(hl:x+y<=sp.st.length)(hv:v<=1){R:aP}(hR:∀σ',Ext F U σ'->dR σ' F p (sp.set x y v)->R σ') :
 Zq.c (aW p) x y (gD v).1 (gD v).2 U R:=by
 refine Zq.o ?_;unfold Zq.v;have W:sp.st.length<=1024:=by obtain⟨q,r,l,B,h⟩:=h;exact h.n2
 have z:dR U (Cut F U) p sp:=dP.cut dR.loc h;refine nw (cs:=[.bool (gD v).1,.bool (gD v).2]) λu hz e g=>?_;have Z:=z.bP e;refine Qg (a:=bO) (λ(t:Int) w=>∃i:Nat,t=((x+i:Nat):Int)/\i<=y/\Ext (Cut F U) u w/\bY w U.size [.bool (gD v).1,.bool (gD v).2]/\dR w (Cut F U) p (sp.set x i v)) (λt _=>x+y-t.toNat)
  ⟨0,rfl,O,Ext.refl _ _,g,by rw[Sp.qv];exact Z⟩ ?_
 rintro t w ⟨i,rfl,hi,J,j,q,r,l,B,d⟩;refine cT (m:=x+y) O O (cN (λQ=>?_) λV=>?_)
 .have E:(sp.set x i v).st.length=sp.st.length:=Vn _ _ _ _;refine bL (d.rS λcap P=>j.rB rfl (j.rB rfl (ix O aC ?_)));rw[add_lit,show 0+((x+i:Nat):Int).toNat*2=2*(x+i) by omega];obtain⟨L,s⟩:=d.row;have N:x+i<(sp.set x i v).st.length:=O
  refine s.s1 (by rw[zM,V4];omega) λw1 o1 S=>S.s1 (by rw[pH,zM,V4];omega) λw2 o2 G=>?_;rw[kr,Ic N]at G;have e2:Ext (· = q) w w2:=o1.ext.trans o2.ext;obtain⟨c,X,hd⟩:=d.hd;have A:=e2.bV hd d.fs.2.2.2.1;refine bL (A.rM rfl ⟨l,e2.fX d.map (λe=>d.fs.2.2.2.2.2 e.symm),λw3 C _ D=>?_⟩);have o3:=C r rfl;have H:Ext (λb=>b=q\/b=r) w w3:=(e2.sub λb g=>.inl g).trans (o3.ext.sub λb g=>.inr g);have M:=d.j8 N hv H (WF o3 G d.fs.2.2.2.2.2) D;rw[Sp.qd _ _ _ _ O]at M;have K:Ext (Cut F U) w w3:=H.sub λb g=>by
   rcases g with rfl|rfl
   .exact d.fs.2.1
   .exact d.fs.2.2.1
  refine cT (m:=x+(i+1)) O O ⟨⟨i+1,rfl,O,J.trans K,K.bV j λY=>by have:=Y.2;omega,_,_,_,_,M⟩,O⟩
 .have:i=y:=O
  subst this;refine hR w (Ext.cut (e.to.trans J)) (dP.mono dR.loc ⟨q,r,l,B,d⟩ λb _ g=>g.1)
theorem Nl (h:dR U F p sp)(g:Gl U)(hF:jh F)(a m:Int){R:aN}(hR:∀σ',Ext F U σ'->dR σ' F p (gp sp a m)->R (fF sp a m) σ') :
 Zw.c (aW p) a m U R:=by
 refine Zw.o ?_;unfold Zw.v;have j:(∀x∈sp.st,x<=2)/\sp.st.length<=1024:=by obtain⟨q,r,l,B,h⟩:=h;exact⟨h.tC,h.n2⟩
 refine SF h a m (λi=>?_) λx y s G K L A C=>?_
 .have e1:fF sp a m=1:=by unfold fF;rw[i];rfl
  have e2:gp sp a m=sp:=by unfold gp;rw[e1];rfl
  have:=hR U (Ext.refl _ _);rw[e1,e2]at this;exact cF rfl (this h)
 .subst G;subst K;have i:ZF sp.st.length (x:Int) (y:Int)=true:=by simp only[ZF,zF,zV];omega
  refine cD rfl (Μ C g (by rw[zY,kj];omega) (λz J=>j.1 z (ur (vu J))) λE e1=>?_);have d:fF sp x y=if((sp.st.drop x).take y).any (· != 0)then 5 else 0:=by unfold fF;rw[i];rfl
  refine cP (λb=>?_) λb=>?_
  .rw[b]at d;have e2:gp sp x y=sp:=by unfold gp;rw[d];rfl
   have:=hR E (aF.to e1);rw[d,e2]at this;exact this (h.bP e1)
  .rw[b]at d;have e2:gp sp x y=sp.set x y 1:=by unfold gp;rw[d];rfl
   have u:=g.bP e1;refine nJ (by rw[←u.c0];rfl) (nJ (by rw[←u.c1];rfl) ?_);refine L8 (v:=1) (h.bP e1) A O λw D H=>?_;have:=hR w (Ext.trans (aF.to e1) D);rw[d,e2]at this;exact this H
theorem JR (h:dR U F p sp)(g:Gl U)(x:Int)(hx:x<=9223372036854775807){R:aN}(hR:∀σ',aF U σ'->R (eP sp x) σ') :
 XM.c (aW p) x 1 U R:=by
 refine XM.o ?_;unfold XM.v;have C:=h;obtain⟨q,r,l,B,h⟩:=h;have n2:=h.n2;have d:(x<0\/x%8≠0)->R 7 U:=λj=>by
  have:=hR U (Ext.refl _ _);unfold eP at this;rw[zC j]at this;exact this
 refine B2 C (cD rfl (cD rfl (bX.intro (cN (λA=>cF rfl (d (.inl A))) λA=>nz aB ?_))));obtain⟨y,rfl⟩:=zc (show 0<=x by omega);refine cP (λi=>?_) λi=>?_
 .refine d (.inr ?_);rw[Ki O]at i;simpa using i
 have J:y%8=0:=by
  rw[Ki O]at i;have:((y:Int)%8)=0:=by simpa using i
  omega
 have ok:¬((y:Int)<0\/(y:Int)%8≠0):=O
 refine nz aB (cT (m:=y/256) (by rw[YU O];simp) O (nz aB (cT (m:=y/8) (by rw[YU O];simp) O ?_)));refine cT (m:=y/8+1) O O (cT (m:=y/8) O O (nz aB (cT (m:=y/256) (by rw[YU O];simp;omega) O ?_)));have fin:∀(b:Bool) σ',aF U σ'->(b=true↔sp.st.getD (y/256) 0=0)->If b (R 7 σ') (R 0 σ'):=λb σ' e j=>by
  have:=hR σ' e;unfold eP at this;rw[zB ok]at this;refine cP (λh=>?_) λh=>?_
  .rw[zC (by simpa using j.1 h)]at this;exact this
  .rw[zB (λD=>by rw[j.2 (by simpa using D)]at h;cases h)]at this;exact this
 obtain⟨c,H,hd⟩:=h.hd;refine Jn.intro ⟨λm=>bY m p [.slice (some ⟨q,0,none⟩) sp.st.length c,.map (some r),.int .i64 (sp.pk:Int)]/\Gl m,⟨hd,g⟩,?_⟩;refine bL ⟨⟨some ⟨q,0,none⟩,sp.st.length,c⟩,λm a=>by rw[add_lit,a.1.cell];rfl,?_⟩;refine cN (λs=>?_) λs=>?_
 .simp only at s;refine fin _ U (Ext.refl _ _) ⟨λ_=>?_,λ_=>rfl⟩;rw[zQ,zX O];rfl
 simp only at s;refine bL ⟨⟨some ⟨q,0,none⟩,sp.st.length,c⟩,λm a=>by rw[add_lit,a.1.cell];rfl,?_⟩;refine cT (m:=y/256+1) O O (jv O aC (zD _) ?_);simp only;rw[zB O];refine⟨false,λm a=>a.2.u0,⟨false,λm a=>a.2.u1,?_⟩⟩;have e:(Option.map (λ(u:Addr)=>u.add (y/256*2)) (some (⟨q,0,none⟩:Addr)))=some ⟨q,2*(y/256),none⟩:=by
  simp only[ze,add_lit];congr 2;omega
 rw[e,CO];have G:=h.part (x:=y/256) (y:=1) (c:=c-y/256) O;refine ME (v:=0) G (by rw[zY,kj];omega) (λz E=>h.tC z (ur (vu E))) O λσ' w=>?_;refine⟨⟨w.bV hd id,g.bP w⟩,fin _ σ' w ?_⟩;have hi:y/256<sp.st.length:=O
 rw[zQ,cW hi,xh hi,we,vS];simp[eq_comm]
theorem Rl (h:dR U F p sp){w:Nat}(hw:w<=2305843009213693952){R:aN}(hR:R (sp.wd w) U):Zu.c (aW p) (w:Int) U R:=by
 refine Zu.o ?_;unfold Zu.v;obtain⟨q,r,l,B,h⟩:=h;refine bL (h.rM (nz aB (cT (m:=w/32) (by rw[YU O];simp) O ⟨l,h.map,?_⟩)));cases hg:bS l ((w/32:Nat):Int)with
 | none=>
  refine cD rfl ?_;have:sp.st[w/32]?≠some 2:=λb=>by
   have:=(h.keys _).2 ⟨_,rfl,b⟩;rw[hg]at this;cases this
  rw[h.zero w this]at hR;exact hR
 | some s=>
  obtain⟨g,u,j,x,i,y,a⟩:=h.wd _ s hg;refine cF rfl (nz aB ?_);simp only[qL];have d:((w:Int).tmod 32)=((w%32:Nat):Int):=by rw[Ki O];simp
  rw[g,d];refine ix O O ?_;rw[add_lit];refine i.uo ?_ hR;rw[show 0+((w%32:Nat):Int).toNat*1=w%32 by omega,a _ O];simp only;rw[show 32*(w/32)+w%32=w by omega]
theorem WmB (h:dR U F p sp)(g:Gl U)(x:Int)(hx:x<=9223372036854775807){R:Int->Int->Hp->Prop}(hR:∀σ',aF U σ'->R (if eP sp x=0 then sp.wd (x.toNat/8)else 0) (eP sp x) σ') :
 Y7.c (aW p) x U R:=by
 refine Y7.o ?_;unfold Y7.v;refine JR h g x hx λσ' e=>?_;have:=hR σ' e;refine cP (λi=>?_) λi=>?_
 .have d:¬eP sp x=0:=by simpa using i
  rw[zB d]at this;exact this
 .have a:eP sp x=0:=by simpa using i
  rw[zC a,a]at this;have b:0<=x:=by
   rcases(by omega:x<0\/0<=x)with hlt|hge
   .unfold eP at a;rw[zC (.inl hlt)]at a;cases a
   .exact hge
  obtain⟨y,rfl⟩:=zc b;exact nz aB (cT (m:=y/8) (by rw[YU O];simp) O (Rl (h.bP e) O this))
theorem fL.Dp (h:fL U F p q r l B sp){k:Nat}(hk:k<sp.st.length)(hn:sp.st[k]?≠some 2){σ':Hp}{b:Nat}{s:Sl}{T:Rg}(e:Ext T U σ')(hT:∀i,i<U.size->T i->i=q\/i=r)(hz:U.size<=b){rest:List Value}
 (hb:bY σ' q (gW (sp.st.set k 2)++rest)) (hm:dM σ' r .i64 .s (cX l (k:Int) s)) (ha:s.a=some ⟨b,0,none⟩) (hl:s.len=32) (hc:s.cap=32) (hw:bY σ' b (List.replicate 32 (.int .i64 0))) :
 fL σ' (Grow F U) p q r (cX l (k:Int) s) (λj=>if j=k then b else B j) {sp with st:=sp.st.set k 2}:=by
 have u:∀j:Nat,(sp.st.set k 2)[j]?=some 2↔j=k\/sp.st[j]?=some 2:=λj=>by
  rw[nU];by_cases hjk:k=j
  .subst hjk;rw[zC rfl,zC hk];simp
  .rw[zB hjk];exact⟨λh=>.inr h,λh=>h.resolve_left λe=>hjk e.symm⟩
 obtain⟨c,E,hd⟩:=h.hd;obtain⟨_,A⟩:=h.row;have W:=hd.lt;have S:=A.lt;have V:=h.map.lt;have R:=e.1;have g:=h.fs;have z:∀{j:Nat},sp.st[j]?=some 2->B j<U.size:=λ{j} d=>by
  obtain⟨t,_,_,_,_,cs,G,_⟩:=h.entry d;exact G.lt
 have dA:∀{i:Nat} {cs:List Value},bY U i cs->i≠q->i≠r->bY σ' i cs:=λ{i cs} hi D y=>e.bV hi λK=>by
  rcases hT i hi.lt K with h|h
  .exact D h
  .exact y h
 refine⟨⟨c,by simpa using E,by simpa using dA hd g.2.2.2.1 g.2.2.2.2.1⟩,⟨rest,hb⟩,hm,λx=>?_,λj t d=>?_,λj C D y m=>?_,λj d=>?_,⟨.inl g.1,.inl g.2.1,.inl g.2.2.1,g.2.2.2⟩,λw H=>?_,by simpa using h.n1,by simpa using h.n2,JZ h.tC O,h.pk⟩
 .rw[VF];by_cases hx:x=(k:Int)
  .rw[zC hx];subst hx;simp only[Option.isSome_some,true_iff];exact⟨k,rfl,(u k).2 (.inl rfl)⟩
  .rw[zB hx,h.keys];constructor
   .rintro⟨j,rfl,d⟩;exact⟨j,rfl,(u j).2 (.inr d)⟩
   .rintro⟨j,rfl,d⟩;exact⟨j,rfl,((u j).1 d).resolve_left O⟩
 .rw[VF]at d;by_cases hx:(j:Int)=(k:Int)
  .have:j=k:=O
   subst this;rw[zC rfl]at d;cases d;rw[zC rfl];refine⟨ha,hl,O,_,hw,by simp,λi hi=>?_⟩;rw[mY,zC hi];simp only;rw[h.zero _ (by rw[show(32*j+i)/32=j by omega];exact hn)]
  .rw[zB hx]at d;obtain⟨Q,M,L,cs,G,P,N⟩:=h.wd j t d;have J:=h.out j (h.lU d);rw[zB O];exact⟨Q,M,L,cs,dA G J.2.2.1 J.2.2.2,P,N⟩
 .by_cases e1:j=k
  .by_cases e2:C=k
   .omega
   .rw[zC e1,zB e2]at m;have:=z (((u C).1 y).resolve_left e2);omega
  .rw[zB e1]at m;by_cases e2:C=k
   .rw[zC e2]at m;have:=z (((u j).1 D).resolve_left e1);omega
   .rw[zB e2]at m;exact h.inj j C (((u j).1 D).resolve_left e1) (((u C).1 y).resolve_left e2) m
 .by_cases e1:j=k
  .rw[zC e1];exact⟨.inr hz,O,O,O⟩
  .rw[zB e1];have:=h.out j (((u j).1 d).resolve_left e1);exact⟨.inl this.1,this.2⟩
 .refine h.zero w λy=>H ((u _).2 (.inr y))
theorem fL.BO (h:fL U F p q r l B sp){σ':Hp}{n c:Nat}(hn:n<=1024)(ho:Ka U σ' p)(hc:sp.st.length<=c)(hb:bY σ' p [.slice (some ⟨q,0,none⟩) sp.st.length c,.map (some r),.int .i64 (n:Int)]):fL σ' F p q r l B {sp with pk:=n}:=by
 have d:=h.fs;obtain⟨a,b⟩:=h.row;refine⟨⟨c,hc,hb⟩,⟨a,WF ho b O⟩,H9 ho h.map O,h.keys,λj t g=>?_,h.inj,h.out,d,h.zero,h.n1,h.n2,h.tC,hn⟩;obtain⟨w,m,i,s,y,u,x⟩:=h.wd j t g;exact⟨w,m,i,s,WF ho y (h.out j (h.lU g)).2.1,u,x⟩
theorem fL.word (h:fL U F p q r l B sp){w:Nat}{v:Int}(hk:sp.st[w/32]?=some 2){σ':Hp}{cs:List Value}(h32:32<=cs.length)(ho:Ka U σ' (B (w/32)))(hcs:∀j,j<32->cs[j]?=some (.int .i64 (sp.wd (32*(w/32)+j))))
 (hb:bY σ' (B (w/32)) (cs.set (w%32) (.int .i64 v))):fL σ' F p q r l B {sp with wd:=λu=>if u=w then v else sp.wd u}:=by
 have x:=h.out _ hk;obtain⟨c,C,hd⟩:=h.hd;obtain⟨a,b⟩:=h.row;refine⟨⟨c,C,WF ho hd O⟩,⟨a,WF ho b O⟩,H9 ho h.map O,h.keys,λj t s=>?_,h.inj,h.out,h.fs,λu m=>?_,h.n1,h.n2,h.tC,h.pk⟩
 .obtain⟨A,z,y,g,E,D,G⟩:=h.wd j t s;by_cases hjk:j=w/32
  .subst hjk;refine⟨A,z,y,_,hb,by simpa using h32,λi hi=>?_⟩;rw[nU];by_cases hiw:w%32=i
   .rw[zC hiw,zC O];simp only;rw[zC O]
   .rw[zB hiw];simp only;rw[zB O];exact hcs i hi
  .have d:B j≠B (w/32):=λe=>hjk (h.inj _ _ (h.lU s) hk e);refine⟨A,z,y,g,WF ho E d,D,λi hi=>?_⟩;rw[G i hi];simp only;rw[zB O]
 .have:u≠w:=λe=>by subst e;exact m hk
  simp only;rw[zB this];exact h.zero u m
theorem PH (h:dR U F p sp)(g:Gc U){w:Nat}(hw:w/32<sp.st.length)(v:Int){R:aP}(hR:∀σ',Ext F U σ'->dR σ' (Grow F U) p (nY sp w v)->R σ') :
 Zv.c (aW p) (w:Int) v U R:=by
 refine Zv.o ?_;unfold Zv.v;obtain⟨q,r,l,B,h⟩:=h;have Q:=h.n2;have j:sp.st[w/32]?=some sp.st[w/32]:=cW hw;have tm:((w:Int).tmod 32)=((w%32:Nat):Int):=by rw[Ki O];simp
 have word:∀(u:Hp) (s':Sp) (l':List (Int×Sl)) (B':Nat->Nat),Ext F U u->fL u (Grow F U) p q r l' B' s'->s'.st[w/32]?=some 2->({s' with wd:=λz=>if z=w then v else s'.wd z}:Sp)=nY sp w v →
  bW (some ⟨p,0,none⟩) λZ=>lO (Z.add 1) u λX=>Lk .i64 .s X ((w/32:Nat):Int) u λG=>Nz 32<|Ix (G.getD ⟨none,0,0⟩).a (G.getD ⟨none,0,0⟩).len ((w:Int).tmod 32) 1 λaa=>dG aa (.int .i64 v) u λv1=>R v1:=by
  intro u s' l' B' eu hu A he;refine bL (hu.rM ⟨l',hu.map,nz aB ?_⟩);obtain⟨s,hs,w1,w2,w3,cs,w4,w5,w6⟩:=hu.entry A;rw[hs,tm];simp only[qL];rw[w1];refine ix O O ?_;rw[add_lit,show 0+((w%32:Nat):Int).toNat*1=w%32 by omega];refine w4.s0 O λu2 o2 M=>?_;have h2:=hu.word (v:=v) A w5 o2 w6 M;rw[he]at h2;exact hR u2 (eu.dX o2.ext λb d=>by subst d;exact(hu.out _ A).1) ⟨_,_,_,_,h2⟩
 refine nz aB (cT (m:=w/32) (by rw[YU O];simp) O (Jn.intro (bL (h.rS λcap E=>ix O aC ?_))));rw[add_lit,show 0+((w/32:Nat):Int).toNat*2=2*(w/32) by omega];refine h.AB j (nJ (n:=true) g.d0 (nJ (n:=true) g.d1 ?_));have e0:(((gD sp.st[w/32]).1==true)&&(((gD sp.st[w/32]).2==true)&&true))=(sp.st[w/32]==2):=Ek (h.tC _ (ky hw)) (y:=2) O;rw[e0];refine cP (λhd=>?_) λhd=>?_
 .have D:sp.st[w/32]≠2:=by simpa using hd
  refine bL (h.rS λcap E=>nJ (n:=true) g.d0 (nJ (n:=true) g.d1 (ix O aC ?_)));rw[add_lit,show 0+((w/32:Nat):Int).toNat*2=2*(w/32) by omega];obtain⟨J,C⟩:=h.row;refine C.s1 (by rw[zM,V4];omega) λu1 o1 b1=>b1.s1 (by rw[pH,zM,V4];omega) λu2 o2 M=>?_;rw[kr]at M;have ac:bY u2 q (gW (sp.st.set (w/32) 2)++J):=by rw[←Ic hw];exact M
  have e2:Ext (· = q) U u2:=o1.ext.trans o2.ext;obtain⟨c,hc,K⟩:=h.hd;have H:=e2.bV K h.fs.2.2.2.1;refine⟨λm=>bY m p [.slice (some ⟨q,0,none⟩) sp.st.length c,.map (some r),.int .i64 (sp.pk:Int)],H,bL ⟨some r,λm hm=>by rw[add_lit,hm.cell];rfl,?_⟩⟩;refine mk (n:=32) O O λu3 hz3 N b3=>⟨Ext.bV N H id,?_⟩;have V:bY u3 u2.size (List.replicate 32 (.int .i64 0)):=b3;have q3:=Ext.bV N ac id;have W:=e2.fX h.map (λe=>h.fs.2.2.2.2.2 e.symm);refine⟨r,l,rfl,Ext.fX N W id,λu4 o4 P=>?_⟩;have sz2:u2.size=U.size:=by rw[o2.1,o1.1]
  have hrlt:=h.map.lt;have ad:=K.lt;have e4:Ext (λb=>b=q\/b=r) U u4:=((e2.sub λb d=>.inl d).trans (aF.to N)).trans (o4.ext.sub λb d=>.inr d);have L:=h.Dp hw (by rw[j];simpa using D) (s:=⟨some ⟨u2.size,0,none⟩,32,32⟩) (b:=u2.size) e4 (λi _ hi=>hi) O (WF o4 q3 h.fs.2.2.2.2.2) P rfl rfl rfl (WF o4 V O);obtain⟨c4,ab,x⟩:=L.hd;refine bL (x.rI rfl (bL (x.rM rfl ⟨_,L.map,bL ?_⟩)));rw[L.yD];have hcl:(sp.st.set (w/32) 2).count 2<=1024:=kD List.count_le_length (by simpa using Q);have hpk:=h.pk;have hv:(if((List.count 2 (sp.st.set (w/32) 2):Nat):Int)>(sp.pk:Int)then((List.count 2 (sp.st.set (w/32) 2):Nat):Int)else(sp.pk:Int))=((max sp.pk ((sp.st.set (w/32) 2).count 2):Nat):Int):=by
   by_cases hgt:((List.count 2 (sp.st.set (w/32) 2):Nat):Int)>(sp.pk:Int)
   .rw[zC hgt];omega
   .rw[zB hgt];omega
  simp only;rw[hv];refine x.s1 aA λu5 o5 b5=>?_;have h5:=L.BO O o5 ab b5;have e5:Ext F U u5:=(e4.sub λb d=>by
   rcases d with rfl|rfl
   .exact h.fs.2.1
   .exact h.fs.2.2.1).trans (o5.ext.sub λb d=>by subst d;exact h.fs.1)
  refine word u5 _ _ _ e5 h5 (by simp only;rw[nU,zC rfl,zC hw]) ?_;unfold nY;rw[zB (by rw[zQ,j];exact D)]
 .have S:sp.st[w/32]=2:=by simpa using hd
  rw[S]at j;have Y:fL U (Grow F U) p q r l B sp:={h with out:=λk A=>⟨.inl (h.out k A).1,(h.out k A).2⟩,fs:=⟨.inl h.fs.1,.inl h.fs.2.1,.inl h.fs.2.2.1,h.fs.2.2.2⟩};refine word U sp l B (Ext.refl _ _) Y j ?_;unfold nY;rw[zC (by rw[zQ,j];rfl)];have:sp.st.set (w/32) 2=sp.st:=by
   apply zt;intro i;rw[nU];by_cases hi:w/32=i
   .subst hi;rw[zC rfl,zC hw,j]
   .rw[zB hi]
  rw[this]
theorem Wle (h:dR U F p sp)(g:Gl U)(gd:Gc U)(x:Int)(hx:x<=9223372036854775807)(v:Int){R:aN}(hR:∀σ',Ext F U σ'->dR σ' (Grow F U) p (ZJ sp x v)->R (eP sp x) σ') :
 YM.c (aW p) x v U R:=by
 refine YM.o ?_;unfold YM.v;have j:dR U (Cut F U) p sp:=dP.cut dR.loc h;refine JR h g x hx λB e=>?_;have w:=j.bP e;have C:=g.bP e;refine cP (λu=>?_) λu=>?_
 .have s:¬eP sp x=0:=by simpa using u
  refine hR B (aF.to e) ?_;unfold ZJ;rw[zB s];exact dP.mono dR.loc w λb _ a=>.inl a.1
 .have d:eP sp x=0:=by simpa using u
  have i:0<=x/\sp.st.getD (x.toNat/256) 0≠0:=by
   unfold eP at d;by_cases a:x<0\/x%8≠0
   .rw[zC a]at d;cases d
   .rw[zB a]at d;by_cases hz:sp.st.getD (x.toNat/256) 0=0
    .rw[zC hz]at d;cases d
    .exact⟨O,hz⟩
  obtain⟨y,rfl⟩:=zc i.1;have r:y/8/32<sp.st.length:=by
   rcases kv (y/256) sp.st.length with h|h
   .omega
   .exact absurd (by rw[zQ,zX (by simpa using h)];rfl) i.2
  refine nz aB (cT (m:=y/8) (by rw[YU O];simp) O (PH w (gd.bP e) r v λA e2 z=>?_));have:=hR A (Ext.cut ((aF.to e).trans e2)) ?_
  .rw[d]at this;exact this
  .unfold ZJ;rw[zC d];exact dP.mono dR.loc z λb _ a=>by
    rcases a with a|a
    .exact .inl a.1
    .exact .inr (kD e.1 a)
def V7 (n:Nat):Sp:=⟨List.replicate n 0,λ_=>0,0⟩
theorem δ {U:Hp}{F:Rg}{p q r n c:Nat}(h1:1<=n)(h2:n<=1024)(hc:n<=c)(hd:bY U p [.slice (some ⟨q,0,none⟩) n c,.map (some r),.int .i64 0])(hq:bY U q (gW (List.replicate n 0)))(hr:dM U r .i64 .s [])
 (hF:F p/\F q/\F r) (hne:p≠q/\p≠r/\q≠r):fL U F p q r [] (λ_=>0) (V7 n):=by
 have b:∀k:Nat,(List.replicate n 0)[k]?≠some 2:=λk a=>by
  rw[mY]at a;split at a<;>cases a
 refine⟨⟨c,by simpa[V7]using hc,by simpa[V7]using hd⟩,⟨[],by simpa[V7]using hq⟩,hr,λx=>?_,λk s d=>(by cases d),λk i h1=>absurd h1 (b k),λk a=>absurd a (b k),⟨hF.1,hF.2.1,hF.2.2,hne⟩,λw _=>rfl,by simpa[V7]using h1,by simpa[V7]using h2,λx g=>?_,by simp[V7]⟩
 .constructor
  .intro h;cases h
  .rintro⟨k,_,a⟩;exact absurd a (b k)
 .have:=Da g;omega
theorem OK {n:Nat}(h1:1<=n)(h2:n<=1024){R:Option Addr->Int->Hp->Prop}(hR:∀σ' p',aF U σ'->U.size<=p'->dR σ' (λb=>U.size<=b) p' (V7 n)->R (some ⟨p',0,none⟩) 0 σ'):KA.c (n:Int) U R:=by
 refine KA.o ?_;unfold KA.v;refine bX.intro (gA O ?_);rw[zL O];refine cD rfl (mk O O λd w e1 m=>ub λu x e2 i=>nw (cs:=[.slice (some ⟨U.size,0,none⟩) n n,.map (some d.size),.int .i64 0]) λg y a j=>?_);have r:=Ext.bV a (Ext.bV e2 m id) id;have p:=Ext.fX a (i .i64 .s) id;refine hR g _ (Ext.trans (Ext.trans e1 e2) a) O ⟨U.size,d.size,[],_,δ h1 h2 (zD _) j ?_ p ⟨O,O,O⟩ O⟩;rw[Wna];exact r
end Go.Ar