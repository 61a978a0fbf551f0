/- Texts joined. -/
import Derived.Lib.Overlaps
import Derived.Laws.Externs
import Derived.Test.YteihenagckcobaaGreatDoorE2
set_option linter.unusedVariables false
set_option linter.unusedSimpArgs false
namespace Go.Proofs
open Go.Vc
set_option maxRecDepth 100000
def Zu.h:Hn:=.q .o1 (.q (.q (.cR (.seq [.op,.op,.op,.op,.cX false 3 (RI.ops 3)])) .aK) (.q (.q .o3 (.k (.loop [(15,.I)] (.q .o1 (.q (.c .l .l) (.q (.k (.q .o6 (.q (.cR (.gA true [1] [(37,.one .b)] (.take 0 (.all [(1,.take 2 (.take 3 (.split 23 (.take 4 (.take 5 (.take 6 (.take 7 (.take 8 (.take 9 (.take 10 (.take 11 (.take 12 (.take 13 (.take 14 (.take 15 (.take 16 (.take 17 (.done))))))))))))))) (.take 4 (.take 5 (.take 6 (.split 26 (.take 7 (.take 9 (.take 10 (.take 11 (.take 12 (.take 13 (.all [(8,.all [(14,.take 15 (.take 16 (.take 17 (.done))))]),(14,.all [(8,.take 15 (.take 16 (.take 17 (.done))))])]))))))) (.take 7 (.take 8 (.take 9 (.take 10 (.take 11 (.take 12 (.take 13 (.take 14 (.take 15 (.take 16 (.take 17 (.done)))))))))))))))))))])))) .aK))) .o2)))))) .aM))
def Zu.v (a:Sl)(b:Hp)(c:aO):Prop:=bV (λd e=>If d (c false e) (Ys [bN] (λf=>f 0 e) λg (h:Int) i=>If (h<((a.len:Nat):Int)) (Ix a.a a.len h 3 λj=>aQ j 0 i λk=>aQ j 1 i λl=>aQ j 2 i λm=>aV #[.I 0,.I 0,.I 0] 137 i λn o=>aR n 0 (.I k) o λp=>aR n 1 (.I l) p λq=>aR n 2 (.I m) q λr=>Jn [.b] (λ(s:Bool) t=>If s (c false t) (bL (h+1) λu=>g u t)) λv=>eI r λw=>aS w n 0 λx=>aS w n 1 λy=>aS w n 2 λz=>Qv.c x y z r λaa ab=>If (!aa) (v true ab) (If (h>0) (bL (h-1) λac=>Ix a.a a.len ac 3 λad=>(aQ n 0 ab λae=>aQ ad 0 ab λaf=>v (decide (ae<=af)) ab) ∧ (aQ ad 0 ab λag=>aQ n 0 ab λah=>v (decide (ah<=ag)) ab)) (v false ab))) (c true i))) λai=>If (((a.len:Nat):Int)<1) (ai true b) (ai (decide (((a.len:Nat):Int)>40)) b)
theorem Zu.o {a b c}(d:Zu.v a b c):Zu.c a b c:=Wa Tryz.func140 (x:=Zu.h) (R0 d)
def Z2.h:Hn:=.q .o4 (.q (.k (.q .o4 (.c .aL (.q (.cR (.gA true [] [(13,.one .b)] (.tk [0,1,2] (.split 16 (.tk [3,4,5,6,7,8,9,10,11,12,13,14,15,16] (.done)) (.tk [3,4,5,6] (.split 20 (.tk [7,8,9,10,11,12,13,14,15,16] (.done)) (.tk [7,8,9,10] (.split 24 (.tk [11,12,13,14,15,16] (.done)) (.take 11 (.take 13 (.all [(12,.take 14 (.take 15 (.take 16 (.done))))]))))))))))) .aJ)))) (.q .o4 (.q (.q .o2 .aJ) (.q .o3 .l))))
def Z2.v (a:Sl)(b c:Int)(d:Hp)(e:Int->Int->Hp->Prop):Prop:=aV #[.I b] 3 d λf g=>aV #[.I c] 3 g λh i=>Zu.c a i λj k=>If (!j) (e 0 2 k) (Jn [.b] (λ(l:Bool) m=>If l (e 0 1 m) (Wl.c a ⟨203,#[],#[.pointer (some f),.pointer (some h)]⟩ m λn o=>If (n<0) (e 0 4 o) (e n 0 o))) λp=>eI k λq=>gE q bN f λ(r:Int)=>If (r<1) (p true k) (gE q bN h λ(s:Int)=>If (s<1) (p true k) (gE q bN h λ(t:Int)=>If (t>256) (p true k) (gE q bN h λ(u:Int)=>gE q bN h λ(v:Int)=>Z3.c u k λw x=>And (q x) <| p (w != v) x))))
theorem Z2.o {a b c d e}(f:Z2.v a b c d e):Z2.c a b c d e:=Wa Tryz.func145 (x:=Z2.h) (R0 f)
def Qv.h:Hn:=.q .o2 (.q (.cR (.seq [.op,.op,.op,.op,.cX true 3 (RI.ops 3),.op,.cX true 4 (RI.ops 4),.op,.cX true 3 (RI.ops 3),.op,.cX true 3 (RI.ops 3),.op,.cX true 6 (RI.ops 6),.op,.cX true 3 (RI.ops 3),.op,.cX true 3 (RI.ops 3),.op])) .l)
def Qv.v (a b c:Int)(d:Hp)(e:aO):Prop:=aV #[.I a,.I b,.I c] 137 d λf g=>aQ f 0 g λh=>bV (λi j=>bV (λk l=>bV (λm n=>bV (λo p=>bV (λq r=>bV (λs t=>bV (λu v=>e u v) λw=>If s (aQ f 2 t λx=>w (decide (x<=32)) t) (w false t)) λy=>If q (aQ f 2 r λz=>y (decide (z≥1)) r) (y false r)) λaa=>If o (aQ f 1 p λab=>bL (ab*256) λac=>aQ f 0 p λad=>aa (decide (ac≥ad)) p) (aa false p)) λae=>If m (aQ f 1 n λaf=>ae (decide (af<=4)) n) (ae false n)) λag=>If k (aQ f 1 l λah=>ag (decide (ah≥1)) l) (ag false l)) λai=>If i (aQ f 0 j λaj=>Nz 8 <| ai ((aj.tmod 8)==0) j) (ai false j)) λak=>If (h≥8) (aQ f 0 g λal=>ak (decide (al<=512)) g) (ak false g)
theorem Qv.o {a b c d e}(f:Qv.v a b c d e):Qv.c a b c d e:=Wa Tryz.func176 (x:=Qv.h) (R0 f)
def Zy.h:Hn:=.q .o2 (.q .o7 .l)
def Zy.v (a b c:Int)(d:Hp)(e:aN):Prop:=aV #[.I a,.I b,.I c] 137 d λf g=>aQ f 1 g λh=>bL (h*256) λi=>aQ f 0 g λj=>Nz j<|bL (i.tdiv j) λk=>e k g
theorem Zy.o {a b c d e}(f:Zy.v a b c d e):Zy.c a b c d e:=Wa Tryz.func177 (x:=Zy.h) (R0 f)
def Z3.h:Hn:=.q .o1 (.q .o1 (.q (.q .o1 (.k (.loop [(3,.I),(4,.I)] (.q (.q .o3 (.c .l .l)) (.q (.k .o2) .o3))))) .aL))
def Z3.v (a:Int)(b:Hp)(c:aN):Prop:=Ys [bN,bN] (λd=>d 0 1 b) λe (f:Int) (g:Int) h=>If (g<=a) (bL (g*2) λi=>e g i h) (c f h)
theorem Z3.o {a b c}(d:Z3.v a b c):Z3.c a b c:=Wa Tryz.func201 (x:=Z3.h) (R0 d)
def ZK.h:Hn:=.q .o2 (.q (.cR (.seq [.op,.op,.op,.op,.op,.cX true 5 (RI.ops 5),.op])) .l)
def ZK.v (a b c:Int)(d e:Addr)(f:Hp)(g:aO):Prop:=aV #[.I a,.I b,.I c] 137 f λh i=>aQ h 0 i λj=>bM d i λk=>bV (λl m=>g l m) λn=>If (j≥k) (aQ h 0 i λo=>bM e i λp=>Nz p <| n ((o.tmod p)==0) i) (n false i)
theorem ZK.o {a b c d e f g}(h:ZK.v a b c d e f g):ZK.c a b c d e f g:=Wa Tryz.func203 (x:=ZK.h) (R0 h)
def Zp.h:Hn:=.q .o3 (.q (.q .o3 .aJ) (.q .o4 .l))
def Zp.v (a b c:Int)(d:Hp)(e:Int->Int->Hp->Prop):Prop:=aV #[.I a,.I b,.I c] 137 d λf g=>aQ f 0 g λh=>aQ f 1 g λi=>aQ f 2 g λj=>Qv.c h i j g λk l=>If (!k) (e 0 1 l) (aQ f 0 l λm=>aQ f 1 l λn=>aQ f 2 l λo=>Zy.c m n o l λp q=>e p 0 q)
theorem Zp.o {a b c d e}(f:Zp.v a b c d e):Zp.c a b c d e:=Wa Tryz.func247 (x:=Zp.h) (R0 f)
end Go.Proofs
namespace Go.Ar
open Go Go.Vc Go.Proofs
variable {U:Hp}
theorem FP (x y z:Int){R:aO}(hR:∀σ',bK U σ'->R (VZ x y z) σ'):Qv.c x y z U R:=by
 refine Qv.o ?_;unfold Qv.v;refine nw (cs:=[.int .i64 x,.int .i64 y,.int .i64 z]) λh A e b=>?_;have s:VZ x y z=false->R false h:=λg=>g▸hR h e;have a:¬(8<=x/\x<=512/\x%8=0/\1<=y/\y<=4/\x<=y*256/\1<=z/\z<=32)->R false h:=λg=>s (by rw[←pS,UQ];exact g);refine b.rI rfl (bV.intro ?_);refine cQ (λu=>b.rI rfl (bV.intro ?_)) λu=>?_
 case refine_2=>
  iterate 6 refine bV.intro (cB rfl ?_)
  exact a O
 refine cQ (λi=>b.rI rfl (nz aB (bV.intro ?_))) λi=>?_
 case refine_2=>
  iterate 5 refine bV.intro (cB rfl ?_)
  exact a O
 rw[Qg O];refine cO (λd=>b.rI rfl (bV.intro ?_)) λd=>?_
 case refine_2=>
  have:¬x%8=0:=by simpa using d
  iterate 4 refine bV.intro (cB rfl ?_)
  exact a O
 have m:x%8=0:=by simpa using d
 refine cQ (λj=>b.rI rfl (bV.intro ?_)) λj=>?_
 case refine_2=>
  iterate 3 refine bV.intro (cB rfl ?_)
  exact a O
 refine cQ (λr=>b.rI rfl (ar O O (b.rI rfl (bV.intro ?_)))) λr=>?_
 case refine_2=>
  iterate 2 refine bV.intro (cB rfl ?_)
  exact a O
 refine cQ (λp=>b.rI rfl (bV.intro ?_)) λp=>?_
 case refine_2=>exact bV.intro (cB rfl (a O))
 refine cQ (λw=>b.rI rfl ?_) λw=>a O;have:decide (z<=32)=VZ x y z:=by
  rw[l3,UQ];simp;omega
 rw[this];exact hR h e
theorem Sv {c:bZ}(hc:c.ok){R:aN}(hR:∀σ',bK U σ'->R (c.n:Int) σ'):Zy.c c.size c.aF c.batch U R:=by
 refine Zy.o ?_;unfold Zy.v;have h:=hc;unfold bZ.ok at h;refine nw (cs:=[.int .i64 c.size,.int .i64 c.aF,.int .i64 c.batch]) λh b e a=>?_;refine a.rI rfl (cP (m:=c.aF*256) aA O (a.rI rfl (nz O ?_)));refine cP (m:=c.n) ?_ (by have:=hc.kx;omega) (hR _ e);rw[XP O];simp[bZ.n]
theorem D3 (x y z:Int){R:Int->Int->Hp->Prop}(h1:∀c:bZ,c.ok->x=c.size->y=c.aF->z=c.batch->∀σ',bK U σ'->R (c.n:Int) 0 σ')(h0:VZ x y z=false->∀σ',bK U σ'->R 0 1 σ'):Zp.c x y z U R:=by
 refine Zp.o ?_;unfold Zp.v;refine nw (cs:=[.int .i64 x,.int .i64 y,.int .i64 z]) λh m e b=>?_;refine b.rI rfl (b.rI rfl (b.rI rfl (FP _ _ _ λi e2=>?_)));have a:=e2.bT b id;cases hk:VZ x y z
 ·exact cD rfl (h0 hk _ (e.trans e2))
 ·obtain⟨c,d,_,rfl,rfl,rfl⟩:=Gh hk;exact cB rfl (a.rI rfl (a.rI rfl (a.rI rfl (Sv d λj g=>h1 c d rfl rfl rfl _ ((e.trans e2).trans g)))))
end Go.Ar
namespace Go.Proofs
open Go.Vc
set_option maxRecDepth 100000
def Xk.h:Hn:=.q .o1 (.q (.cR (.seq [.op,.op,.op,.cX true 6 (RI.ops 6),.op])) .l)
def Xk.v (a:R2)(b:Hp)(c:aO):Prop:=bV (λd e=>c d e) λf=>If (!a.isNone) (bE a 0 b λh=>f (decide (((h.len:Nat):Int)>0)) b) (f false b)
theorem Xk.o {a b c}(d:Xk.v a b c):Xk.c a b c:=Wa Tryz.func191 (x:=Xk.h) (R0 d)
def Km.h:Hn:=.q .o2 (.q (.q (.cR (.seq [.op,.op,.op,.cX false 2 [.op,.op],.op,.cX false 3 (RI.ops 3)])) .aJ) (.q .o6 .l))
def Km.v (a:Int)(b:Hp)(c:Option Addr->Int->Hp->Prop):Prop:=bV (λd e=>bV (λf g=>If f (c none 1 g) (Mk a a 8 3 [.I 0] g λh i=>aV #[.slice h.a h.len h.cap] 280 i λj k=>c (some j) 0 k)) λl=>If d (l true e) (Nz 16 <| l ((a.tmod 16) != 0) e)) λm=>If (a<16) (m true b) (m (decide (a>1024)) b)
theorem Km.o {a b c}(d:Km.v a b c):Km.c a b c:=Wa Tryz.func198 (x:=Km.h) (R0 d)
def Xl.h:Hn:=.q .o1 (.q .o6 .l)
def Xl.v (a:R2)(b c:Int)(d:Hp)(e:aN):Prop:=aV #[.I 1] 3 d λf g=>Xz.c a b c 2 ⟨some f,1,1⟩ g λh i=>e h i
theorem Xl.o {a b c d e}(f:Xl.v a b c d e):Xl.c a b c d e:=Wa Tryz.func220 (x:=Xl.h) (R0 f)
def YF.h:Hn:=.q .o1 (.q .o7 .l)
def YF.v (a:R2)(b:Hp)(c:aN):Prop:=bE a 0 b λe=>Nz 16<|bL (((e.len:Nat):Int).tdiv 16) λf=>c f b
theorem YF.o {a b c}(d:YF.v a b c):YF.c a b c:=Wa Tryz.func224 (x:=YF.h) (R0 d)
def YW.h:Hn:=.q .o1 (.q (.o 11) .l)
def YW.v (a:R2)(b:Int)(c:Hp)(d:Sl->Hp->Prop):Prop:=bE a 0 c λf=>bL (b*16) λg=>bL (b+1) λh=>bL (h*16) λi=>eX f 1 g i (f.cap:Nat) λj=>d j c
theorem YW.o {a b c d}(e:YW.v a b c d):YW.c a b c d:=Wa Tryz.func226 (x:=YW.h) (R0 e)
def Xz.h:Hn:=.q .o2 (.q (.k (.q .o4 (.c .aM (.q (.cR (.seq [.op,.op,.op,.cX false 2 [.op,.op],.op,.cX false 7 (RI.ops 7),.op,.cX false 9 (RI.ops 9),.op])) .aK)))) (.q .gH (.q (.q .o3 .aK) (.q .o3 .aM))))
def Xz.v (a:R2)(b c d:Int)(e:Sl)(f:Hp)(g:aN):Prop:=aV #[.slice e.a e.len e.cap] 34 f λh i=>Xk.c a i λj k=>If (!j) (g 5 k) (bV (λl m=>bV (λn o=>bV (λp q=>If p (g 1 q) (bE a 0 q λs=>bL (b+c) λt=>eX s 1 b t (s.cap:Nat) λu=>Wx.c u ⟨271,#[],#[.pointer (some h)]⟩ q λv w=>If v (g 5 w) (Qh.c u d w λx=>g 0 x))) λy=>If n (y true o) (bE a 0 o λaa=>bL (((aa.len:Nat):Int)-b) λab=>y (decide (c>ab)) o)) λac=>If l (ac true m) (bE a 0 m λae=>ac (decide (b>((ae.len:Nat):Int))) m)) λaf=>If (b<0) (af true k) (af (decide (c<1)) k))
theorem Xz.o {a b c d e f g}(h:Xz.v a b c d e f g):Xz.c a b c d e f g:=Wa Tryz.func230 (x:=Xz.h) (R0 h)
def Yj.h:Hn:=.q .o2 (.q (.k (.q .o4 (.c .aL (.q (.cR (.seq [.op,.op,.op,.cX false 4 (RI.ops 4),.op])) .aJ)))) (.q .o5 .l))
def Yj.v (a:R2)(b:Int)(c:Hp)(d:Sl->Int->Hp->Prop):Prop:=Xk.c a c λe f=>If (!e) (d ⟨none,0,0⟩ 5 f) (bV (λg h=>If g (d ⟨none,0,0⟩ 1 h) (YW.c a b h λi j=>d i 0 j)) λk=>If (b<0) (k true f) (YF.c a f λl m=>k (decide (b≥l)) m))
theorem Yj.o {a b c d}(e:Yj.v a b c d):Yj.c a b c d:=Wa Tryz.func233 (x:=Yj.h) (R0 e)
def Qh.h:Hn:=.q .o3 (.k (.loop [(7,.I)] (.q .o1 (.q (.c .l .l) (.q (.k (.q .o2 .o5)) .o2)))))
def Qh.v (a:Sl)(b:Int)(c:Hp)(d:aP):Prop:=Ys [bN] (λe=>e 0 c) λf (g:Int) h=>If (g<((a.len:Nat):Int)) (Ix a.a a.len g 1 λi=>dN i (.I b) h λj=>bL (g+1) λk=>f k j) (d h)
theorem Qh.o {a b c d}(e:Qh.v a b c d):Qh.c a b c d:=Wa Tryz.func235 (x:=Qh.h) (R0 e)
def Xu.h:Hn:=.q .o1 (.q .o6 .l)
def Xu.v (a:R2)(b c:Int)(d:Hp)(e:aN):Prop:=aV #[.I 2,.I 3] 3 d λf g=>Xz.c a b c 1 ⟨some f,2,2⟩ g λh i=>e h i
theorem Xu.o {a b c d e}(f:Xu.v a b c d e):Xu.c a b c d e:=Wa Tryz.func255 (x:=Xu.h) (R0 f)
def Yo.h:Hn:=.q .o1 (.q .o5 .l)
def Yo.v (a:Int)(b:Addr)(c:Hp)(d:aO):Prop:=jq b c λe=>Wp.c e a c λf g=>d (!f) g
theorem Yo.o {a b c d}(e:Yo.v a b c d):Yo.c a b c d:=Wa Tryz.func271 (x:=Yo.h) (R0 e)
def XL.h:Hn:=.q .o1 (.q (.q (.cR (.seq [.op,.op,.op,.op,.cX false 2 [.op,.op],.op,.cX false 7 (RI.ops 7)])) .aK) (.q .o8 .l))
def XL.v (a:R2)(b:Int)(c:Hp)(d:aN):Prop:=Xk.c a c λe f=>bV (λg h=>bV (λi j=>If i (d (-1) j) (bE a 0 j λl=>Ix l.a l.len b 1 λm=>bM m j λn=>d n j)) λo=>If g (o true h) (bE a 0 h λq=>o (decide (b≥((q.len:Nat):Int))) h)) λr=>If (!e) (r true f) (r (decide (b<0)) f)
theorem XL.o {a b c d}(e:XL.v a b c d):XL.c a b c d:=Wa Tryz.func281 (x:=XL.h) (R0 e)
def X0.h:Hn:=.q .o1 (.q .o8 (.q (.k (.q .o3 (.c .aL (.q .o5 .aK)))) (.q .o2 .aM)))
def X0.v (a:R2)(b:Int)(c:Hp)(d:aN):Prop:=Yj.c a b c λe f g=>If (f != 0) (d f g) (Ix e.a e.len 0 1 λh=>bM h g λi=>If (i != 0) (d 5 g) (Qh.c e 3 g λj=>d 0 j))
theorem X0.o {a b c d}(e:X0.v a b c d):X0.c a b c d:=Wa Tryz.func287 (x:=X0.h) (R0 e)
end Go.Proofs
namespace Go.Ar
open Go Go.Vc Go.Proofs
open Go.Bu (Zb)
variable {U:Hp}{F:Rg}{p q:Nat}{st:List Nat}
structure ib (U:Hp) (p q:Nat) (st:List Nat):Prop where
 hd:∃cap,st.length<=cap/\bX U p [.slice (some ⟨q,0,none⟩) st.length cap]
 row:∃rest,bX U q (ints st++rest)
 ne:p≠q
 n1:16<=st.length
 n2:st.length<=1024
 n3:st.length%16=0
theorem ib.bS {σ':Hp}(h:ib U p q st)(e:Ext F U σ')(hp:¬F p)(hq:¬F q):ib σ' p q st:=
 ⟨by obtain⟨c,a,b⟩:=h.hd;exact⟨c,a,e.bT b hp⟩,by obtain⟨r,a⟩:=h.row;exact⟨r,e.bT a hq⟩,h.ne,h.n1,h.n2,h.n3⟩
theorem ib.bO {σ':Hp}(h:ib U p q st)(e:bK U σ'):ib σ' p q st:=h.bS e id id
theorem ib.lt (h:ib U p q st):p<U.size/\q<U.size:=by
 obtain⟨_,_,a⟩:=h.hd;obtain⟨_,b⟩:=h.row;exact⟨a.lt,b.lt⟩
theorem ib.rS (h:ib U p q st){K:Sl->Prop}(hK:∀cap,st.length<=cap->K ⟨some ⟨q,0,none⟩,st.length,cap⟩):jq (Addr.add ⟨p,0,none⟩ 0) U K:=by
 obtain⟨c,a,b⟩:=h.hd;exact b.rS rfl (hK c a)
theorem ib.part (h:ib U p q st){s:Sl}{a n:Nat}(ha:s.a=some ⟨q,a,none⟩)(hn:s.len=n)(hl:a+n<=st.length):cU s 1 (ints ((st.drop a).take n)) U (· = q):=by
 obtain⟨r,e⟩:=h.row;have b:((st.drop a).take n).length=n:=by simp;omega
 refine e.gY ha (by rw[QG,b,hn];simp) λj d=>?_;rw[QG,b]at d;rw[ze (by rw[QG];omega)];simp[ints,zj,d,kR]
theorem jF {b o n c:Nat}{cs:List Value}(hb:bX U b cs)(hl:o+n<=cs.length)(hn:n<=1000000)(v:Nat){R:aP}
 (hR:∀σ',Qo U σ' b->bX σ' b (cs.take o++List.replicate n (.int .i64 (v:Int))++cs.drop (o+n))->R σ'):Qh.c ⟨some ⟨b,o,none⟩,n,c⟩ v U R:=by
 refine Qh.o ?_;unfold Qh.v;refine Z6 (a:=bN) (λ(t:Int) p=>∃i:Nat,t=(i:Int)/\i<=n/\Qo U p b/\bX p b (cs.take o++List.replicate i (.int .i64 (v:Int))++cs.drop (o+i))) (λt _=>n-t.toNat) ⟨0,rfl,O,⟨rfl,λ_ _=>rfl⟩,by simpa using hb⟩ ?_;rintro t p ⟨i,rfl,y,r,g⟩;refine cQ (λs=>?_) λu=>?_
 ·simp only at s;refine ix O aC ?_;rw[add_lit];refine g.s0 aE λx d j=>?_;refine cP (m:=i+1) O O ⟨⟨i+1,rfl,O,⟨d.1.trans r.1,λk w=>(d.2 k w).trans (r.2 k w)⟩,?_⟩,O⟩;have:(cs.take o++List.replicate i (Value.int .i64 (v:Int))++cs.drop (o+i)).set (o+(i:Int).toNat*1) (Value.int .i64 (v:Int))=cs.take o++List.replicate (i+1) (Value.int .i64 (v:Int))++cs.drop (o+(i+1)):=by
   rw[List.set_append_right _ _ aE];have e:o+(i:Int).toNat*1-(cs.take o++List.replicate i (Value.int .i64 (v:Int))).length=0:=by simp;omega
   rw[e,wR O,List.set_cons_zero,yG];simp[jY,vN]
  rw[this]at j;exact j
 ·simp only at u;have:i=n:=by omega
  subst this;exact hR p r g
theorem ib.fill (h:ib U p q st){a n:Nat}{r:List Value}{σ':Hp}{v:Nat}(hrow:bX U q (ints st++r))(hl:a+n<=st.length)(ho:Qo U σ' q)
 (hb:bX σ' q ((ints st++r).take a++List.replicate n (.int .i64 (v:Int))++(ints st++r).drop (a+n))):ib σ' p q (fZ st a (a+n) v):=by
 obtain⟨c,e,d⟩:=h.hd;have b:=Kq st a (a+n) v;refine⟨⟨c,by rw[b];exact e,?_⟩,⟨r,?_⟩,h.ne,by rw[b];exact h.n1,by rw[b];exact h.n2,by rw[b];exact h.n3⟩
 ·rw[b];exact Ws ho d h.ne
 ·rw[MZ O hl,UB,UB];have e1:(ints st++r).take a=ints (st.take a):=by
   rw[oD (by rw[QG];omega)];simp[ints]
  have e2:(ints st++r).drop (a+n)=ints (st.drop (a+n))++r:=by
   rw[List.drop_append_of_le_length (by rw[QG];omega)];simp[ints]
  have g:ints (List.replicate (a+n-a) v)=List.replicate n (.int .i64 (v:Int)):=by
   rw[BD];simp[ints]
  rw[e1,e2]at hb;rw[g];simpa[jY]using hb
theorem ib.jF (h:ib U p q st){a n c:Nat}(hl:a+n<=st.length)(v:Nat){R:aP}(hR:∀σ',Ext (· = q) U σ'->ib σ' p q (fZ st a (a+n) v)->R σ') :
 Qh.c ⟨some ⟨q,a,none⟩,n,c⟩ v U R:=by
 obtain⟨r,b⟩:=h.row;have:=h.n2;exact Ar.jF b (by simp[QG];omega) O v λσ' d e=>hR σ' d.ext (h.fill b hl d e)
theorem Ce (h:ib U p q st){R:aO}(hR:R true U):Xk.c (aW p) U R:=by
 refine Xk.o ?_;unfold Xk.v;refine bV.intro (cD rfl (aG (h.rS λcap _=>?_)));have:=h.n1;rw[zJ aC];exact hR
theorem J8 (h:ib U p q st){R:aN}(hR:R ((st.length/16:Nat):Int) U):YF.c (aW p) U R:=by
 refine YF.o ?_;unfold YF.v;have:=h.n2;refine aG (h.rS λcap _=>nz aB ?_);refine cP (m:=st.length/16) ?_ O hR;rw[XP O];simp
theorem Pe (h:ib U p q st){k:Nat}(hk:16*k+16<=st.length){R:Sl->Hp->Prop}(hR:∀c,R ⟨some ⟨q,16*k,none⟩,16,c⟩ U):YW.c (aW p) (k:Int) U R:=by
 refine YW.o ?_;unfold YW.v;have:=h.n2;refine aG (h.rS λcap a=>?_);refine cP (m:=16*k) O O (cP (m:=k+1) O O (cP (m:=16*k+16) O O ?_));refine iN O aC aC ?_;have e:16*k+16-16*k=16:=by omega
 rw[zB aC,e];simp only[zX,add_lit,nj,zH];exact hR _
theorem SN (h:ib U p q st)(k:Int){R:Sl->Int->Hp->Prop}(h1:∀(x:Nat) c,k=(x:Int)->16*x+16<=st.length->R ⟨some ⟨q,16*x,none⟩,16,c⟩ 0 U)(h0:tZ st.length k=false->R ⟨none,0,0⟩ 1 U) :
 Yj.c (aW p) k U R:=by
 refine Yj.o ?_;unfold Yj.v;have n3:=h.n3;refine Ce h (cB rfl (bV.intro (cQ (λa=>cD rfl (h0 ?_)) λa=>J8 h ?_)))
 ·simp[tZ];omega
 ·refine cQ (λd=>h0 ?_) λb=>?_
  ·simp[tZ];omega
  ·obtain⟨x,rfl⟩:=za (show 0<=k by omega);exact Pe h O λc=>h1 x c rfl O
theorem D4 {n x:Nat}(h:16*x+16<=n):tZ n (x:Int)=true:=by simp[tZ];omega
theorem ib.first (h:ib U p q st){x c:Nat}(hx:16*x+16<=st.length){K:Int->Prop}(hK:K ((st.getD (16*x) 0:Nat):Int)) :
 Ix (some ⟨q,16*x,none⟩) 16 0 1 λa=>gp .i64 a U K:=by
 have b:=h.part (s:=⟨some ⟨q,16*x,none⟩,16,c⟩) (n:=16) rfl rfl hx;refine b.ru (i:=0) (x:=st.getD (16*x) 0) ?_ hK;simp[zj,kR,zP];rw[cV O];simp
theorem Ns (h:ib U p q st)(k:Int){R:aN}(hR:∀σ',Ext (· = q) U σ'->ib σ' p q (iY st k)->R (kv st k) σ'):X0.c (aW p) k U R:=by
 refine X0.o ?_;unfold X0.v;refine SN h k (λx c d i=>?_) λd=>?_
 ·subst d;have b:=D4 i;refine cB rfl (h.first (c:=c) i (cO (λg=>?_) λg=>?_))
  ·have e1:¬st.getD (16*x) 0=0:=by simpa using g
   have:kv st (x:Int)=5:=by simp only[kv,b,dE,zR,zB e1]
   have e2:iY st (x:Int)=st:=by simp[iY,this]
   have:=hR U (Ext.refl _ _);rw[e2]at this;simpa[*]using this h
  ·have e1:st.getD (16*x) 0=0:=by simpa using g
   have a:kv st (x:Int)=0:=by simp only[kv,b,dE,zR,e1]
   have e2:iY st (x:Int)=fZ st (16*x) (16*x+16) 3:=by simp[iY,a]
   refine h.jF i 3 λσ' e j=>?_;have:=hR σ' e;rw[a,e2]at this;exact this j
 ·have a:kv st k=1:=by simp[kv,d]
  have e2:iY st k=st:=by simp[iY,a]
  refine cD rfl ?_;have:=hR U (Ext.refl _ _);rw[a,e2]at this;exact this h
theorem Er {s:Sl}{xs:List Nat}(h:cU s 1 (ints xs) U F)(hl:xs.length<=1000000)(v:Nat){R:aN}(h1:∀i:Nat,xs[i]?=some v->(∀j:Nat,j<i->xs[j]?≠some v)->R (i:Int) U)(h0:v∉xs->R (-1) U) :
 WD.c s (v:Int) U R:=by
 refine WD.o ?_;unfold WD.v;have x:=h.oK;refine Z6 (a:=bN) (λ(t:Int) w=>∃i:Nat,t=(i:Int)/\i<=xs.length/\w=U/\∀j,j<i->xs[j]?≠some v) (λt _=>xs.length-t.toNat) ⟨0,rfl,O,rfl,λj d=>O⟩ ?_;rintro t w ⟨i,rfl,B,rfl,b⟩;refine cQ (λA=>?_) λy=>?_
 ·have g:i<xs.length:=by omega
  have r:xs[i]?=some xs[i]:=cV g;refine h.ru r ?_;rw[lR];refine cO (λp=>?_) λp=>?_
  ·have:v=xs[i]:=by simpa using p
   exact h1 i (by rw[r,this]) b
  ·have u:¬v=xs[i]:=by simpa using p
   refine cP (m:=i+1) O O ⟨⟨i+1,rfl,O,rfl,λj d=>?_⟩,O⟩;by_cases e:j=i
   ·subst e;rw[r];intro e2;cases e2;exact u rfl
   ·exact b j O
 ·refine h0 λz=>?_;obtain⟨j,d⟩:=zQ z;have:=(cW.1 d).1;exact b j O d
theorem Jq {s:Sl}{xs:List Nat}(h:cU s 1 (ints xs) U F)(hl:xs.length<=1000000)(v:Nat){R:aO}(hR:R (xs.contains v) U):Wp.c s (v:Int) U R:=by
 refine Wp.o ?_;unfold Wp.v;refine Er h hl v (λi b _=>?_) λa=>?_
 ·have:xs.contains v=true:=by simpa using zG b
  rw[this]at hR;rw[zJ O];exact hR
 ·have:xs.contains v=false:=by simpa using a
  rw[this]at hR;exact hR
theorem IJ {s:Sl}{xs:List Int}(h:cU s 1 (xs.map (Value.int .i64)) U F)(hl:xs.length<=1000000000)(v:Int){R:aO}(hR:R (xs.contains v) U):Wp.c s v U R:=by
 refine Wp.o ?_;unfold Wp.v;refine WD.o ?_;unfold WD.v;have x:s.len=xs.length:=by have:=h.1;simp at this;omega
 refine Z6 (a:=bN) (λ(t:Int) u=>∃i:Nat,t=(i:Int)/\i<=xs.length/\u=U/\∀j,j<i->xs[j]?≠some v) (λt _=>xs.length-t.toNat) ⟨0,rfl,O,rfl,λj d=>O⟩ ?_;rintro t u ⟨i,rfl,A,rfl,b⟩;refine cQ (λz=>?_) λy=>?_
 ·have g:i<xs.length:=by omega
  have w:xs[i]?=some xs[i]:=cV g;refine h.nc w (cO (λp=>?_) λp=>?_)
  ·have e:v=xs[i]:=by simpa using p
   have:xs.contains v=true:=by rw[e];simp
   rw[this]at hR;show R (decide ((i:Int)≥0)) _;rw[zJ O];exact hR
  ·have r:¬v=xs[i]:=by simpa using p
   refine cP (m:=i+1) O O ⟨⟨i+1,rfl,O,rfl,λj d=>?_⟩,O⟩;by_cases e:j=i
   ·subst e;rw[w];intro e2;cases e2;exact r rfl
   ·exact b j O
 ·have:xs.contains v=false:=by
   simp only[rZ,decide_eq_false_iff_not];intro hm;obtain⟨j,d⟩:=zQ hm;have:=(cW.1 d).1;exact b j O d
  rw[this]at hR;exact hR
def F9 (f:Fv)(p:Nat->Bool)(U:Hp):Prop:=∀(x:Nat) (σ':Hp) (R:aO),bK U σ'->(∀σ'',bK σ' σ''->R (p x) σ'')->VP Tryz.prog f [.int .i64 (x:Int)] [.one .b] σ' R
theorem G5 {s:Sl}{xs:List Nat}(h:cU s 1 (ints xs) U F)(hl:xs.length<=1000000){f:Fv}{pr:Nat->Bool}(hf:F9 f pr U){R:aO}(hR:∀σ',bK U σ'->R (xs.any pr) σ') :
 Wx.c s f U R:=by
 refine Wx.o ?_;unfold Wx.v;refine WP.o ?_;unfold WP.v;have w:=h.oK;refine Z6 (a:=bN) (λ(t:Int) u=>∃i:Nat,t=(i:Int)/\i<=xs.length/\bK U u/\∀j x,j<i->xs[j]?=some x->pr x=false) (λt _=>xs.length-t.toNat) ⟨0,rfl,O,Ext.refl _ _,λj x p=>O⟩ ?_;rintro t u ⟨i,rfl,B,e,g⟩;refine cQ (λz=>?_) λy=>?_
 ·have d:i<xs.length:=by omega
  have r:xs[i]?=some xs[i]:=cV d;refine(aH.bO h e).ru r (hf _ _ _ e λA e2=>?_);cases hp:pr xs[i]
  ·refine cB rfl (cP (m:=i+1) O O ⟨⟨i+1,rfl,O,e.trans e2,λj x p b=>?_⟩,O⟩);by_cases e3:j=i
   ·subst e3;rw[r]at b;cases b;exact hp
   ·exact g j x O b
  ·refine cD rfl ?_;have:xs.any pr=true:=ko.2 ⟨_,j7 d,hp⟩;show R (decide ((i:Int)≥0)) _;rw[zJ O,←this];exact hR _ (e.trans e2)
 ·have:xs.any pr=false:=by
   rw[l6];intro x r;obtain⟨j,p⟩:=zQ r;have:=(cW.1 p).1;simp[g j x O p]
  show R (decide ((-1:Int)≥0)) _;rw[show decide ((-1:Int)≥0)=false from rfl,←this];exact hR _ e
theorem JP {c:Nat}{s:Sl}{fr:List Nat}{σ0:Hp}(hb:bX σ0 c [.slice s.a s.len s.cap])(hs:cU s 1 (ints fr) σ0 F)(hl:fr.length<=1000):F9 ⟨271,#[],#[.pointer (some ⟨c,0,none⟩)]⟩ (λx=>!fr.contains x) σ0:=by
 intro x σ' R e hR;refine pd (all := #[.int .i64 (x:Int),.pointer (some ⟨c,0,none⟩)]) (by kernel_rfl) aA ?_;refine Yo.o ?_;unfold Yo.v;refine(e.bT hb id).uy rfl ?_;exact Jq (aH.bO hs e) O x (hR _ (Ext.refl _ _))
theorem DR (h:ib U p q st)(a m:Int)(v:Nat){s:Sl}{fr:List Nat}(hs:cU s 1 (ints fr) U F)(hl:fr.length<=1000){R:aN}(hR:∀σ',Ext (· = q) U σ'->ib σ' p q (V6 st a m v fr)->R (oc st a m fr) σ') :
 Xz.c (aW p) a m v s U R:=by
 refine Xz.o ?_;unfold Xz.v;have n2:=h.n2;have N:=h.lt.2;refine nw (cs:=[.slice s.a s.len s.cap]) λv1 P g H=>?_;have e:=h.bO g;have d:¬(0<=a/\1<=m/\m<=st.length-a)->R 1 v1:=λJ=>by
  have b:Zb st.length a m=false:=by simp only[Zb,←uw];exact zM J
  have e1:oc st a m fr=1:=by simp[oc,b]
  have e2:V6 st a m v fr=st:=by simp[V6,e1]
  have:=hR v1 g.to;rw[e1,e2]at this;exact this e
 refine Ce e (cB rfl (bV.intro ?_));refine cQ (λM=>bV.intro (cD rfl (bV.intro (cD rfl (cD rfl (d O)))))) λM=>?_;refine bV.intro (cQ (λK=>bV.intro (cD rfl (cD rfl (d O)))) λK=>?_);refine aG (e.rS λcap u=>bV.intro (cQ (λA=>cD rfl (d (by simp only at *;omega))) λA=>?_));simp only at A;refine aG (e.rS λcap u=>ar aC aC (cQ (λw=>d (by simp only at *;omega)) λw=>?_));simp only at w;obtain⟨x,rfl⟩:=za (show 0<=a by omega);obtain⟨y,rfl⟩:=za (show 0<=m by omega);have i:x+y<=st.length:=by omega
 have b:Zb st.length (x:Int) (y:Int)=true:=by simp only[Zb,zF,zU];omega
 refine aG (e.rS λcap u=>cP (m:=x+y) O O (iN O aC aC ?_));rw[zB aC];simp only[zX,add_lit,nj,zH];have L:x+y-x=y:=by omega
 rw[L];have E:=e.part (s:=⟨some ⟨q,x,none⟩,y,cap-x⟩) (n:=y) rfl rfl i;refine G5 E aE (JP (s:=s) H (aH.bO hs g) hl) λD e2=>?_;have B:=e.bO e2;have j:((st.drop x).take y).any (λz=>!fr.contains z) = !uk st x y fr:=by
  rw[uk,List.all_eq_not_any_not,Bool.not_not]
 rw[j];cases hA:uk st x y fr
 ·have e1:oc st (x:Int) (y:Int) fr=5:=by simp[oc,b,hA]
  have r:V6 st (x:Int) (y:Int) v fr=st:=by simp[V6,e1]
  have:=hR D (g.to.trans e2.to);rw[e1,r]at this;exact cD rfl (this B)
 ·have e1:oc st (x:Int) (y:Int) fr=0:=by simp[oc,b,hA]
  have r:V6 st (x:Int) (y:Int) v fr=fZ st x (x+y) v:=by simp[V6,e1]
  refine cB rfl (B.jF i v λv3 C G=>?_);have:=hR v3 (g.to.trans (e2.to.trans C));rw[e1,r]at this;exact this G
theorem xW {h:Hp}{b:Nat}{xs:List Nat}{n c:Nat}(hb:bX h b (ints xs))(hn:n=xs.length):cU ⟨some ⟨b,0,none⟩,n,c⟩ 1 (ints xs) h (· = b):=
 hb.gY (o:=0) rfl (by rw[QG];simp[hn]) λj _=>by rw[zH]
theorem LW (h:ib U p q st)(a m:Int){R:aN}(hR:∀σ',Ext (· = q) U σ'->ib σ' p q (V6 st a m 1 [2,3])->R (oc st a m [2,3]) σ'):Xu.c (aW p) a m U R:=by
 refine Xu.o ?_;unfold Xu.v;refine nw (cs:=ints [2,3]) λv i e d=>?_;exact DR (h.bO e) a m 1 (xW d rfl) aA λσ' b g=>hR σ' (e.to.trans b) g
theorem MM (h:ib U p q st)(a m:Int){R:aN}(hR:∀σ',Ext (· = q) U σ'->ib σ' p q (V6 st a m 2 [1])->R (oc st a m [1]) σ'):Xl.c (aW p) a m U R:=by
 refine Xl.o ?_;unfold Xl.v;refine nw (cs:=ints [1]) λv i e d=>?_;exact DR (h.bO e) a m 2 (xW d rfl) aA λσ' b g=>hR σ' (e.to.trans b) g
def yE (st:List Nat)(x:Int):Int:=if 0<=x/\x<st.length then((st.getD x.toNat 0:Nat):Int)else -1
theorem RS (h:ib U p q st)(x:Int){R:aN}(hR:R (yE st x) U):XL.c (aW p) x U R:=by
 refine XL.o ?_;unfold XL.v;have n2:=h.n2;unfold yE at hR;refine Ce h (bV.intro (cB rfl (bV.intro (cQ (λg=>cD rfl ?_) λg=>aG (h.rS λcap i=>cQ (λb=>?_) λb=>?_)))))
 ·rw[zB O]at hR;exact hR
 ·simp only at b;rw[zB O]at hR;exact hR
 ·simp only at b;rw[zC O]at hR;obtain⟨y,rfl⟩:=za (show 0<=x by omega);refine aG (h.rS λcap i=>?_);have d:=h.part (s:=⟨some ⟨q,0,none⟩,st.length,cap⟩) (a:=0) (n:=st.length) rfl rfl O;rw[List.drop_zero,mK]at d;have e:y<st.length:=by omega
  refine d.ru (cV e) ?_;simpa[zP,cV e]using hR
theorem UZ {s:Sl}{vs:List Value}(h:cU s 1 vs U F)(h1:∀v∈vs,dQ v=true)(hl:s.len<=1000000){R:Sl->Hp->Prop}
 (hR:∀s' σ',s'.len=s.len->bK U σ'->bR s' 1 vs σ' (λb=>U.size<=b)->R s' σ'):WC.c s U R:=by
 refine WC.o ?_;unfold WC.v;exact EP h aB rfl h1 aB hl hR
theorem Lr {n:Nat}(h1:16<=n)(h2:n<=1024)(h3:n%16=0){R:Option Addr->Int->Hp->Prop}(hR:∀σ' p q,bK U σ'->U.size<=p->U.size<=q->ib σ' p q (List.replicate n 0)->R (some ⟨p,0,none⟩) 0 σ'):Km.c (n:Int) U R:=by
 refine Km.o ?_;unfold Km.v;refine bV.intro (fR O (bV.intro (fR O (nz aB ?_))));rw[Qg O];have:(((n:Int)%16) != 0)=false:=by
  have:((n:Int)%16)=0:=by omega
  rw[this];rfl
 rw[this];refine cB rfl (mk O O λv j e a=>nw (cs:=[.slice (some ⟨U.size,0,none⟩) n n]) λi d e2 b=>?_);have g:(List.replicate n [Value.int .i64 0]).flatten=ints (List.replicate n 0):=by
  have:[Value.int .i64 0]=ints [0]:=rfl;rw[this];clear a hR
  induction n with
  | zero=>rfl
  | succ n ih=>simp[vF,ints]
 rw[g]at a;refine hR _ _ _ (e.trans e2) O (zD _) ⟨⟨n,by simp,by simpa using b⟩,⟨[],by simpa using e2.bT a id⟩,O,by simpa using h1,by simpa using h2,by simpa using h3⟩
end Go.Ar
namespace Go.Proofs
open Go.Vc
set_option maxRecDepth 100000
def Zx.h:Hn:=.q .o1 (.q (.q .o3 .aJ) (.q (.cR (.tail 10 (RI.ops 10) [.op])) .l))
def Zx.v (a:R2)(b:Hp)(c:Int->Int->Hp->Prop):Prop:=aV #[.I 0,.I 0] 251 b λd e=>Yk.c a e λf g=>If (!f) (aR d 0 (.I 0) g λh=>aR d 1 (.I 0) h λi=>aQ d 0 i λj=>aQ d 1 i λk=>c j k i) (bD a 0 g λm=>bU a λn=>bM ((n.add 1).add 1) g λo=>aR d 0 (.I m) g λp=>aR d 1 (.I o) p λq=>aQ d 0 q λr=>aQ d 1 q λs=>c r s q)
theorem Zx.o {a b c}(d:Zx.v a b c):Zx.c a b c:=Wa Tryz.func179 (x:=Zx.h) (R0 d)
def Ye.h:Hn:=.q .o1 (.q (.q .o3 .aK) (.q .o6 .l))
def Ye.v (a:R2)(b:Hp)(c:aN):Prop:=Yk.c a b λd e=>If (!d) (c 0 e) (bE a 4 e λg=>c ((g.len:Nat):Int) e)
theorem Ye.o {a b c}(d:Ye.v a b c):Ye.c a b c:=Wa Tryz.func182 (x:=Ye.h) (R0 d)
def Yk.h:Hn:=.q .o1 (.q (.cR (.seq [.op,.op,.op,.cX true 6 (RI.ops 6),.op])) .l)
def Yk.v (a:R2)(b:Hp)(c:aO):Prop:=bV (λd e=>c d e) λf=>If (!a.isNone) (bE a 4 b λh=>f (decide (((h.len:Nat):Int)>0)) b) (f false b)
theorem Yk.o {a b c}(d:Yk.v a b c):Yk.c a b c:=Wa Tryz.func242 (x:=Yk.h) (R0 d)
def Ko.h:Hn:=.q .o3 (.q .o7 (.q (.q (.cR (.seq [.op,.op,.op,.cX false 2 [.op,.op],.op,.cX false 5 (RI.ops 5)])) .aJ) (.q (.cR (.held true [] (.tk [0,1,2] (.all [(3,.take 4 (.all [(5,.take 6 (.take 7 (.done)))]))])))) .l)))
def Ko.v (a b c d:Int)(e:Hp)(f:Option Addr->Int->Hp->Prop):Prop:=aV #[.I b,.I c,.I d] 137 e λg h=>aQ g 0 h λi=>aQ g 1 h λj=>aQ g 2 h λk=>Zp.c i j k h λl m n=>bV (λo p=>bV (λq r=>If q (f none 1 r) (eI r λs=>aS s g 0 λt=>aS s g 1 λu=>aS s g 2 λv=>Mk l l 8 3 [.I 0] r λw x=>And (s x) <| aV #[.I a,.I t,.I u,.I v,.slice w.a w.len w.cap,.I 0] 322 x λy z=>And (s z) <| f (some y) 0 z)) λaa=>If o (aa true p) (aQ g 1 p λab=>bL (1024-ab) λac=>aa (decide (a>ac)) p)) λad=>If (m != 0) (ad true n) (ad (decide (a<0)) n)
theorem Ko.o {a b c d e f}(g:Ko.v a b c d e f):Ko.c a b c d e f:=Wa Tryz.func257 (x:=Ko.h) (R0 g)
def Zn.h:Hn:=.q .o1 (.q .o8 (.q (.k (.q .o3 (.c .aL (.q .o9 .aK)))) (.q .o4 .aM)))
def Zn.v (a:R2)(b:Int)(c:Hp)(d:aN):Prop:=X5.c a b c λe f g=>If (f != 0) (d f g) (bE a 4 g λi=>Ix i.a i.len e 1 λj=>bM j g λk=>If (k==0) (d 9 g) (aV #[.I e] 3 g λl m=>YV.c a 0 ⟨some l,1,1⟩ m λn=>d 0 n))
theorem Zn.o {a b c d}(e:Zn.v a b c d):Zn.c a b c d:=Wa Tryz.func278 (x:=Zn.h) (R0 e)
def Zk.h:Hn:=.q .o2 (.q (.q .o3 .aJ) (.q .o6 (.q (.q .o2 .aJ) (.q .o4 (.q .o5 .l)))))
def Zk.v (a:R2)(b:Hp)(c:Int->Int->Hp->Prop):Prop:=Yk.c a b λd e=>If (!d) (c 0 5 e) (bE a 4 e λg=>WD.c g 0 e λh i=>If (h<0) (c 0 6 i) (aV #[.I h] 3 i λj k=>YV.c a 1 ⟨some j,1,1⟩ k λl=>Yf.c a h l λm n=>c m 0 n))
theorem Zk.o {a b c}(d:Zk.v a b c):Zk.c a b c:=Wa Tryz.func283 (x:=Zk.h) (R0 d)
def XR.h:Hn:=.q .o2 (.q (.q .o3 .aJ) (.q .o5 (.q (.q (.cR (.gA false [] [(32,.one .b)] (.take 0 (.take 1 (.all [(2,.take 3 (.take 4 (.split 18 (.take 5 (.take 6 (.take 7 (.take 8 (.take 9 (.take 10 (.take 11 (.take 12 (.take 13 (.take 14 (.take 15 (.take 16 (.take 17 (.take 18 (.done))))))))))))))) (.take 5 (.take 6 (.take 7 (.take 8 (.take 11 (.take 12 (.take 13 (.take 14 (.all [(9,.take 10 (.all [(15,.take 16 (.take 17 (.take 18 (.done))))])),(15,.all [(9,.take 10 (.take 16 (.take 17 (.take 18 (.done)))))])]))))))))))))]))))) .aJ) (.q .o9 .l))))
def XR.v (a:R2)(b:Int)(c:Hp)(d:Int->Int->Hp->Prop):Prop:=Yk.c a c λe f=>If (!e) (d 0 5 f) (Yf.c a 0 f λg h=>bL (b-g) λi=>Jn [.b] (λ(j:Bool) k=>If j (d 0 8 k) (bU a λl=>bM ((l.add 1).add 0) k λm=>Nz m<|bL (i.tdiv m) λn=>d n 0 k)) λo=>Yf.c a 0 h λp q=>If (b<p) (o true q) (bU a λr=>bU a λs=>(aX r 4 q λt=>bM ((s.add 1).add 0) q λu=>bL (((t.len:Nat):Int)*u) λv=>o (decide (i≥v)) q) ∧ (bM ((s.add 1).add 0) q λw=>aX r 4 q λx=>bL (((x.len:Nat):Int)*w) λy=>o (decide (i≥y)) q)))
theorem XR.o {a b c d}(e:XR.v a b c d):XR.c a b c d:=Wa Tryz.func290 (x:=XR.h) (R0 e)
def Yc.h:Hn:=.q .o2 (.q .o8 (.q (.q .o2 (.c (.q .o3 .l) .l)) (.q .gH .l)))
def Yc.v (a:R2)(b:Int)(c:Hp)(d:Bool->Int->Hp->Prop):Prop:=X5.c a b c λe f g=>If (f != 0) (d false f g) (bE a 4 g λi=>Ix i.a i.len e 1 λj=>bM j g λk=>d (k==1) 0 g)
theorem Yc.o {a b c d}(e:Yc.v a b c d):Yc.c a b c d:=Wa Tryz.func292 (x:=Yc.h) (R0 e)
def X5.h:Hn:=.q .o2 (.q .o8 (.q (.q (.cR (.seq [.op,.op,.op,.cX true 5 (RI.ops 5)])) .aJ) (.q .o4 .l)))
def X5.v (a:R2)(b:Int)(c:Hp)(d:Int->Int->Hp->Prop):Prop:=XR.c a b c λe f g=>bV (λh i=>If h (d 0 8 i) (d e f i)) λj=>If (f==0) (Yf.c a e g λk l=>j (k != b) l) (j false g)
theorem X5.o {a b c d}(e:X5.v a b c d):X5.c a b c d:=Wa Tryz.func304 (x:=X5.h) (R0 e)
def YV.h:Hn:=.q .o3 (.k (.loop [(10,.I)] (.q .o1 (.q (.c .l .l) (.q (.k (.q .o3 (.q (.cR (.tail 16 (RI.ops 16) [.op])) .o8))) .o2)))))
def YV.v (a:R2)(b:Int)(c:Sl)(d:Hp)(e:aP):Prop:=Ys [bN] (λf=>f 0 d) λg (h:Int) i=>If (h<((c.len:Nat):Int)) (Ix c.a c.len h 1 λj=>bM j i λk=>bD a 5 i λm=>bE a 4 i λo=>Ix o.a o.len k 1 λp=>bM p i λq=>bL (b-q) λr=>bL (m+r) λs=>bU a λt=>aR t 5 (.I s) i λu=>bE a 4 u λw=>Ix w.a w.len k 1 λx=>dN x (.I b) u λy=>bL (h+1) λz=>g z y) (e i)
theorem YV.o {a b c d e}(f:YV.v a b c d e):YV.c a b c d e:=Wa Tryz.func305 (x:=YV.h) (R0 f)
def Yf.h:Hn:=.q .o1 (.q (.oq 14) .l)
def Yf.v (a:R2)(b:Int)(c:Hp)(d:aN):Prop:=bD a 0 c λf=>bL (f*256) λg=>bU a λh=>bM ((h.add 1).add 0) c λi=>bL (b*i) λj=>bL (g+j) λk=>d k c
theorem Yf.o {a b c d}(e:Yf.v a b c d):Yf.c a b c d:=Wa Tryz.func306 (x:=Yf.h) (R0 e)
end Go.Proofs
namespace Go.Ar
open Go Go.Vc Go.Proofs
variable {U:Hp}{F:Rg}{p q:Nat}{c:bZ}{s:cF}
def nt (tk:List Bool):List Nat:=tk.map λb=>if b then 1 else 0
theorem wj (tk:List Bool):(nt tk).length=tk.length:=by simp[nt]
theorem HL {tk:List Bool}{i:Nat}{b:Bool}(h:tk[i]?=some b):(nt tk)[i]?=some (if b then 1 else 0):=by simp[nt,h]
theorem N9 (tk:List Bool)(i:Nat)(b:Bool):nt (tk.set i b)=(nt tk).set i (if b then 1 else 0):=by simp[nt,vX]
structure gV (U:Hp) (p q:Nat) (c:bZ) (s:cF):Prop where
 hd:∃cap,c.n<=cap/\bX U p [.int .i64 (s.st:Int),.int .i64 (c.size:Int),.int .i64 (c.aF:Int),.int .i64 (c.batch:Int),.slice (some ⟨q,0,none⟩) c.n cap,.int .i64 (s.many:Int)]
 row:∃rest,bX U q (ints (nt s.tk)++rest)
 ne:p≠q
 len:s.tk.length=c.n
 ok:c.ok
 fit:s.st+c.aF<=1024
theorem gV.bS {σ':Hp}(h:gV U p q c s)(e:Ext F U σ')(hp:¬F p)(hq:¬F q):gV σ' p q c s:=
 ⟨by obtain⟨c,a,b⟩:=h.hd;exact⟨c,a,e.bT b hp⟩,by obtain⟨r,a⟩:=h.row;exact⟨r,e.bT a hq⟩,h.ne,h.len,h.ok,h.fit⟩
theorem gV.bO {σ':Hp}(h:gV U p q c s)(e:bK U σ'):gV σ' p q c s:=h.bS e id id
theorem gV.lt (h:gV U p q c s):p<U.size/\q<U.size:=by
 obtain⟨_,_,a⟩:=h.hd;obtain⟨_,b⟩:=h.row;exact⟨a.lt,b.lt⟩
theorem gV.rS (h:gV U p q c s){K:Sl->Prop}(hK:∀cap,c.n<=cap->K ⟨some ⟨q,0,none⟩,c.n,cap⟩):jq (Addr.add ⟨p,0,none⟩ 4) U K:=by
 obtain⟨d,a,b⟩:=h.hd;exact b.rS rfl (hK d a)
theorem gV.rI (h:gV U p q c s){i:Nat}{x:Int}(hx:∀a b:Value,([.int .i64 (s.st:Int),.int .i64 (c.size:Int),.int .i64 (c.aF:Int),.int .i64 (c.batch:Int),a,.int .i64 (s.many:Int)]:List Value)[0+i]?=some (.int .i64 x)){K:Int->Prop}(hK:K x):gp .i64 (Addr.add ⟨p,0,none⟩ i) U K:=by
 obtain⟨g,e,d⟩:=h.hd;exact d.rI (hx _ .nilFunc) hK
theorem gV.eY (h:gV U p q c s){i j:Nat}{x:Int}(hx:∀a b:Value,([.int .i64 (s.st:Int),.int .i64 (c.size:Int),.int .i64 (c.aF:Int),.int .i64 (c.batch:Int),a,.int .i64 (s.many:Int)]:List Value)[0+i+j]?=some (.int .i64 x)){K:Int->Prop}(hK:K x):gp .i64 (Addr.add (Addr.add ⟨p,0,none⟩ i) j) U K:=by
 obtain⟨g,e,d⟩:=h.hd;exact d.eY (hx _ .nilFunc) hK
theorem gV.kY (h:gV U p q c s)(cap:Nat):cU ⟨some ⟨q,0,none⟩,c.n,cap⟩ 1 (ints (nt s.tk)) U (· = q):=by
 obtain⟨r,a⟩:=h.row;refine a.gY (o:=0) rfl (by rw[QG,wj,h.len];simp) λj b=>?_;rw[zH,ze b]
theorem Gi (h:gV U p q c s){R:aO}(hR:R true U):Yk.c (aW p) U R:=by
 refine Yk.o ?_;unfold Yk.v;refine bV.intro (cD rfl (aG (h.rS λcap _=>?_)));have:=h.ok.q8;rw[zJ aC];exact hR
theorem IG (h:gV U p q c s){R:aN}(hR:R (c.n:Int) U):Ye.c (aW p) U R:=by
 refine Ye.o ?_;unfold Ye.v;exact Gi h (cB rfl (aG (h.rS λcap _=>hR)))
theorem xB (h:gV U p q c s)(i:Nat)(hi:i<=1000){R:aN}(hR:R ((at_ c s i:Nat):Int) U):Yf.c (aW p) (i:Int) U R:=by
 refine Yf.o ?_;unfold Yf.v;have a:=h.ok;unfold bZ.ok at a;have:=h.fit;have b:i*c.size<=1000*512:=lV hi O;refine aG (h.rI (λ_ _=>rfl) (cP (m:=s.st*256) aA O (aG (h.eY (λ_ _=>rfl) ?_))));exact cP (m:=i*c.size) aA O (cP (m:=at_ c s i) (by simp[at_]) (by unfold at_;omega) hR)
theorem yR (h:gV U p q c s)(x:Int)(hx2:x<=9223372036854775807){R:Int->Int->Hp->Prop}(h1:∀i,idx c s x=some i->R (i:Int) 0 U)(h0:idx c s x=none->R 0 8 U):XR.c (aW p) x U R:=by
 refine XR.o ?_;unfold XR.v;have z:=h.ok;unfold bZ.ok at z;have C:=h.ok.kx;have w:=h.fit;have a:=h.len;have E:c.n*c.size<=128*512:=lV C O;refine Gi h (cB rfl (xB h 0 O ?_));have r:at_ c s 0=s.st*256:=by simp[at_]
 rw[r];refine tT ?_;refine Jn.intro (xB h 0 O ?_);rw[r];refine cQ (λB=>cD rfl (h0 ?_)) λA=>?_
 ·unfold idx;rw[zC O]
 ·rw[Ul O O];obtain⟨y,D⟩:=za (show 0<=x by omega);have key:If (decide (x-((s.st*256:Nat):Int)≥((c.n*c.size:Nat):Int))) (R 0 8 U)
   (bU (some ⟨p,0,none⟩) λg=>gp .i64 ((g.add 1).add 0) U λd=>Nz d<|Ar .i64 ((x-((s.st*256:Nat):Int)).tdiv d) λe=>R e 0 U):=by
   refine cQ (λu=>h0 ?_) λj=>aG (h.eY (λ_ _=>rfl) (nz O ?_))
   ·unfold idx;rw[a,zC O]
   ·have:idx c s x=some ((x-((s.st*256:Nat):Int)).toNat/c.size):=by unfold idx;rw[a,zB O]
    refine cP (m:=(x-((s.st*256:Nat):Int)).toNat/c.size) ?_ ?_ (h1 _ this)
    ·rw[XP O];have:x-((s.st*256:Nat):Int)=(((x-((s.st*256:Nat):Int)).toNat:Nat):Int):=by omega
     rw[this];simp
    ·have:=Nat.div_le_self (x-((s.st*256:Nat):Int)).toNat c.size;omega
  refine aG (aG ⟨h.rS λcap b=>h.eY (λ_ _=>rfl) (cP (m:=c.n*c.size) aA O key),h.eY (λ_ _=>rfl) (h.rS λcap b=>cP (m:=c.n*c.size) aA O key)⟩)
theorem FT (h:gV U p q c s)(x:Int)(hx2:x<=9223372036854775807){R:Int->Int->Hp->Prop}(h1:∀i,obj c s x=some i->i<c.n->R (i:Int) 0 U)(h0:obj c s x=none->R 0 8 U):X5.c (aW p) x U R:=by
 refine X5.o ?_;unfold X5.v;have g:=h.ok;unfold bZ.ok at g;have j:=h.ok.kx;refine yR h x hx2 (λi b=>bV.intro (cD rfl ?_)) λb=>bV.intro (cB rfl (cB rfl (h0 (by unfold obj;rw[b]))));have a:=((VS O).1 b).2.2;rw[h.len]at a;refine xB h i O (cO (λd=>h0 ?_) λd=>h1 i ?_ a)
 ·have:¬x=((at_ c s i:Nat):Int):=λe=>by rw[e]at d;simp at d
  unfold obj;rw[b];simp[this]
 ·have:x=((at_ c s i:Nat):Int):=by
   have:((at_ c s i:Nat):Int)=x:=by simpa using d
   exact this.symm
  unfold obj;rw[b];simp[this]
def cF.is (s:cF)(i:Nat):Bool:=s.tk.getD i false
theorem cF.kK {s:cF}{i:Nat}(hi:i<s.tk.length):s.tk[i]?=some (s.is i):=by
 simp[cF.is,zP,cV hi]
theorem Ju (h:gV U p q c s)(x:Int)(hx2:x<=9223372036854775807){R:Bool->Int->Hp->Prop}(h1:∀i,obj c s x=some i->R (s.is i) 0 U)(h0:obj c s x=none->R false 8 U):Yc.c (aW p) x U R:=by
 refine Yc.o ?_;unfold Yc.v;refine FT h x hx2 (λi b a=>cB rfl (aG (h.rS λcap d=>?_))) λb=>cD rfl (h0 b);rw[←h.len]at a;refine(h.kY cap).ru (HL (cF.kK a)) ?_;have:=h1 i b;cases hb:s.is i<;>rw[hb]at this<;>simpa using this
theorem Gg {s:cF}{i:Nat}(hi:i<s.tk.length)(v:Bool):((s.put i v).many:Int)=s.many+((if v then 1 else 0)-(if s.is i then 1 else 0)):=by
 have key:∀(l:List Bool) (i:Nat) (b:Bool),l[i]?=some b->(((l.set i v).count true:Nat):Int)=(l.count true:Nat)+((if v then 1 else 0)-(if b then 1 else 0)):=by
  intro l
  induction l with
  | nil=>intro i b h;simp at h
  | cons x l ih=>
   intro i b h;cases i with
   | zero=>
    simp at h;subst h;cases v<;>cases x<;>simp[List.count_cons]<;>omega
   | succ i=>
    have:=ih i b (by simpa using h);simp only[rE,List.count_cons]
    push_cast
    omega
 exact key s.tk i _ (cF.kK hi)
theorem Bm (s:cF):s.many<=s.tk.length:=List.count_le_length
theorem CE (h:gV U p q c s){i:Nat}(hi:i<c.n)(v:Bool){sl:Sl}{G:Rg}(hs:cU sl 1 (ints [i]) U G){R:aP}(hR:∀σ',Ext (λb=>b=p\/b=q) U σ'->gV σ' p q c (s.put i v)->R σ') :
 YV.c (aW p) (if v then 1 else 0) sl U R:=by
 refine YV.o ?_;unfold YV.v;have N:sl.len=1:=hs.oK;have Q:=h.ok.kx;have H:=h.len;have V:=Bm s;have B:i<s.tk.length:=by omega
 have d:=Gg B v;refine Z6 (a:=bN) (λ(t:Int) C=>t=0/\C=U\/t=1/\Ext (λb=>b=p\/b=q) U C/\gV C p q c (s.put i v)) (λt _=>1-t.toNat) (.inl ⟨rfl,rfl⟩) ?_;rintro t C (⟨rfl,rfl⟩|⟨rfl,e,L⟩)
 ·refine lH O ?_;refine hs.ru (i:=0) (x:=i) rfl (aG (h.rI (λ_ _=>rfl) (aG (h.rS λcap E=>?_))));refine(h.kY cap).ru (HL (cF.kK B)) ?_;have M:(0:Int)<=(if v then 1 else 0)/\(if v then(1:Int)else 0)<=1:=by cases v<;>simp
  have K:(0:Int)<=((if s.is i then 1 else 0:Nat):Int)/\((if s.is i then 1 else 0:Nat):Int)<=1:=by cases s.is i<;>simp
  have g:((if s.is i then 1 else 0:Nat):Int)=(if s.is i then 1 else 0):=by cases s.is i<;>rfl
  refine ar O O (ar O O (aG ?_));obtain⟨J,D,hd⟩:=h.hd;obtain⟨r,w⟩:=h.row;refine hd.s1 aA λS A z=>?_;have j:=Ws A w (Ne.symm h.ne);refine aG (z.rS rfl (ix O aC ?_));rw[add_lit];refine j.s0 (by simp[QG,wj];omega) λP y u=>?_;refine cP (m:=1) O O ⟨.inr ⟨rfl,?_,?_⟩,by decide⟩
  ·exact(Ext.eJ (F:=λb=>b=p\/b=q) A (.inl rfl)).trans (Ext.eJ y (.inr rfl))
  ·refine⟨⟨J,D,?_⟩,⟨r,?_⟩,h.ne,by simp[cF.put,h.len],h.ok,h.fit⟩
   ·have:=Ws y z h.ne;rw[d,←g];exact this
   ·have e:(ints (nt s.tk)++r).set (0+(i:Int).toNat*1) (.int .i64 (if v then 1 else 0))=ints (nt (s.put i v).tk)++r:=by
     rw[List.set_append_left _ _ (by simp[QG,wj];omega)]
     congr 1
     simp only[cF.put,N9,ints,vX];have:(0+(i:Int).toNat*1)=i:=by omega
     rw[this]
     congr 1
     cases v<;>rfl
    rw[e]at u;exact u
 ·exact fR O (hR _ e L)
theorem NA (h:gV U p q c s){x:Int}{i:Nat}(hx2:x<=9223372036854775807)(ho:obj c s x=some i)(ht:s.is i=true){R:aN}(hR:∀σ',Ext (λb=>b=p\/b=q) U σ'->gV σ' p q c (s.put i false)->R 0 σ') :
 Zn.c (aW p) x U R:=by
 refine Zn.o ?_;unfold Zn.v;refine FT h x hx2 (λj r a=>cB rfl (aG (h.rS λcap g=>?_))) λm=>by rw[ho]at m;cases m
 rw[ho]at r;cases r;have d:i<s.tk.length:=by rw[h.len];exact a
 refine(h.kY cap).ru (HL (cF.kK d)) ?_;rw[ht];refine cB rfl (nw (cs:=ints [i]) λv A e w=>?_);have z:=h.lt;exact CE (h.bO e) a false (xW w rfl) λσ' u y=>hR σ' (e.to.trans u) y
theorem OI (h:gV U p q c s){i:Nat}(hlow:low s=some i){R:Int->Int->Hp->Prop}(hR:∀σ',Ext (λb=>b=p\/b=q) U σ'->gV σ' p q c (s.put i true)->R ((at_ c s i:Nat):Int) 0 σ') :
 Zk.c (aW p) U R:=by
 refine Zk.o ?_;unfold Zk.v;have D:=h.ok.kx;have a:=nm.1 hlow;obtain⟨m,C,B⟩:=a;have g:s.tk[i]=false:=by simpa using C
 refine Gi h (cB rfl (aG (h.rS λcap z=>?_)));refine Er (h.kY cap) (by simp[wj,h.len];omega) 0 (λj u d=>?_) λd=>?_
 ·have r:j<s.tk.length:=by
   have:=(cW.1 u).1
   rwa [wj]at this
  have x:j=i:=by
   rcases pF j i with h1|h1|h1
   ·have:=B j h1;rw[HL (cV r)]at u;have:s.tk[j]=true:=by simpa using this
    simp[this]at u
   ·exact h1
   ·exact absurd (by rw[HL (cV m),g];rfl) (d i h1)
  subst x;rw[h.len]at m;refine fR O (nw (cs:=ints [j]) λv E e w=>?_);refine CE (h.bO e) m true (xW w rfl) λσ' A y=>xB y j O (hR σ' (e.to.trans A) y)
 ·exfalso;apply d;exact zG (i:=i) (by rw[HL (cV m),g];rfl)
theorem Sc (h:gV U p q c s){R:Int->Int->Hp->Prop}(hR:∀σ',bK U σ'->R (s.st:Int) (c.aF:Int) σ'):Zx.c (aW p) U R:=by
 refine Zx.o ?_;unfold Zx.v;refine nw (cs:=[.int .i64 0,.int .i64 0]) λv w e r=>?_;have j:=h.bO e;refine Gi j (cB rfl (aG (j.rI (λ_ _=>rfl) (aG (j.eY (λ_ _=>rfl) ?_)))));refine r.s1 aA λu b g=>g.s1 aA λv3 d a=>?_;refine a.rI rfl (a.rI rfl (hR _ ?_));exact Ext.fresh (Ext.fresh e (Ext.eJ (F:=(· = U.size)) b rfl) λi m=>O) (Ext.eJ (F:=(· = U.size)) d rfl) λi m=>by omega
theorem Pg (n:Nat):(List.replicate n [Value.int .i64 0]).flatten=ints (List.replicate n 0):=by
 induction n with
 | zero=>rfl
 | succ n ih=>simp only[vF,wY,ih];rfl
theorem Iu (hc:c.ok){st:Nat}(hf:st+c.aF<=1024){R:Option Addr->Int->Hp->Prop}(hR:∀σ' p q,bK U σ'->U.size<=p->U.size<=q->gV σ' p q c ⟨st,List.replicate c.n false⟩->R (some ⟨p,0,none⟩) 0 σ') :
 Ko.c (st:Int) c.size c.aF c.batch U R:=by
 refine Ko.o ?_;unfold Ko.v;have D:=hc;unfold bZ.ok at D;have M:=hc.kx;refine nw (cs:=[.int .i64 c.size,.int .i64 c.aF,.int .i64 c.batch]) λv P e x=>?_;refine x.rI rfl (x.rI rfl (x.rI rfl (D3 _ _ _ (λg C e1 e2 G B z=>?_) λu=>?_)))
 case refine_2=>rw[(DK c).2 hc]at u;cases u
 have:g=c:=by
  obtain⟨a,b,d⟩:=c;obtain⟨L,N,J⟩:=g;simp only at e1 e2 G
  congr 1<;>omega
 subst this;have i:=z.bT x id;refine bV.intro (cB rfl (bV.intro (fR O (i.rI rfl (cP (m:=1024-g.aF) O O (fR O ?_))))));refine⟨λy=>bX y U.size [.int .i64 g.size,.int .i64 g.aF,.int .i64 g.batch],i,⟨_,λy w=>by rw[add_lit,w.cell];rfl,⟨_,λy w=>by rw[add_lit,w.cell];rfl,⟨_,λy w=>by rw[add_lit,w.cell];rfl,?_⟩⟩⟩⟩;refine mk O O λK F r s=>⟨r.bT i id,nw (cs:=[.int .i64 (st:Int),.int .i64 g.size,.int .i64 g.aF,.int .i64 g.batch,.slice (some ⟨B.size,0,none⟩) g.n g.n,.int .i64 0]) λv3 H j A=>⟨(r.trans j).bT i id,?_⟩⟩;rw[Pg]at s;have E:=z.1;refine hR _ _ _ (((e.trans z).trans r).trans j) O (show U.size<=B.size by omega) ⟨⟨g.n,zD _,?_⟩,⟨[],?_⟩,O,by simp,hc,hf⟩
 ·have:cF.many ⟨st,List.replicate g.n false⟩=0:=by simp[cF.many,xR]
  rw[this];exact A
 ·have:nt (List.replicate g.n false)=List.replicate g.n 0:=by simp[nt]
  rw[this,kP];exact j.bT s id
end Go.Ar
namespace Go.Proofs
open Go.Vc
set_option maxRecDepth 100000
def XH.h:Hn:=.q .o1 (.q (.q .o3 .aK) (.q .o1 (.q .gH .aL)))
def XH.v (a:R2)(b:Hp)(c:Sl->Hp->Prop):Prop:=WG.c a b λd e=>If (!d) (c ⟨none,0,0⟩ e) (aV #[.slice none 0 0] 181 e λf g=>bE a 3 g λi=>We.c i ⟨223,#[],#[.pointer (some f)]⟩ g λj k=>bU a λl=>aR l 3 (.slice j.a j.len j.cap) k λm=>jq f m λn=>c n m)
theorem XH.o {a b c}(d:XH.v a b c):XH.c a b c:=Wa Tryz.func166 (x:=XH.h) (R0 d)
def WG.h:Hn:=.q .o1 (.q (.cR (.seq [.op,.op,.op,.cX true 6 (RI.ops 6),.op])) .l)
def WG.v (a:R2)(b:Hp)(c:aO):Prop:=bV (λd e=>c d e) λf=>If (!a.isNone) (bU a λg=>bM ((g.add 0).add 0) b λh=>f (decide (h>0)) b) (f false b)
theorem WG.o {a b c}(d:WG.v a b c):WG.c a b c:=Wa Tryz.func178 (x:=WG.h) (R0 d)
def Z4.h:Hn:=.q .o3 (.q (.q .o7 (.q .o2 .aJ)) (.q .o5 .l))
def Z4.v (a b c:Int)(d:Hp)(e:Option Addr->Int->Hp->Prop):Prop:=aV #[.I a,.I b,.I c] 137 d λf g=>aQ f 0 g λh=>aQ f 1 g λi=>aQ f 2 g λj=>Zp.c h i j g λk l m=>If (l != 0) (e none 1 m) (aQ f 0 m λn=>aQ f 1 m λo=>aQ f 2 m λp=>aV #[.I n,.I o,.I p,.slice none 0 0] 257 m λq r=>e (some q) 0 r)
theorem Z4.o {a b c d e}(f:Z4.v a b c d e):Z4.c a b c d e:=Wa Tryz.func199 (x:=Z4.h) (R0 f)
def W4.h:Hn:=.q .o2 (.q (.k (.q .o4 (.c .aL (.q .o3 .aJ)))) (.q .o1 (.q (.k (.loop [(6,.one .s)] (.q (.q .o4 (.c .l .l)) (.k (.q .o7 (.q (.q .o2 (.c .l .l)) .o5)))))) (.q .o3 .l))))
def W4.v (a:R2)(b:Int)(c:Hp)(d:Sl->Int->Hp->Prop):Prop:=WG.c a c λe f=>If (!e) (d ⟨none,0,0⟩ 5 f) (If (b<0) (d ⟨none,0,0⟩ 1 f) (Ys [.s] (λg=>g ⟨none,0,0⟩ f) λh (i:Sl) j=>If (((i.len:Nat):Int)<b) (YD.c a j λk l m=>If (!l) (d i 0 m) (aV #[.I k] 3 m λn o=>App i 1 8 3 [.I 0] ⟨some n,1,1⟩ o λp q=>h p q)) (d i 0 j)))
theorem W4.o {a b c d}(e:W4.v a b c d):W4.c a b c d:=Wa Tryz.func208 (x:=W4.h) (R0 e)
def YH.h:Hn:=.q .o1 (.q (.q .o3 .aK) (.q (.o 11) (.q (.q .o2 .aJ) (.q (.q .o6 (.k (.loop [(31,.I)] (.q .o1 (.q (.c .l .l) (.q (.k (.q .o4 (.q (.oq 17) .aK))) .o2)))))) (.q (.o 11) (.q (.o 15) .aM))))))
def YH.v (a:R2)(b:Int)(c:Hp)(d:aN):Prop:=WG.c a c λe f=>If (!e) (d 5 f) (bU a λg=>bM ((g.add 0).add 0) f λh=>bM ((g.add 0).add 1) f λi=>bM ((g.add 0).add 2) f λj=>Ko.c b h i j f λk l m=>If (l != 0) (d l m) (bE a 3 m λo=>Ys [bN] (λp=>p 0 m) λq (r:Int) s=>If (r<((o.len:Nat):Int)) (Ix o.a o.len r 3 λt=>aQ t 0 s λu=>aQ t 1 s λv=>aY t 2 s λw=>aV #[.I 0,.I 0,.pointer none] 262 s λx y=>aR x 0 (.I u) y λz=>aR x 1 (.I v) z λaa=>aR x 2 (.pointer w) aa λab=>bM ((x.add 0).add 1) ab λac=>bM ((x.add 0).add 1) ab λad=>bL ((if b>ac then b else ac)-(if b<ad then b else ad)) λae=>bU a λaf=>bM ((af.add 0).add 1) ab λag=>If (ae<ag) (d 9 ab) (bL (r+1) λah=>q ah ab)) (bE a 3 s λaj=>Wb.c aj b ⟨259,#[],#[]⟩ s λak al am=>bE a 3 am λao=>aV #[.I 0,.I b,.pointer k] 262 am λap aq=>Wg.c ao ak ⟨some ap,1,1⟩ aq λar au=>bU a λav=>aR av 3 (.slice ar.a ar.len ar.cap) au λaw=>d 0 aw)))
theorem YH.o {a b c d}(e:YH.v a b c d):YH.c a b c d:=Wa Tryz.func210 (x:=YH.h) (R0 e)
def XN.h:Hn:=.q .o2 (.kh [] (.q .o4 (.c (.cR (.held true [6] (.tk [0,1,2] (.all [(3,.all [(4,.all [(5,.all [(6,.done)])])])])))) .l)) (.q .o5 .l))
def XN.v (a b:Int)(c:R2)(d:Addr)(e:Hp)(f:aO):Prop:=aV #[.I a,.I b,.pointer c] 262 e λg h=>Jn [] (λi=>bM ((g.add 0).add 0) i λj=>f (j==0) i) λk=>bM ((g.add 0).add 0) h λl=>If (l==0) (eI h λm=>gE m .s d λ(n:Sl)=>aU m g 2 λo=>Zx.c o h λp q r=>And (m r) <| aV #[.I p,.I q] 251 r λs t=>And (m t) <| App n 2 16 251 [.I 0,.I 0] ⟨some s,1,1⟩ t λu v=>And (m v) <| dN d (.slice u.a u.len u.cap) v λw=>k w) (k h)
theorem XN.o {a b c d e f}(g:XN.v a b c d e f):XN.c a b c d e f:=Wa Tryz.func223 (x:=XN.h) (R0 g)
def YG.h:Hn:=.q .o2 (.q (.q .o3 .aJ) (.q .o1 (.q (.q .o3 (.k (.loop [(6,.one .b),(19,.I)] (.q .o1 (.q (.c .l .l) (.q (.k (.q .o5 (.q .o8 (.q (.q .o2 (.c (.q .o3 .l) .l)) (.cR (.seq [.op,.op,.cX false 2 [.op,.op],.op,.cX false 5 (RI.ops 5),.op])))))) .o2)))))) (.q (.q .o1 .aJ) (.q (.q .o3 (.k (.loop [(49,.I)] (.q .o1 (.q (.c .l .l) (.q (.k (.q .o3 (.q .o4 (.q .o6 .gH)))) .o2)))))) (.q .o4 .l))))))
def YG.v (a:R2)(b:Sl)(c:Hp)(d:Sl->Int->Hp->Prop):Prop:=WG.c a c λe f=>If (!e) (d ⟨none,0,0⟩ 5 f) (Ys [.b,bN] (λg=>g false 0 f) λh (i:Bool) (j:Int) k=>If (j<((b.len:Nat):Int)) (Ix b.a b.len j 1 λl=>bM l k λm=>WZ.c a m k λn o p=>If (o != 0) (d ⟨none,0,0⟩ o p) (bV (λq r=>bV (λs t=>bL (j+1) λu=>h s u t) λv=>If q (v true r) (eX b 1 0 j (b.cap:Nat) λw=>Wp.c w m r λx y=>v x y)) λz=>If i (z true p) (z (!n) p))) (If i (d ⟨none,0,0⟩ 9 k) (Ys [bN] (λaa=>aa 0 k) λab (ac:Int) ad=>If (ac<((b.len:Nat):Int)) (Ix b.a b.len ac 1 λae=>bM ae ad λaf=>XF.c a af ad λag ah=>bF ag 2 ah λaj=>Zn.c aj af ah λak al=>bU ag λam=>bM ((am.add 0).add 0) al λan=>bL (an-1) λao=>bU ag λap=>dN ((ap.add 0).add 0) (.I ao) al λaq=>bL (ac+1) λar=>ab ar aq) (XH.c a ad λau av=>d au 0 av))))
theorem YG.o {a b c d}(e:YG.v a b c d):YG.c a b c d:=Wa Tryz.func241 (x:=YG.h) (R0 e)
def YD.h:Hn:=.q .o2 (.q .o1 (.q (.q .o6 (.k (.loop [(4,.one .p),(14,.I)] (.q .o1 (.q (.c .l .l) (.q (.k (.q .o2 (.q .o7 (.q (.cR (.gA true [] [(48,.one .b)] (.tk [0,1,2,3,4,5,6,7,8] (.all [(9,.take 10 (.take 11 (.split 34 (.take 12 (.take 13 (.take 14 (.split 37 (.take 15 (.take 16 (.take 17 (.take 18 (.take 19 (.take 20 (.take 21 (.take 22 (.take 23 (.take 24 (.take 25 (.done)))))))))))) (.take 15 (.take 16 (.take 17 (.take 19 (.take 20 (.take 21 (.all [(18,.all [(22,.all [(23,.take 24 (.take 25 (.done)))])]),(22,.all [(18,.all [(23,.take 24 (.take 25 (.done)))])])]))))))))))) (.take 12 (.take 13 (.take 14 (.take 15 (.take 16 (.take 17 (.take 18 (.take 19 (.take 20 (.take 21 (.take 22 (.take 23 (.take 24 (.take 25 (.done))))))))))))))))))])))) (.c .o2 .l))))) .o2)))))) (.q (.q .o2 .aJ) (.q .gH (.q .gH (.q .o3 .l))))))
def YD.v (a:R2)(b:Hp)(c:Int->Bool->Hp->Prop):Prop:=bE a 3 b λe=>Ys [.p,bN] (λf=>f none 0 b) λg (h:R2) (i:Int) j=>If (i<((e.len:Nat):Int)) (bE a 3 j λl=>Ix l.a l.len i 3 λm=>Jn [.b] (λ(n:Bool) o=>If n (bL (i+1) λp=>g (some m) p o) (bL (i+1) λq=>g h q o)) λr=>eI j λs=>bU (some m) λt=>gE s bN ((t.add 0).add 0) λ(u:Int)=>bU (some m) λv=>aU s v 2 λw=>Ye.c w j λx y=>And (s y) <| If (u<x) (If h.isNone (r true y) (bU (some m) λz=>bU h λaa=>(bM ((z.add 0).add 0) y λab=>bM ((z.add 0).add 1) y λac=>And (s y) <| bM ((aa.add 0).add 0) y λad=>bM ((aa.add 0).add 1) y λae=>And (s y) <| WX.c ab ac ad ae y λaf ag=>And (s ag) <| r af ag) ∧ (bM ((aa.add 0).add 0) y λah=>bM ((aa.add 0).add 1) y λai=>And (s y) <| bM ((z.add 0).add 0) y λaj=>bM ((z.add 0).add 1) y λak=>And (s y) <| WX.c aj ak ah ai y λal am=>And (s am) <| r al am))) (r false y)) (If h.isNone (c 0 false j) (bF h 2 j λao=>Zk.c ao j λap aq ar=>bU h λau=>bM ((au.add 0).add 0) ar λav=>bL (av+1) λaw=>bU h λax=>dN ((ax.add 0).add 0) (.I aw) ar λay=>c ap true ay))
theorem YD.o {a b c}(d:YD.v a b c):YD.c a b c:=Wa Tryz.func252 (x:=YD.h) (R0 d)
def Yy.h:Hn:=.q .o2 (.q .o6 .l)
def Yy.v (a b:Int)(c:R2)(d:Int)(e:Hp)(f:aN):Prop:=aV #[.I a,.I b,.pointer c] 262 e λg h=>bM ((g.add 0).add 1) h λi=>bL (i-d) λj=>f j h
theorem Yy.o {a b c d e f}(g:Yy.v a b c d e f):Yy.c a b c d e f:=Wa Tryz.func259 (x:=Yy.h) (R0 g)
def Ym.h:Hn:=.q .o2 (.q (.q .o3 .aJ) (.q .o4 (.q (.q .o2 .aJ) (.q (.o 11) (.q (.oq 16) .l)))))
def Ym.v (a:R2)(b:Int)(c:Hp)(d:Int->Int->Hp->Prop):Prop:=WG.c a c λe f=>If (!e) (d 0 5 f) (XF.c a b f λg h=>If g.isNone (d 0 8 h) (bF g 2 h λj=>XR.c j b h λk l m=>bU g λn=>bM ((n.add 0).add 1) m λo=>bL (o*256) λp=>bU a λq=>bM ((q.add 0).add 0) m λr=>bL (k*r) λs=>bL (p+s) λt=>d t 0 m))
theorem Ym.o {a b c d}(e:Ym.v a b c d):Ym.c a b c d:=Wa Tryz.func262 (x:=Ym.h) (R0 e)
def WZ.h:Hn:=.q .o2 (.q (.q .o3 .aJ) (.q .o4 (.q (.q .o2 .aJ) (.q .gH .l))))
def WZ.v (a:R2)(b:Int)(c:Hp)(d:Bool->Int->Hp->Prop):Prop:=WG.c a c λe f=>If (!e) (d false 5 f) (XF.c a b f λg h=>If g.isNone (d false 8 h) (bF g 2 h λj=>Yc.c j b h λk l m=>d k l m))
theorem WZ.o {a b c d}(e:WZ.v a b c d):WZ.c a b c d:=Wa Tryz.func265 (x:=WZ.h) (R0 e)
def XF.h:Hn:=.q .o1 (.q (.q .o6 (.k (.loop [(13,.I)] (.q .o1 (.q (.c .l .l) (.q (.k (.q .o2 (.q (.o 15) (.q .o2 (.c (.q .o7 .l) .l))))) .o2)))))) .aM)
def XF.v (a:R2)(b:Int)(c:Hp)(d:Option Addr->Hp->Prop):Prop:=bE a 3 c λf=>Ys [bN] (λg=>g 0 c) λh (i:Int) j=>If (i<((f.len:Nat):Int)) (bE a 3 j λl=>Ix l.a l.len i 3 λm=>aY m 2 j λn=>XR.c n b j λo p q=>If (p==0) (bE a 3 q λs=>Ix s.a s.len i 3 λt=>d (some t) q) (bL (i+1) λu=>h u q)) (d none j)
theorem XF.o {a b c d}(e:XF.v a b c d):XF.c a b c d:=Wa Tryz.func277 (x:=XF.h) (R0 e)
def WX.h:Hn:=.q .o3 (.q (.cR (.seq [.op,.op,.op,.op,.op,.op,.cX false 12 [.op,.op,.op,.op,.op,.op,.cX true 5 (RI.ops 5)],.op])) .l)
def WX.v (a b c d:Int)(e:Hp)(f:aO):Prop:=aV #[.I a,.I b] 259 e λg h=>aV #[.I c,.I d] 259 h λi j=>aQ g 0 j λk=>aQ i 0 j λl=>bV (λm n=>f m n) λo=>If (k>l) (o true j) (aQ g 0 j λp=>aQ i 0 j λq=>bV (λr s=>o r s) λt=>If (p==q) (aQ g 1 j λu=>aQ i 1 j λv=>t (decide (u<v)) j) (t false j))
theorem WX.o {a b c d e f}(g:WX.v a b c d e f):WX.c a b c d e f:=Wa Tryz.func282 (x:=WX.h) (R0 g)
end Go.Proofs
namespace Go.Ar
open Go Go.Vc Go.Proofs
variable {U:Hp}{F:Rg}{p:Nat}{c:bZ}{ps:List (Nat×Nat)}{ss:List cF}
def dX (ps:List (Nat×Nat)):List Nat:=ps.flatMap λx=>[x.1,x.2]
theorem US {ps:List (Nat×Nat)}{b:Nat}:b∈dX ps↔∃x∈ps,b=x.1\/b=x.2:=by simp[dX]
def dO:List (Nat×Nat)->List cF->List Value
 | x::ps,s::ss=>.int .i64 (s.many:Int) :: .int .i64 (s.st:Int) :: .pointer (some ⟨x.1,0,none⟩)::dO ps ss
 | _,_=>[]
theorem QQ:∀{ps:List (Nat×Nat)} {ss:List cF},ps.length=ss.length->(dO ps ss).length=3*ss.length
 | [],[],_=>rfl
 | x::ps,s::ss,h=>by simp only[dO,zY]at *;rw[QQ O];omega
theorem QE:∀{ps:List (Nat×Nat)} {ss:List cF} {i:Nat} {x:Nat×Nat} {s:cF},ps[i]?=some x->ss[i]?=some s →
 (dO ps ss)[3*i]?=some (.int .i64 (s.many:Int))/\(dO ps ss)[3*i+1]?=some (.int .i64 (s.st:Int))/\(dO ps ss)[3*i+2]?=some (.pointer (some ⟨x.1,0,none⟩))
 | [],_,_,_,_,h,_=>by simp at h
 | _::_,[],_,_,_,_,h=>by simp at h
 | y::ps,t::ss,0,x,s,h1,h2=>by simp at h1 h2;subst h1;subst h2;simp[dO]
 | y::ps,t::ss,i+1,x,s,h1,h2=>by
  have:=QE (ps:=ps) (ss:=ss) (i:=i) (by simpa using h1) (by simpa using h2);simp only[dO];rw[show 3*(i+1)=3*i+3 by omega];simpa using this
theorem KP:∀{ps ps':List (Nat×Nat)} {ss ss':List cF},ps.length=ss.length->dO (ps++ps') (ss++ss')=dO ps ss++dO ps' ss'
 | [],_,[],_,_=>rfl
 | x::ps,_,s::ss,_,h=>by simp only[ld,dO,KP (ps:=ps) (ss:=ss) (by simpa using h)]
theorem Fe:∀{ps:List (Nat×Nat)} {ss:List cF},∀v∈dO ps ss,dQ v=true
 | [],_,v,h=>by simp[dO]at h
 | _::_,[],v,h=>by simp[dO]at h
 | x::ps,s::ss,v,h=>by
  simp only[dO,zW]at h;rcases h with rfl|rfl|rfl|h
  ·rfl
  ·rfl
  ·rfl
  ·exact Fe v h
structure fA (U:Hp) (F:Rg) (p:Nat) (c:bZ) (ps:List (Nat×Nat)) (ss:List cF):Prop where
 hd:∃sl:Sl,bX U p [.int .i64 (c.size:Int),.int .i64 (c.aF:Int),.int .i64 (c.batch:Int),.slice sl.a sl.len sl.cap]/\bR sl 3 (dO ps ss) U (λb=>F b/\b≠p/\b∉dX ps)
 sp:∀(i:Nat) (x:Nat×Nat) s,ps[i]?=some x->ss[i]?=some s->gV U x.1 x.2 c s
 fp:F p
 fb:∀b∈dX ps,F b
 nd:(p::dX ps).Nodup
 len:ps.length=ss.length
 ok:c.ok
 pM:ss.Pairwise (λa b=>a.st<b.st)
theorem fA.loc:dM λU F=>fA U F p c ps ss:=λU C F G h L m=>by
 obtain⟨sl,a,y⟩:=h.hd;have bS:∀b,b<U.size->F b->C[b]?=U[b]? := λb a d=>(m b a d).2;have z:∀{b:Nat} {cs:List Value},bX U b cs->F b->bX C b cs:=by
  rintro b cs ⟨e,D⟩ d;exact⟨e,(bS b (bX.lt ⟨e,D⟩) d).trans D⟩
 have lt:∀b∈dX ps,b<U.size:=by
  intro b a;obtain⟨x,j,A⟩:=US.1 a;obtain⟨i,B⟩:=zQ j;have u:=(cW.1 B).1;have:=(h.sp i x _ B (cV (by rw[←h.len];exact u))).lt;rcases A with rfl|rfl
  ·exact this.1
  ·exact this.2
 refine⟨⟨sl,z a h.fp,bR.loc _ _ _ _ _ _ _ y L λb a d=>⟨⟨(m b a d.1).1,d.2⟩,(m b a d.1).2⟩⟩,λi x s j w=>?_,(m p a.lt h.fp).1,λb a=>(m b (lt b a) (h.fb b a)).1,h.nd,h.len,h.ok,h.pM⟩;have g:=h.sp i x s j w;have E:x.1∈dX ps:=US.2 ⟨x,zG j,.inl rfl⟩;have K:x.2∈dX ps:=US.2 ⟨x,zG j,.inr rfl⟩;obtain⟨H,J,hd⟩:=g.hd;obtain⟨r,y⟩:=g.row;exact⟨⟨H,J,z hd (h.fb _ E)⟩,⟨r,z y (h.fb _ K)⟩,g.ne,g.len,g.ok,g.fit⟩
theorem fA.bO {σ':Hp}(h:fA U F p c ps ss)(e:bK U σ'):fA σ' F p c ps ss:=dM.bO fA.loc h e
theorem fA.pI (h:fA U F p c ps ss):ss.length<=1024:=by
 have key:∀i (hi:i<ss.length),i<=ss[i].st:=by
  intro i
  induction i with
  | zero=>intro _;omega
  | succ i ih=>
   intro hi;have e:=ih O;have b:=mc.1 h.pM i (i+1) O hi O;omega
 rcases Ao ss.length with h0|h0
 ·omega
 ·have a:ss.length-1<ss.length:=by omega
  have e:=key _ a;have d:ss.length-1<ps.length:=by rw[h.len];exact a
  have b:=(h.sp _ _ _ (cV d) (cV a)).fit;have:=h.ok.2.2.2.1;omega
structure qT (U:Hp) (F:Rg) (p:Nat) (ps:List (Nat×Nat)) (ss:List cF) (sl:Sl) (rb:Nat) (cs:List Value):Prop where
 a:sl.a=some ⟨rb,0,none⟩
 bT:bX U rb cs
 fr:F rb/\rb≠p/\rb∉dX ps
 get:∀{j:Nat} {v:Value},(dO ps ss)[j]?=some v->cs[j]?=some v
 yI:3*ss.length<=cs.length
theorem fA.sl (h:fA U F p c ps ss):∃sl:Sl,bX U p [.int .i64 (c.size:Int),.int .i64 (c.aF:Int),.int .i64 (c.batch:Int),.slice sl.a sl.len sl.cap]/\sl.len=ss.length/\(ss≠[]->∃rb cs,qT U F p ps ss sl rb cs):=by
 obtain⟨sl,r,i⟩:=h.hd;have m:=i.1;rw[QQ h.len]at m;refine⟨sl,r,O,λe=>?_⟩;have g:0<ss.length:=pC.2 e;rcases i.2 with⟨h0,_⟩|⟨b,cs,hq,ha,hbb,hle,hcl,ht⟩
 ·omega
 ·refine⟨b,cs,ha,hbb,hq,λ{j v} d=>?_,?_⟩
  ·rw[←ht,zj]at d;split at d
   ·exact d
   ·cases d
  ·have:=congrArg List.length ht;rw[zZ,QQ h.len]at this;omega
theorem fA.jD (h:fA U F p c ps ss){i:Nat}(hi:i<ss.length):∃x s,ps[i]?=some x/\ss[i]?=some s/\gV U x.1 x.2 c s:=by
 have a:i<ps.length:=by rw[h.len];exact hi
 have b:ps[i]?=some ps[i]:=cV a;exact⟨_,_,b,cV hi,h.sp i _ _ b (cV hi)⟩
theorem VU (h:fA U F p c ps ss){R:aO}(hR:R true U):WG.c (aW p) U R:=by
 refine WG.o ?_;unfold WG.v;obtain⟨sl,b,d,e⟩:=h.sl;have a:=h.ok;unfold bZ.ok at a;refine bV.intro (cD rfl (aG (b.eY rfl ?_)));rw[zJ O];exact hR
def iE (x:Int):Prop:=x<=9223372036854775807
theorem BV (h:fA U F p c ps ss)(x:Int)(hx:iE x){R:Option Addr->Hp->Prop}(h0:kD c ss x=none->R none U)
 (h1:∀(i:Nat) sl rb cs,kD c ss x=some i->i<ss.length->bX U p [.int .i64 (c.size:Int),.int .i64 (c.aF:Int),.int .i64 (c.batch:Int),.slice sl.a sl.len sl.cap]->qT U F p ps ss sl rb cs->R (some ⟨rb,3*i,none⟩) U):XF.c (aW p) x U R:=by
 refine XF.o ?_;unfold XF.v;obtain⟨sl,A,Q,L⟩:=h.sl;have D:=h.pI;refine aG (A.rS rfl ?_);refine Z6 (a:=bN) (λ(t:Int) G=>∃i:Nat,t=(i:Int)/\i<=ss.length/\G=U/\∀(j:Nat) s,j<i->ss[j]?=some s->idx c s x=none) (λt _=>ss.length-t.toNat) ⟨0,rfl,O,rfl,λj s z=>O⟩ ?_;rintro t G ⟨i,rfl,S,rfl,w⟩;refine cQ (λB=>?_) λC=>?_
 ·simp only at B;have b:i<ss.length:=by omega
  obtain⟨J,s,H,y,N⟩:=h.jD b;obtain⟨rb,cs,E⟩:=L (by rintro rfl;simp at b);have K:=QE H y;refine aG (A.rS rfl ?_);rw[E.a];refine ix O O ?_;rw[add_lit];refine E.bT.rP (x:=some ⟨J.1,0,none⟩) ?_ ?_
  ·have:=E.get K.2.2;rw[show 0+(i:Int).toNat*3+2=3*i+2 by omega];exact this
  have g:∀r,idx c s x=some r->kD c ss x=some i:=by
   intro r d;refine nm.2 ⟨b,?_,λj z=>?_⟩
   ·have:ss[i]=s:=by rw[cV b]at y;simpa using y
    rw[this,d];rfl
   ·rw[w j _ z (cV O)];simp
  refine yR N x hx (λr d=>cD rfl (aG (A.rS rfl ?_))) λP=>cB rfl ?_
  ·rw[E.a];refine ix O O ?_;rw[add_lit,show 0+(i:Int).toNat*3=3*i by omega];exact h1 i sl rb cs (g r d) b A E
  ·refine cP (m:=i+1) O O ⟨⟨i+1,rfl,O,rfl,λj M z u=>?_⟩,O⟩;by_cases e:j=i
   ·subst e;rw[y]at u;cases u;exact P
   ·exact w j M O u
 ·refine h0 ?_;refine ui.2 λs y=>?_;obtain⟨j,z⟩:=zQ y;have:=(cW.1 z).1;rw[w j s (by simp only at C;omega) z];rfl
theorem Vx {x:Int}{k:Nat}{s:cF}(hk:kD c ss x=some k)(hs:ss[k]?=some s):dY c ss x=(obj c s x).map s.is:=by
 unfold dY;rw[hk];simp only[hs];rfl
theorem yH {x:Int}(hk:kD c ss x=none):dY c ss x=none:=by unfold dY;rw[hk]
theorem G2 (h:fA U F p c ps ss)(x:Int)(hx:iE x){R:Bool->Int->Hp->Prop}(h1:∀b,dY c ss x=some b->R b 0 U)(h0:dY c ss x=none->R false 8 U):WZ.c (aW p) x U R:=by
 refine WZ.o ?_;unfold WZ.v;refine VU h (cB rfl (BV h x hx (λa=>cD rfl (h0 (yH a))) λi sl C A d m B E=>cB rfl (aG ?_)));obtain⟨y,s,w,e,u⟩:=h.jD m;have z:=QE w e;refine E.bT.rP (x:=some ⟨y.1,0,none⟩) (E.get z.2.2) ?_;have g:=Vx d e;exact Ju u x hx (λj r=>h1 _ (by rw[g,r];rfl)) λa=>h0 (by rw[g,a];rfl)
theorem HJ {x:Int}{k:Nat}{s:cF}(hk:kD c ss x=some k)(hs:ss[k]?=some s):qJ c ss x=(idx c s x).map (at_ c s):=by
 unfold qJ;rw[hk];simp only[hs]
theorem Fu {x:Int}(hk:kD c ss x=none):qJ c ss x=none:=by unfold qJ;rw[hk]
theorem O2 {x:Int}{k:Nat}{s:cF}(hk:kD c ss x=some k)(hs:ss[k]?=some s):∃i,idx c s x=some i:=by
 obtain⟨b,a,_⟩:=nm.1 hk;have:ss[k]=s:=by rw[cV b]at hs;simpa using hs
 rw[this]at a;exact pJ.1 a
theorem NL (h:fA U F p c ps ss)(x:Int)(hx:iE x){R:Int->Int->Hp->Prop}(h1:∀a,qJ c ss x=some a->R (a:Int) 0 U)(h0:qJ c ss x=none->R 0 8 U):Ym.c (aW p) x U R:=by
 refine Ym.o ?_;unfold Ym.v;refine VU h (cB rfl (BV h x hx (λe=>cD rfl (h0 (Fu e))) λi sl M K d G H E=>cB rfl (aG ?_)));obtain⟨D,s,B,j,w⟩:=h.jD G;have y:=QE B j;obtain⟨r,g⟩:=O2 d j;have A:=HJ d j;have C:=h.ok;unfold bZ.ok at C;have u:=((VS O).1 g).2.2;rw[w.len]at u;have e:=h.ok.kx;have z:=w.fit;have L:r*c.size<=128*512:=lV O O;refine E.bT.rP (x:=some ⟨D.1,0,none⟩) (E.get y.2.2) ?_;refine yR w x hx (λJ b=>?_) λe=>by rw[g]at e;cases e
 rw[g]at b;cases b;refine aG (E.bT.eY (x:=s.st) (E.get y.2.1) (cP (m:=s.st*256) aA O (aG (H.eY rfl ?_))));refine cP (m:=r*c.size) aA O (cP (m:=at_ c s r) (by simp[at_]) (by unfold at_;omega) (h1 _ (by rw[A,g];rfl)))
theorem vH {h:Hp}{rb i:Nat}{cs:List Value}{x y:Int}{z:Option Addr}{e:Nat}(hb:bX h rb cs)(h0:cs[3*i]?=some (.int .i64 x))(h1:cs[3*i+1]?=some (.int .i64 y))(h2:cs[3*i+2]?=some (.pointer z))
 {K:Int->Int->Option Addr->Prop} (hK:K x y z):gp .i64 (Addr.add ⟨rb,3*i,none⟩ 0) h λu=>gp .i64 (Addr.add ⟨rb,3*i,none⟩ 1) h λv=>fT (Addr.add ⟨rb,3*i,none⟩ 2) h λw=>K u v w:=
 hb.rI h0 (hb.rI h1 (hb.rP h2 hK))
theorem EB {h:Hp}{x y:Int}{z:Option Addr}{e:Nat}{K:Addr->Hp->Prop}(hK:∀h',bK h h'->bX h' h.size [.int .i64 x,.int .i64 y,.pointer z]->K ⟨h.size,0,none⟩ h') :
 Nw (.cells #[.int .i64 0,.int .i64 0,.pointer none] e (0,0)) h λn v=>dN (n.add 0) (.int .i64 x) v λv1=>dN (n.add 1) (.int .i64 y) v1 λv2=>dN (n.add 2) (.pointer z) v2 λv3=>K n v3:=by
 refine nw (cs:=[.int .i64 0,.int .i64 0,.pointer none]) λv m e d=>d.s1 aA λv1 o1 b=>b.s1 aA λv2 o2 g=>g.s1 aA λv3 o3 j=>?_;refine hK v3 ?_ j;exact Ext.fresh (Ext.fresh (Ext.fresh e o1.ext λi a=>O) o2.ext λi a=>O) o3.ext λi a=>by omega
def iG (c:bZ)(l:List Nat):List Value:=l.flatMap λ(s:Nat)=>[.int .i64 (s:Int),.int .i64 (c.aF:Int)]
theorem Jt (c:bZ)(l:List Nat):(iG c l).length=2*l.length:=by
 induction l with
 | nil=>rfl
 | cons x l ih=>simp only[iG,oS,zO,zY,lK]at *;omega
theorem SD (hc:c.ok){R:Option Addr->Int->Hp->Prop}(hR:∀σ' p,bK U σ'->U.size<=p->p<σ'.size->fA σ' (· = p) p c [] []->R (some ⟨p,0,none⟩) 0 σ'):Z4.c c.size c.aF c.batch U R:=by
 refine Z4.o ?_;unfold Z4.v;refine nw (cs:=[.int .i64 c.size,.int .i64 c.aF,.int .i64 c.batch]) λv x e d=>?_;refine d.rI rfl (d.rI rfl (d.rI rfl (D3 _ _ _ (λu m e1 e2 y s i=>?_) λb=>?_)))
 case refine_2=>rw[(DK c).2 hc]at b;cases b
 have a:=i.bT d id;refine cB rfl (a.rI rfl (a.rI rfl (a.rI rfl (nw (cs:=[.int .i64 c.size,.int .i64 c.aF,.int .i64 c.batch,.slice none 0 0]) λw r g j=>?_))));exact hR _ _ ((e.trans i).trans g) (by have:=i.1;omega) O ⟨⟨⟨none,0,0⟩,j,bR.nil _ _ _ _⟩,by simp,rfl,by simp[dX],by simp[dX],rfl,hc,by simp⟩
theorem IL (a b a' b':Nat){R:aO}(hR:∀σ',bK U σ'->R (decide (a>a')||(a==a'&&decide (b<b'))) σ'):WX.c (a:Int) (b:Int) (a':Int) (b':Int) U R:=by
 refine WX.o ?_;unfold WX.v;refine nw (cs:=[.int .i64 a,.int .i64 b]) λv s e m=>nw (cs:=[.int .i64 a',.int .i64 b']) λr p e1 g=>?_;have i:=e1.bT m id;have d:=hR _ (e.trans e1);refine i.rI rfl (g.rI rfl (bV.intro (cQ (λh=>?_) λh=>?_)))
 ·have:decide (a>a')=true:=by simpa using h
  rw[this,Bool.true_or]at d;exact d
 ·have:decide (a>a')=false:=by simpa using h
  rw[this,yA]at d;refine i.rI rfl (g.rI rfl (bV.intro ?_));rw[lR];refine cO (λj=>?_) λj=>?_
  ·rw[j,qE]at d;refine i.rI rfl (g.rI rfl ?_);have:decide ((b:Int)<(b':Int))=decide (b<b'):=by rw[decide_eq_decide];omega
   rw[this];exact d
  ·rw[j,uM]at d;exact d
theorem QH:∀{i k:Nat},Y9 ss i=some k->k<i/\∃s,ss[k]?=some s/\s.many<s.tk.length
 | 0,_,h=>by simp[Y9]at h
 | i+1,k,h=>by
  have up:Y9 ss i=some k->k<i+1/\∃s,ss[k]?=some s/\s.many<s.tk.length:=λh=>by
   have:=QH h;exact⟨O,this.2⟩
  simp only[Y9]at h;split at h
  ·rename_i x hx;split at h
   ·rename_i hlt;have a:i<i+1/\∃s,ss[i]?=some s/\s.many<s.tk.length:=⟨O,x,hx,hlt⟩;split at h
    ·rename_i j hj;split at h
     ·split at h
      ·cases h;exact a
      ·cases h;exact up hj
     ·cases h;exact a
    ·cases h;exact a
   ·exact up h
  ·exact up h
theorem Gp {s:cF}(h:s.many<s.tk.length):∃i,low s=some i/\i<s.tk.length/\s.is i=false:=by
 unfold low;cases hf:s.tk.findIdx? (· == false)with
 | some i=>
  obtain⟨a,d,_⟩:=nm.1 hf;refine⟨i,rfl,a,?_⟩;have:s.tk[i]=false:=by simpa using d
  simp[cF.is,zP,cV a,this]
 | none=>
  exfalso;have b:=ui.1 hf;have:s.many=s.tk.length:=by
   unfold cF.many;rw[List.count_eq_length];intro x hx;have:=b x hx;cases x
   ·simp at this
   ·rfl
  omega
theorem CM:∀{ps:List (Nat×Nat)} {ss:List cF} {k:Nat} {s s':cF},ps.length=ss.length->ss[k]?=some s->s'.st=s.st->dO ps (ss.set k s')=(dO ps ss).set (3*k) (.int .i64 (s'.many:Int))
 | [],[],_,_,_,_,h,_=>by simp at h
 | [],_::_,_,_,_,h,_,_=>by simp at h
 | _::_,[],_,_,_,_,h,_=>by simp at h
 | x::ps,t::ss,0,s,s',_,h,e=>by simp at h;subst h;simp[dO,e]
 | x::ps,t::ss,k+1,s,s',hl,h,e=>by
  simp only[rE,dO];rw[CM (ps:=ps) (ss:=ss) (s:=s) (by simpa using hl) (by simpa using h) e];rw[show 3*(k+1)=3*k+1+1+1 by omega];simp
theorem Jz {h:Hp}{b:Nat}{cs cs':List Value}(h1:bX h b cs)(h2:bX h b cs'):cs=cs':=by
 obtain⟨e,d⟩:=h1;obtain⟨g,a⟩:=h2;rw[d]at a;simp only[Option.some.injEq,Obj.cells.injEq]at a;simpa using congrArg Array.toList a.1
theorem Qf {x:Nat×Nat}{i:Nat}(hx:ps[i]?=some x):x.1∈dX ps/\x.2∈dX ps:=
 ⟨US.2 ⟨x,zG hx,.inl rfl⟩,US.2 ⟨x,zG hx,.inr rfl⟩⟩
theorem FJ:∀{ps:List (Nat×Nat)},(dX ps).Nodup->∀{i j:Nat} {x y:Nat×Nat},ps[i]?=some x->ps[j]?=some y->i≠j->∀b,(b=x.1\/b=x.2)->¬(b=y.1\/b=y.2)
 | [],_,_,_,_,_,h,_,_=>by simp at h
 | z::ps,hn,i,j,x,y,h1,h2,hij=>by
  have hn':z.1∉dX ps/\z.2∉dX ps/\z.1≠z.2/\(dX ps).Nodup:=by
   simp only[dX,oS,ld,tn,zr,zW,not_or]at hn;exact⟨hn.1.2,hn.2.1,hn.1.1,hn.2.2⟩
  intro b hb hb'
  match i,j,hij with
  | 0,0,h=>exact h rfl
  | 0,j+1,_=>
   simp at h1;subst h1;have:=Qf (ps:=ps) (i:=j) (by simpa using h2);rcases hb with rfl|rfl<;>rcases hb' with e|e<;>rw[e]at hn'<;>simp[this]at hn'
  | i+1,0,_=>
   simp at h2;subst h2;have:=Qf (ps:=ps) (i:=i) (by simpa using h1);rcases hb with rfl|rfl<;>rcases hb' with e|e<;>rw[←e]at hn'<;>simp[this]at hn'
  | i+1,j+1,h=>exact FJ hn'.2.2.2 (by simpa using h1) (by simpa using h2) O b hb hb'
theorem fA.oU (h:fA U F p c ps ss){k:Nat}{x:Nat×Nat}{s s':cF}(hx:ps[k]?=some x)(hs:ss[k]?=some s)(hst:s'.st=s.st){σ1:Hp}(e1:Ext (λb=>b=x.1\/b=x.2) U σ1)(hS:gV σ1 x.1 x.2 c s')
 {sl:Sl} {rb:Nat} {cs:List Value} (hb:bX U p [.int .i64 (c.size:Int),.int .i64 (c.aF:Int),.int .i64 (c.batch:Int),.slice sl.a sl.len sl.cap]) (E:qT U F p ps ss sl rb cs)
 {K:aP} (hK:∀σ2,Ext F U σ2->fA σ2 F p c ps (ss.set k s')->K σ2):dN ⟨rb,3*k,none⟩ (.int .i64 (s'.many:Int)) σ1 K:=by
 obtain⟨mE,D,P⟩:=h.hd;have A:mE=sl:=by
  have:=Jz D hb;simp at this;obtain⟨a,n,c⟩:=sl;obtain⟨S,V,W⟩:=mE;simp at this ⊢;exact this
 subst A;have g:=Qf hx;have e:=h.nd;simp only[zr]at e;have u:=(cW.1 hs).1;have G:=(bR.loc mE 3 (dO ps ss)).bS P e1 λb hb Q=>λd=>Q.2.2 (by rcases d with rfl|rfl;exact g.1;exact g.2);have H:=e1.bT hb λd=>e.1 (by rcases d with h|h<;>rw[h];exact g.1;exact g.2)
 refine G.st (j:=3*k) (by rw[QQ h.len];omega) (λb m=>by rw[E.a]at m;cases m;rfl) λσ2 e2 J=>?_;have C:Ext F U σ2:=(e1.sub λi B=>h.fb i (by rcases B with rfl|rfl;exact g.1;exact g.2)).trans (e2.sub λi B=>B.1);refine hK σ2 C ⟨⟨mE,e2.bT H λd=>d.2.1 rfl,?_⟩,λi y t w z=>?_,h.fp,h.fb,h.nd,by simpa using h.len,h.ok,?_⟩
 ·rw[CM h.len hs hst];exact J
 ·have r:=Qf w;have N:gV σ1 y.1 y.2 c t:=by
   by_cases hik:i=k
   ·subst hik;rw[hx]at w;cases w;rw[zL u]at z;cases z;exact hS
   ·rw[zk (Ne.symm hik)]at z;have M:=FJ e.2 w hx hik;exact(h.sp i y t w z).bS e1 (M _ (.inl rfl)) (M _ (.inr rfl))
  exact N.bS e2 (λd=>d.2.2 r.1) (λd=>d.2.2 r.2)
 ·have:(ss.set k s').map (·.st)=ss.map (·.st):=by
   apply zo;intro i;simp only[zd];by_cases hik:i=k
   ·subst hik;rw[zL u,hs];simp[hst]
   ·rw[zk (Ne.symm hik)]
  have L:=h.pM;rw[←r8 (f:=cF.st) (R:=(· < ·))]at L ⊢;rw[this];exact L
theorem Mh (h:fA U F p c ps ss){R:Int->Bool->Hp->Prop}(h1:∀x ss',iS c ss=some (x,ss')->∀σ',Ext F U σ'->fA σ' F p c ps ss'->R (x:Int) true σ')(h0:iS c ss=none->∀σ',bK U σ'->R 0 false σ') :
 YD.c (aW p) U R:=by
 refine YD.o ?_;unfold YD.v;obtain⟨sl,S,hl,hr⟩:=h.sl;have hfew:=h.pI;have hn:=h.ok.kx;obtain⟨d,cs,E⟩:∃d cs,ss≠[]->qT U F p ps ss sl d cs:=by
  by_cases hne:ss=[]
  ·exact⟨0,[],λh=>absurd hne h⟩
  ·obtain⟨d,cs,E⟩:=hr hne;exact⟨d,cs,λ_=>E⟩
 refine aG (S.rS rfl ?_);refine UH (a:=.p) (bb:=bN) (λ(iF:Option Addr) (t:Int) H=>∃i:Nat,t=(i:Int)/\i<=ss.length/\bK U H/\iF=(Y9 ss i).map λk=>⟨d,3*k,none⟩) (λ_ t _=>ss.length-t.toNat) ⟨0,rfl,O,Ext.refl _ _,rfl⟩ ?_;rintro iF t H ⟨i,rfl,hi,e,rfl⟩;refine cQ (λW=>?_) λX=>?_
 ·simp only at W;have K:i<ss.length:=by omega
  have E:=E (by rintro rfl;simp at K);obtain⟨P,s,N,G,w⟩:=h.jD K;have u:=QE N G;have Z:=w.len;refine aG ((e.bT S id).rS rfl ?_);rw[E.a];refine ix O O ?_;rw[add_lit,show 0+(i:Int).toNat*3=3*i by omega];have Eb:=e.bT E.bT id;have C:Y9 ss (i+1)=if s.many<s.tk.length then(match Y9 ss i with
   | some j=>match ss[j]? with
    | some y=>if wk s y then some i else some j
    | none=>some i
   | none=>some i)else Y9 ss i:=by
   simp only[Y9,G];rfl
  have J:∀(r:Bool) (v:Hp),bK U v->(if r then some i else Y9 ss i)=Y9 ss (i+1) →
   If r (Ar .i64 ((i:Int)+1) λb=>(∃j:Nat,b=(j:Int)/\j<=ss.length/\bK U v/\some (⟨d,3*i,none⟩:Addr)=(Y9 ss j).map λk=>⟨d,3*k,none⟩)/\ss.length-b.toNat<ss.length-(i:Int).toNat)
    (Ar .i64 ((i:Int)+1) λb=>(∃j:Nat,b=(j:Int)/\j<=ss.length/\bK U v/\((Y9 ss i).map λk=>(⟨d,3*k,none⟩:Addr))=(Y9 ss j).map λk=>⟨d,3*k,none⟩)/\ss.length-b.toNat<ss.length-(i:Int).toNat):=by
   intro r v ev hr';cases r
   ·refine cB rfl (cP (m:=i+1) O O ⟨⟨i+1,rfl,O,ev,?_⟩,O⟩);rw[←hr'];rfl
   ·refine cD rfl (cP (m:=i+1) O O ⟨⟨i+1,rfl,O,ev,?_⟩,O⟩);rw[←hr'];rfl
  refine Jn.intro ⟨λD=>bX D d cs,Eb,aG ⟨_,λD w=>by rw[add_lit,add_lit,w.cell];exact E.get u.1,aG ⟨_,λD w=>by rw[add_lit,w.cell];exact E.get u.2.2,?_⟩⟩⟩;refine IG (w.bO e) ⟨Eb,?_⟩;refine cQ (λhlt2=>?_) λhge2=>?_
  ·have hm:s.many<s.tk.length:=by omega
   rw[zC hm]at C;cases hbf:Y9 ss i with
   | none=>
    rw[hbf]at C J;exact cD rfl (J true H e C.symm)
   | some j=>
    rw[hbf]at C J;obtain⟨hji,y,hy,hym⟩:=QH hbf;simp only[hy]at C;have ad:j<ps.length:=by rw[h.len];omega
    have z:=QE (cV ad) hy;have fin:WX.c (s.many:Int) (s.st:Int) (y.many:Int) (y.st:Int) H λY v3=>bX v3 d cs ∧
     If Y (Ar .i64 ((i:Int)+1) λb=>(∃j:Nat,b=(j:Int)/\j<=ss.length/\bK U v3/\some (⟨d,3*i,none⟩:Addr)=(Y9 ss j).map λk=>⟨d,3*k,none⟩)/\ss.length-b.toNat<ss.length-(i:Int).toNat)
      (Ar .i64 ((i:Int)+1) λb=>(∃j':Nat,b=(j':Int)/\j'<=ss.length/\bK U v3/\((some j).map λk=>(⟨d,3*k,none⟩:Addr))=(Y9 ss j').map λk=>⟨d,3*k,none⟩)/\ss.length-b.toNat<ss.length-(i:Int).toNat):=by
     refine IL _ _ _ _ λv3 e3=>⟨e3.bT Eb id,J _ v3 (e.trans e3) ?_⟩;rw[C];rfl
    refine cB rfl (aG (aG ⟨?_,?_⟩))
    ·exact Eb.eY (E.get u.1) (Eb.eY (E.get u.2.1) ⟨Eb,Eb.eY (E.get z.1) (Eb.eY (E.get z.2.1) ⟨Eb,fin⟩)⟩)
    ·exact Eb.eY (E.get z.1) (Eb.eY (E.get z.2.1) ⟨Eb,Eb.eY (E.get u.1) (Eb.eY (E.get u.2.1) ⟨Eb,fin⟩)⟩)
  ·have hm:¬s.many<s.tk.length:=by omega
   rw[zB hm]at C;exact J false H e C.symm
 ·have aa:i=ss.length:=by simp only at X;omega
  subst aa;cases hbf:Y9 ss ss.length with
  | none=>
   refine cD rfl (h0 ?_ _ e);simp[iS,iF,hbf]
  | some k=>
   obtain⟨hk,s,G,Q⟩:=QH hbf;have E:=E (by rintro rfl;simp at hk);obtain⟨P,s',N,M,w⟩:=h.jD hk;rw[G]at M;cases M;have u:=QE N G;obtain⟨r,B,ab,hr2⟩:=Gp Q;have H:=h.bO e;have one:iS c ss=some (at_ c s r,ss.set k (s.put r true)):=by simp[iS,iF,hbf,G,B]
   have E':qT _ F p ps ss sl d cs:=⟨E.a,e.bT E.bT id,E.fr,E.get,E.yI⟩;refine cB rfl (aG (E'.bT.rP (x:=some ⟨P.1,0,none⟩) (E.get u.2.2) ?_));refine OI (w.bO e) B λv5 e5 ac=>aG ?_;have L:=Qf N;have V:¬(d=P.1\/d=P.2):=λhh=>E.fr.2.2 (by rcases hh with h|h<;>rw[h];exact L.1;exact L.2)
   have hml:=Bm s;have g:=Gg ab true;rw[hr2]at g;have A:(s.put r true).many=s.many+1:=by simp at g;omega
   have Z:=w.len;refine(e5.bT E'.bT V).eY (E.get u.1) (cP (m:=s.many+1) O O (aG ?_));rw[add_lit,add_lit,j8,j8,←A];exact H.oU (s':=s.put r true) N G rfl e5 ac (e.bT S id) E' λv6 e6 h6=>h1 _ _ one v6 (e.to.trans e6) h6
theorem PL {k:Nat}{s s':cF}(hs:ss[k]?=some s):GF (ss.set k s')+(s.tk.length-s.many)=GF ss+(s'.tk.length-s'.many):=by
 unfold GF
 induction ss generalizing k with
 | nil=>simp at hs
 | cons x ss ih=>
  cases k with
  | zero=>simp at hs;subst hs;simp;omega
  | succ k=>
   have:=ih (by simpa using hs);simp only[rE,zS,nA];omega
theorem Jh {x:Nat}{ss':List cF}(h:iS c ss=some (x,ss')):GF ss'+1=GF ss:=by
 unfold iS at h;split at h
 ·rename_i k hk;obtain⟨_,s,g,d⟩:=QH hk;rw[g]at h;simp only at h;split at h
  ·rename_i i hi;cases h;obtain⟨r,j,b,a⟩:=Gp d;rw[hi]at j;cases j;have p:=PL (s':=s.put i true) g;have e:=Gg b true;rw[a]at e;have m:(s.put i true).tk.length=s.tk.length:=by simp[cF.put]
   simp at e;omega
  ·cases h
 ·cases h
theorem fA.room (h:fA U F p c ps ss):GF ss<=131072:=by
 have key:∀l:List cF,(∀s∈l,s.tk.length<=128)->GF l<=128*l.length:=by
  intro l
  induction l with
  | nil=>intro _;simp[GF]
  | cons x l ih=>
   intro hl;have r:=hl x aA;have j:=ih λs b=>hl s (by simp[b]);simp only[GF,zS,nA,zY]at *;omega
 have:=key ss λs b=>by
  obtain⟨i,e⟩:=zQ b;have d:=(cW.1 e).1;obtain⟨x,m,_,a,g⟩:=h.jD d;rw[e]at a;cases a;rw[g.len];exact h.ok.kx
 have:=h.pI;omega
theorem Ht {m:Nat}{x:Nat}{ss':List cF}(h:iS c ss=some (x,ss')):QT c (m+1) ss=(x::(QT c m ss').1,(QT c m ss').2):=by
 simp[QT,h]
theorem PK (h:fA U F p c ps ss)(m:Int)(hm:0<=m){R:Sl->Int->Hp->Prop}
 (hR:∀s σ',Ext F U σ'->bR s 1 (ints (QT c m.toNat ss).1) σ' (λb=>U.size<=b)->fA σ' (Cut F U) p c ps (QT c m.toNat ss).2->R s 0 σ'):W4.c (aW p) m U R:=by
 refine W4.o ?_;unfold W4.v;have h:=fA.loc.cut h;have J:=fA.room h;refine VU h (cB rfl (fR O ?_));refine Z6 (a:=.s) (λ(out:Sl) C=>∃j d,Ext F U C/\bR out 1 (ints j) C (λb=>U.size<=b)/\fA C (Cut F U) p c ps d/\j.length<=m.toNat/\j.length+GF d=GF ss/\QT c m.toNat ss=(j++(QT c (m.toNat-j.length) d).1,(QT c (m.toNat-j.length) d).2))
  (λout _=>m.toNat-out.len) ⟨[],ss,Ext.refl _ _,bR.nil _ _ _ _,h,by simp,by simp,by simp⟩ ?_
 rintro out C ⟨j,d,e,g,K,V,S,r⟩;have P:=g.oK;refine cQ (λX=>?_) λQ=>?_
 ·have u:m.toNat-j.length=(m.toNat-(j.length+1))+1:=by omega
  refine Mh K (λx G w v2 e2 E=>cB rfl ?_) λz v2 e2=>cD rfl ?_
  ·have B:Ext F U v2:=e.trans (e2.sub λi H=>H.1);have y:=aI.bS g e2 λb _ D M=>by have:=M.2;omega
   refine y.push (vs:=[.int .i64 (x:Int)]) (λb D=>zh B.1 D) rfl rfl (by simp[dQ]) O O λs' v4 W N L=>?_;have Z:=Jh w;refine⟨⟨j++[x],G,B.dT N λi H=>.inr H,by rw[UB];exact L,fA.loc.bS E N λb _ D M=>(by have:=D.2;omega),by simp;omega,by simp;omega,?_⟩,O⟩;rw[r,u,Ht w];simp
  ·have:QT c (m.toNat-j.length) d=([],d):=by rw[u];simp[QT,z]
   rw[this]at r;have A:=hR out v2 (e.trans e2.to);rw[r,kP]at A;exact A (aI.bO g e2) (K.bO e2)
 ·have Y:m.toNat-j.length=0:=by omega
  rw[Y]at r;have A:=hR out C e;rw[r]at A;simp only[QT,kP]at A;exact A g K
theorem Me (h:fA U F p c ps ss)(m:Int)(hm:m<0){R:Sl->Int->Hp->Prop}(hR:R ⟨none,0,0⟩ 1 U):W4.c (aW p) m U R:=by
 refine W4.o ?_;unfold W4.v;exact VU h (cB rfl (lH O hR))
def iU:List (Nat×Nat)->List cF->List (Nat×Nat)
 | x::ps,s::ss=>if s.many != 0 then x::iU ps ss else iU ps ss
 | _,_=>[]
theorem HE:∀{ps:List (Nat×Nat)} {ss:List cF},ps.length=ss.length->(iU ps ss).length=(cG ss).length
 | [],[],_=>rfl
 | x::ps,s::ss,h=>by
  have ih:=HE (ps:=ps) (ss:=ss) (by simpa using h);simp only[iU,cG,sW]at *;split<;>simp[ih]
theorem y7:∀{ps:List (Nat×Nat)} {ss:List cF},(iU ps ss).Sublist ps
 | [],_=>by simp[iU]
 | _::_,[]=>by simp[iU]
 | x::ps,s::ss=>by
  simp only[iU];split
  ·exact y7.cons_cons x
  ·exact y7.cons x
theorem Ek:∀{ps ps':List (Nat×Nat)} {ss ss':List cF},ps.length=ss.length->iU (ps++ps') (ss++ss')=iU ps ss++iU ps' ss'
 | [],_,[],_,_=>rfl
 | x::ps,_,s::ss,_,h=>by
  simp only[ld,iU,Ek (ps:=ps) (ss:=ss) (by simpa using h)];split<;>rfl
theorem Ia:∀{ps:List (Nat×Nat)} {ss:List cF} {i:Nat} {x:Nat×Nat} {s:cF},ps.length=ss.length->(iU ps ss)[i]?=some x->(cG ss)[i]?=some s->∃j:Nat,ps[j]?=some x/\ss[j]?=some s
 | [],[],_,_,_,_,h,_=>by simp[iU]at h
 | y::ps,t::ss,i,x,s,hl,h1,h2=>by
  have ih:=λi=>Ia (ps:=ps) (ss:=ss) (i:=i) (x:=x) (s:=s) (by simpa using hl);simp only[iU,cG,sW]at h1 h2;cases hm:(t.many != 0)
  ·rw[hm]at h1 h2;obtain⟨j,b,a⟩:=ih i h1 h2;exact⟨j+1,by simpa using b,by simpa using a⟩
  ·rw[hm]at h1 h2;cases i with
   | zero=>simp at h1 h2;exact⟨0,by simp[h1],by simp[h2]⟩
   | succ i=>
    obtain⟨j,b,a⟩:=ih i (by simpa using h1) (by simpa[cG]using h2);exact⟨j+1,by simpa using b,by simpa using a⟩
theorem R4 (a b:List cF):cG (a++b)=cG a++cG b:=by simp[cG]
theorem Mn (a b:List cF):Qd (a++b)=Qd a++Qd b:=by simp[Qd]
theorem MA (c:bZ)(a b:List Nat):iG c (a++b)=iG c a++iG c b:=by simp[iG]
theorem SF {a b:List (Nat×Nat)}(h:a.Sublist b):(dX a).Sublist (dX b):=by
 induction h with
 | slnil=>exact List.Sublist.refl _
 | cons x _ ih=>exact(ih.cons _).cons _
 | cons_cons x _ ih=>exact(ih.cons_cons _).cons_cons _
theorem ER {h:Hp}{Q:Rg}{n3:Nat}{o:Sl}{l:List Nat}{x1 x2:Nat}{s:cF}(hb:bX h n3 [.slice o.a o.len o.cap])(hrow:bR o 2 (iG c l) h Q)(hQ:∀b,Q b->n3<b)(hl:l.length<=2000)(hS:gV h x1 x2 c s){R:aO}
 (hR:∀h' o',Ext (λb=>b=n3\/Q b) h h'->bX h' n3 [.slice (Sl.a o') o'.len o'.cap]->bR o' 2 (iG c (l++if s.many=0 then[s.st]else[])) h' (Grow Q h)->R (s.many==0) h') :
 VP Tryz.prog ⟨223,#[],#[.pointer (some ⟨n3,0,none⟩)]⟩ [.agg #[.int .i64 (s.many:Int),.int .i64 (s.st:Int),.pointer (some ⟨x1,0,none⟩)]] [.one .b] h R:=by
 refine pd (all := #[.agg #[.int .i64 (s.many:Int),.int .i64 (s.st:Int),.pointer (some ⟨x1,0,none⟩)],.pointer (some ⟨n3,0,none⟩)]) (by kernel_rfl) aA ?_;refine XN.o ?_;unfold XN.v;refine nw (cs:=[.int .i64 (s.many:Int),.int .i64 (s.st:Int),.pointer (some ⟨x1,0,none⟩)]) λv Z e d=>?_;have X:=hb.lt;have g:=e.bT hb id;have hrow:=(bR.loc o 2 (iG c l)).mono hrow (G:=λb=>Q b/\b<h.size) λb hb y=>⟨y,hb⟩;refine Jn.intro (d.eY rfl ?_);rw[tz];refine cO (λF=>?_) λF=>?_
 ·have r:s.many=0:=by simpa using F
  rw[zC r]at hR;refine⟨λh'=>bX h' h.size [.int .i64 (s.many:Int),.int .i64 (s.st:Int),.pointer (some ⟨x1,0,none⟩)]/\bX h' n3 [.slice o.a o.len o.cap],⟨d,g⟩,⟨o,λh' hS=>by rw[hS.2.cell];rfl,⟨some ⟨x1,0,none⟩,λh' hS=>by rw[add_lit,hS.1.cell];rfl,?_⟩⟩⟩;refine Sc (hS.bO e) λY e2=>⟨⟨e2.bT d id,e2.bT g id⟩,?_⟩;have x:=e.trans e2;have m:=aI.bO hrow x;have z:=m.1;rw[Jt]at z;refine nw (cs:=[.int .i64 (s.st:Int),.int .i64 (c.aF:Int)]) λv3 V w H=>⟨⟨(e2.trans w).bT d id,(e2.trans w).bT g id⟩,?_⟩;have p:=aI.bO m w;have P:=x.1;refine p.app (ys:=[.int .i64 (s.st:Int),.int .i64 (c.aF:Int)]) rfl rfl ?_ (by simp[dQ]) ?_ ?_ mT λW K U A E=>?_
  ·intro j u hu;rw[add_lit,zH,H.cell];exact hu
  ·simp only;have:(o.len+1)*16<=2001*16:=lV O O;omega
  ·simp only;omega
  ·have L:bX K h.size [.int .i64 (s.many:Int),.int .i64 (s.st:Int),.pointer (some ⟨x1,0,none⟩)]:=A.bT ((e2.trans w).bT d id) λB=>by have:=B.2;omega
   have J:bX K n3 [.slice o.a o.len o.cap]:=A.bT ((e2.trans w).bT g id) λB=>by have:=hQ _ B.1;omega
   refine⟨⟨L,J⟩,J.s0 aA λv5 o5 M=>(Ws o5 L O).eY rfl ?_⟩;have D:Ext (λb=>b=n3\/Q b) h v5:=(bK.to ((e.trans e2).trans w)).trans (A.sub λi C=>.inr C.1)|>.trans (o5.ext.sub λi C=>.inl C);rw[tz];refine hR v5 W D M ?_;rw[MA];have:iG c [s.st]=[.int .i64 (s.st:Int),.int .i64 (c.aF:Int)]:=rfl;rw[this];have S:=aI.mono E (G:=Grow Q h) λb _ N=>by
    rcases N with h|h
    ·exact .inl h.1
    ·exact .inr O
   exact aI.bS S o5.ext λb _ y he=>by
    rcases y with h|h
    ·have:=hQ _ h;omega
    ·omega
 ·have r:¬s.many=0:=by simpa using F
  rw[zB r,kP]at hR;refine d.eY rfl ?_;rw[tz];exact hR v o e.to g (aI.bO (aI.mono hrow λb _ y=>.inl y.1) e)
def xh (n3:Nat)(c:bZ)(l:List Nat)(h:Hp):Prop:=∃o:Sl,bX h n3 [.slice o.a o.len o.cap]/\bR o 2 (iG c l) h (λb=>n3<b)
theorem Bq {A D:List Value}{x y z:Value}{k:Nat}(hk:k=A.length)(hD:3<=D.length):(((A++D).set k x).set (k+1) y).set (k+2) z=A++[x,y,z]++D.drop 3:=by
 subst hk
 match D,hD with
 | d0::d1::d2::D,_=>simp[List.set_append]
theorem Hc {i:Nat}{s:cF}(hs:ss[i]?=some s):Qd (ss.take (i+1))=Qd (ss.take i)++(if s.many=0 then[s.st]else[]):=by
 rw[k6,hs,Mn]
 congr 1
 by_cases hm:s.many=0<;>simp[Qd,hm]
theorem HG {i:Nat}{s:cF}(hs:ss[i]?=some s):cG (ss.take (i+1))=cG (ss.take i)++(if s.many=0 then[]else[s]):=by
 rw[k6,hs,R4]
 congr 1
 by_cases hm:s.many=0<;>simp[cG,hm]
theorem A8 {i:Nat}{x:Nat×Nat}{s:cF}(hl:ps.length=ss.length)(hx:ps[i]?=some x)(hs:ss[i]?=some s):iU (ps.take (i+1)) (ss.take (i+1))=iU (ps.take i) (ss.take i)++(if s.many=0 then[]else[x]):=by
 rw[k6,k6,hs,hx,Ek (by simp[hl])]
 congr 1
 by_cases hm:s.many=0<;>simp[iU,hm]
theorem Ra (l:List cF):(Qd l).length<=l.length:=by unfold Qd;rw[zl];exact qW _ _
theorem N5 (l:List cF):(cG l).length<=l.length:=qW _ _
theorem LS (h:fA U F p c ps ss){sl:Sl}{rb n3:Nat}{cs:List Value}{σ1:Hp}(e1:bK U σ1)(hlen:sl.len=ss.length)(hn3:U.size<=n3)(hE:ss≠[]->qT U F p ps ss sl rb cs/\sl.len<=sl.cap/\cs.length=sl.cap*3)(h0:xh n3 c [] σ1){R:Sl->Hp->Prop}
 (hR:∀h' mE,Ext (λb=>F b/\b≠p/\b∉dX ps\/n3<=b) σ1 h'->xh n3 c (Qd ss) h'->(mE=sl/\Qd ss=[]/\cG ss=ss/\iU ps ss=ps/\Ext (λb=>n3<=b) σ1 h'\/(bR mE 3 (dO (iU ps ss) (cG ss)) h' (λb=>F b/\b≠p/\b∉dX ps)))->R mE h') :
 We.c sl ⟨223,#[],#[.pointer (some ⟨n3,0,none⟩)]⟩ σ1 R:=by
 refine We.o ?_;unfold We.v;refine Wh.o ?_;unfold Wh.v;have hfew:=h.pI;have r:=h.len;refine Z6 (a:=bN) (λ(t:Int) h'=>∃i:Nat,t=(i:Int)/\i<=ss.length/\Ext (λb=>n3<=b) σ1 h'/\xh n3 c [] h'/\Qd (ss.take i)=[]/\cG (ss.take i)=ss.take i/\iU (ps.take i) (ss.take i)=ps.take i) (λt _=>ss.length-t.toNat) ⟨0,rfl,O,Ext.refl _ _,h0,by simp[Qd],by simp[cG],by simp[iU]⟩ ?_;rintro t h' ⟨i,rfl,hi,e,⟨o,W,aa⟩,q1,q2,q3⟩;have eo:∀{v:Hp},Ext (λb=>n3<=b) σ1 v->Ext (λb=>n3<=b) U v:=λe=>e1.to.trans e;refine cQ (λhlt=>?_) λhge=>?_
 ·have Y:i<ss.length:=by omega
  obtain⟨E,hcap,hcl⟩:=hE (by rintro rfl;simp at Y);obtain⟨xx,s,hp,K,hS⟩:=h.jD Y;have eg:=QE hp K;have hrl:=E.bT.lt;have hSl:=hS.lt;rw[E.a];refine ix O O ?_;rw[add_lit,show 0+(i:Int).toNat*3=3*i by omega];refine vH (e:=0) ((eo e).bT E.bT O) (E.get eg.1) (E.get eg.2.1) (E.get eg.2.2) ?_;have hn3h:n3<h'.size:=W.lt;refine ER W aa (λb h=>h) aA (hS.bS (eo e) O O) λh2 o2 e2 af A=>?_;have e2:Ext (λb=>n3<=b) h' h2:=e2.sub λb g=>by omega
  have A:=aI.mono A (G:=λb=>n3<b) λb _ g=>by
   rcases g with h|h
   ·exact h
   ·omega
  refine cO (λhm=>?_) λhm=>?_
  ·-- the first that goes
   have x:s.many=0:=by simpa using hm
   rw[zC x,tn]at A;have D:((i:Int)==(-1))=false:=by rw[lu];omega
   show If ((i:Int)==(-1)) _ _;refine cB D (cP (m:=i+1) O O ?_);have q1':Qd (ss.take (i+1))=[s.st]:=by rw[Hc K,q1,zC x];rfl
   have Q:cG (ss.take (i+1))=ss.take i:=by rw[HG K,q2,zC x,kP]
   have q3':iU (ps.take (i+1)) (ss.take (i+1))=ps.take i:=by rw[A8 r hp K,q3,zC x,kP]
   have hke:∀k,k<=ss.length->(dO (iU (ps.take k) (ss.take k)) (cG (ss.take k))).length=3*(cG (ss.take k)).length:=λk _=>QQ (HE (by simp[r]));have Eb2:bX h2 rb cs:=(eo (e.trans e2)).bT E.bT O;refine UH (a:=bN) (bb:=bN) (λ(i1 j1:Int) v=>∃j:Nat,j1=(j:Int)/\i<j/\j<=ss.length/\i1=((cG (ss.take j)).length:Int)/\(cG (ss.take j)).length<j/\Ext (λb=>b=rb\/n3<=b) σ1 v/\xh n3 c (Qd (ss.take j)) v ∧
    bX v rb (dO (iU (ps.take j) (ss.take j)) (cG (ss.take j))++cs.drop (3*(cG (ss.take j)).length))) (λ_ j1 _=>ss.length-j1.toNat) ?_ ?_
   ·refine⟨i+1,rfl,O,O,?_,?_,(e.trans e2).sub λb g=>.inr g,?_,?_⟩
    ·rw[Q,zZ];omega
    ·rw[Q,zZ];omega
    ·rw[q1'];exact⟨o2,af,A⟩
    ·rw[Q,q3',zZ,pz O];have:dO (ps.take i) (ss.take i)++cs.drop (3*i)=cs:=by
      have h1:(dO (ps.take i) (ss.take i)).length=3*i:=by rw[QQ (by simp[r]),zZ];omega
      apply zo;intro k;rcases ke k (3*i)with hk|hk
      ·rw[ze O];have h2:(dO ps ss)[k]?=(dO (ps.take i) (ss.take i))[k]? := by
        conv=>lhs;rw[←nJ i ps,←nJ i ss,KP (by simp[r])]
        rw[ze O]
       rw[←h2];have h3:k<(dO ps ss).length:=by rw[QQ r];omega
       rw[cV h3];exact(E.get (cV h3)).symm
      ·rw[zp O,kR,h1]
       congr 1;omega
     rw[this];exact Eb2
   ·rintro i1 j1 v ⟨j,rfl,hij,hj,rfl,hKj,ev,⟨o3,C,J⟩,z⟩;have y:=hke j hj;have evo:Ext (λb=>b=rb\/n3<=b) U v:=e1.to.trans ev;refine cQ (λhlt2=>?_) λhge2=>?_
    ·have hj':j<ss.length:=by omega
     obtain⟨yy,u,P,H,ag⟩:=h.jD hj';have S:=QE P H;have hSul:=ag.lt;have ae:=Qf P;refine ix O O ?_;rw[add_lit,show 0+(j:Int).toNat*3=3*j by omega];have get:∀d,d<3->∀w,(dO ps ss)[3*j+d]?=some w->(dO (iU (ps.take j) (ss.take j)) (cG (ss.take j))++cs.drop (3*(cG (ss.take j)).length))[3*j+d]?=some w:=by
      intro d hd w hw;rw[zp O,kR,y,show 3*(cG (ss.take j)).length+(3*j+d-3*(cG (ss.take j)).length)=3*j+d by omega];exact E.get hw
     refine vH (e:=0) z (get 0 O _ S.1) (get 1 O _ S.2.1) (get 2 O _ S.2.2) (EB λv5 X b5=>b5.rI rfl (b5.rI rfl (b5.rP rfl ?_)));have hn3v:n3<v.size:=C.lt;have ab:=aI.mono J (G:=λb=>n3<b/\b<v.size) λb g hf=>⟨hf,g⟩;have M:=Ra (ss.take j);rw[zZ]at M;refine ER (X.bT C id) (aI.bO ab X) (λb g=>g.1) O ((ag.bS evo (λV=>by rcases V with h|h;exact E.fr.2.2 (h▸ae.1);omega) (λV=>by rcases V with h|h;exact E.fr.2.2 (h▸ae.2);omega)).bO X) λv6 o6 e6 ah B=>?_;have hsz5:=X.1;have B:=aI.mono B (G:=λb=>n3<b) λb _ g=>by
      rcases g with h|h
      ·exact h.1
      ·omega
     have b6:bX v6 v.size [.int .i64 (u.many:Int),.int .i64 (u.st:Int),.pointer (some ⟨yy.1,0,none⟩)]:=e6.bT b5 λV=>by rcases V with h|h;omega;have:=h.2;omega
     have hrb:rb<U.size:=E.bT.lt;have L:=e6.bT (X.bT z id) λV=>by rcases V with h|h;omega;have:=h.1;omega
     have ac:Ext (λb=>b=rb\/n3<=b) σ1 v6:=(ev.trans X.to).trans (e6.sub λb g=>by rcases g with h|h;omega;have:=h.1;omega);rw[←Hc H]at B;have st:=HG H;have kt:=A8 r P H;by_cases hum:u.many=0
     ·rw[zC hum,kP]at st kt;have:(u.many==0)=true:=by simp[hum]
      rw[this];refine cB rfl (cP (m:=j+1) O O ⟨⟨j+1,rfl,O,O,?_,?_,ac,⟨o6,ah,B⟩,?_⟩,O⟩)
      ·rw[st]
      ·rw[st];omega
      ·rw[st,kt];exact L
     ·rw[zB hum]at st kt;have:(u.many==0)=false:=by simp[hum]
      rw[this];refine cD rfl (b6.rI rfl (b6.rI rfl (b6.rP rfl (ix O O ?_))));rw[add_lit,show 0+((cG (ss.take j)).length:Int).toNat*3=3*(cG (ss.take j)).length by omega];have hlen6:(dO (iU (ps.take j) (ss.take j)) (cG (ss.take j))++cs.drop (3*(cG (ss.take j)).length)).length=cs.length:=by
       rw[zO,y,j3];omega
      refine L.s1 O λv7 o7 b7=>b7.s1 aE λv8 o8 b8=>b8.s1 aE λv9 o9 b9=>?_;rw[j8,Bq y.symm (by rw[j3];omega),List.drop_drop]at b9;have ev9:Ext (λb=>b=rb\/n3<=b) σ1 v9:=((ac.trans (o7.ext.sub λb g=>.inl g)).trans (o8.ext.sub λb g=>.inl g)).trans (o9.ext.sub λb g=>.inl g);have Z:Ext (· = rb) v6 v9:=(o7.ext.trans o8.ext).trans o9.ext;refine cP (m:=(cG (ss.take j)).length+1) O O (cP (m:=j+1) O O ⟨⟨j+1,rfl,O,O,?_,?_,ev9,⟨o6,Z.bT ah O,aI.bS B Z λb _ g he=>O⟩,?_⟩,O⟩)
      ·rw[st];simp
      ·rw[st];simp;omega
      ·rw[st,kt,KP (HE (by simp[r]))];simp only[zO,zY,lK,dO];rw[show 3*((cG (ss.take j)).length+(0+1))=3*(cG (ss.take j)).length+3 by omega];exact b9
    ·have hjj:j=ss.length:=by omega
     subst hjj;rw[mK]at *;have N:ps.take ss.length=ps:=by rw[←r,mK]
     rw[N]at z y;have M:=N5 ss;refine iN O O O ?_;have hK3:3*(cG ss).length<=cs.length:=by omega
     have hlt3:(cG ss).length<ss.length:=hKj;rw[zB O];simp only[E.a,zX,add_lit,zH];refine⟨by simp[dQ],?_⟩;simp only;have hz:(List.replicate (sl.len-(cG ss).length) [Value.int .i64 0,.int .i64 0,.pointer none]).flatten.length=3*(sl.len-(cG ss).length):=by
      rw[wW,tQ,vB];simp;omega
     refine VT (o:=(cG ss).length*3) (i:=0) z (by rw[hz,zO,y,j3];omega) λv10 gH b10=>?_;refine iN (lo:=0) O O O ?_;have ad:Ext (λb=>b=rb\/n3<=b) σ1 v10:=ev.trans (gH.ext.sub λb g=>.inl g);refine hR v10 _ (ad.sub λb g=>?_) ⟨o3,Ws gH C (by have:=E.bT.lt;omega),aI.bS J gH.ext λb _ g he=>by have:=E.bT.lt;omega⟩ (.inr ?_)
     ·rcases g with rfl|h
      ·exact .inl E.fr
      ·exact .inr h
     ·refine⟨by rw[QQ (HE r)];simp;omega,.inr ⟨rb,_,E.fr,?_,b10,?_,?_,?_⟩⟩
      ·simp only[E.a];split<;>simp[add_lit]
      ·simp only;omega
      ·simp only[zO,zZ,j3,hz,y];omega
      ·rw[QQ (HE r),j8,show(cG ss).length*3=3*(cG ss).length by omega];rw[jY,oD (by rw[zZ,zO,y];omega),ym,Nat.min_self];rw[oD O,mG O]
  ·have x:¬s.many=0:=by simpa using hm
   rw[zB x,kP]at A;refine cP (m:=i+1) O O ⟨⟨i+1,rfl,O,e.trans e2,⟨o2,af,A⟩,?_,?_,?_⟩,O⟩
   ·rw[Hc K,q1,zB x];rfl
   ·rw[HG K,q2,zB x,k6,K];rfl
   ·rw[A8 r hp K,q3,zB x,k6,hp];rfl
 ·have hii:i=ss.length:=by omega
  subst hii;rw[mK]at *;have N:ps.take ss.length=ps:=by rw[←r,mK]
  rw[N]at q3;have D:((-1:Int)==(-1))=true:=rfl;refine cD D (hR h' sl (e.sub λb g=>.inr g) ?_ (.inl ⟨rfl,q1,q2,q3,e⟩));rw[q1];exact⟨o,W,aa⟩
theorem fA.mE (h:fA U F p c ps ss):∃sl:Sl,bX U p [.int .i64 (c.size:Int),.int .i64 (c.aF:Int),.int .i64 (c.batch:Int),.slice sl.a sl.len sl.cap]/\sl.len=ss.length/\bR sl 3 (dO ps ss) U (λb=>F b/\b≠p/\b∉dX ps) ∧
 ∃rb cs,(ss≠[]->qT U F p ps ss sl rb cs/\sl.len<=sl.cap/\cs.length=sl.cap*3):=by
 obtain⟨sl,m,e⟩:=h.hd;have i:=e.1;rw[QQ h.len]at i;refine⟨sl,m,O,e,?_⟩;rcases e.2 with⟨h0,_⟩|⟨b,cs,hq,ha,hbb,hle,hcl,ht⟩
 ·exact⟨0,[],λg=>by have:=pC.2 g;omega⟩
 ·refine⟨b,cs,λ_=>⟨⟨ha,hbb,hq,λ{j v} d=>?_,?_⟩,hle,hcl⟩⟩
  ·rw[←ht,zj]at d;split at d
   ·exact d
   ·cases d
  ·have:=congrArg List.length ht;rw[zZ,QQ h.len]at this;omega
theorem Ip (h:fA U F p c ps ss){R:Sl->Hp->Prop}
 (hR:∀o σ',Ext F U σ'->bR o 2 (iG c (Qd ss)) σ' (λb=>U.size<=b)->fA σ' (Cut F U) p c (iU ps ss) (cG ss)->R o σ'):XH.c (aW p) U R:=by
 refine XH.o ?_;unfold XH.v;have h:=fA.loc.cut h;obtain⟨sl,a,B,z,W,cs,N⟩:=h.mE;refine VU h (cB rfl (nw (cs:=[.slice none 0 0]) λV Q e1 E=>aG ((e1.bT a id).rS rfl ?_)));refine LS h e1 B (zD _) N ⟨⟨none,0,0⟩,E,bR.nil _ _ _ _⟩ λS mE e2 ⟨o,A,H⟩ r=>aG ?_;have K:=a.lt;have e:=h.nd;have d:=SF (y7 (ps:=ps) (ss:=ss));simp only[zr]at e;refine(e2.bT (e1.bT a id) λC=>by rcases C with h|h;exact h.2.1 rfl;omega).s1 aA λv3 o3 G=>?_;have y:=Ws o3 A (by have:=A.lt;omega);refine y.uy rfl (hR o v3 ?_ (aI.bS (aI.mono H λb _ a=>O) o3.ext λb _ a g=>O) ?_)
 ·refine(e1.to.dT e2 λb a=>?_).dT o3.ext λb a=>?_
  ·rcases a with h|h
   ·exact .inl h.1.1
   ·exact .inr h
  ·subst a;exact .inl h.fp.1
 ·have w:∀b,b∈dX ps->b<U.size->¬(Cut F U b/\b≠p/\b∉dX ps\/U.size<=b):=λb a P C=>by
   rcases C with h|h
   ·exact h.2.2 a
   ·omega
  refine⟨⟨mE,G,?_⟩,λi x s L M=>?_,h.fp,λb a=>h.fb b (d.subset a),?_,HE h.len,h.ok,h.pM.sublist sD⟩
  ·rcases r with⟨rfl,_,q2,q3,ex⟩|hr
   ·rw[q2,q3];exact aI.bS (aI.bS (aI.bO z e1) ex λb _ a g=>by have:=a.1.2;omega) o3.ext λb _ a g=>a.2.1 g
   ·exact aI.bS (aI.mono hr λb _ a=>⟨a.1,a.2.1,λm=>a.2.2 (d.subset m)⟩) o3.ext λb _ a g=>a.2.1 g
  ·obtain⟨j,u,D⟩:=Ia h.len L M;have J:=h.sp j x s u D;have m:=Qf u;have B:=J.lt;exact((J.bO e1).bS e2 (w _ m.1 B.1) (w _ m.2 B.2)).bS o3.ext (λg=>e.1 (g▸m.1)) (λg=>e.1 (g▸m.2))
  ·simp only[zr];exact⟨λm=>e.1 (d.subset m),e.2.sublist d⟩
theorem JC {x:Int}{k i:Nat}{s:cF}(hc:0<c.size)(hk:kD c ss x=some k)(hs:ss[k]?=some s)(v:Bool)(y:Int):kD c (ss.set k (s.put i v)) y=kD c ss y:=by
 have a:∀t:cF,∀j w z,idx c (t.put j w) z=idx c t z:=λt j w z=>by unfold idx cF.put;simp only[nG]
 unfold kD;have b:=(cW.1 hs).1;have:(ss.set k (s.put i v)).map (λs=>(idx c s y).isSome)=ss.map (λs=>(idx c s y).isSome):=by
  apply zo;intro j;simp only[zd];by_cases hjk:j=k
  ·subst hjk;rw[zL b,hs];simp[a]
  ·rw[zk (Ne.symm hjk)]
 have d:∀l:List cF,l.findIdx? (λs=>(idx c s y).isSome)=(l.map λs=>(idx c s y).isSome).findIdx? id:=λl=>by rw[List.findIdx?_map];rfl
 rw[d,d,this]
def kc (c:bZ)(ss:List cF)(xs:List Int):Prop:=(∀x∈xs,dY c ss x=some true)/\xs.Nodup
theorem Gn {x:Int}{b:Bool}(h:dY c ss x=some b):∃k s i,kD c ss x=some k/\ss[k]?=some s/\obj c s x=some i/\s.is i=b:=by
 unfold dY at h;split at h
 ·rename_i k hk;split at h
  ·rename_i s hs;cases ho:obj c s x with
   | none=>rw[ho]at h;cases h
   | some i=>rw[ho]at h;exact⟨k,s,i,hk,hs,ho,by simpa[cF.is]using h⟩
  ·cases h
 ·cases h
theorem xe {x:Int}{k i:Nat}{s:cF}(hk:kD c ss x=some k)(hs:ss[k]?=some s)(ho:obj c s x=some i):fC c ss x=ss.set k (s.put i false):=by
 simp[fC,hk,hs,ho]
theorem Sd {x y:Int}(hc:0<c.size)(hx:dY c ss x=some true)(hne:y≠x):dY c (fC c ss x) y=dY c ss y:=by
 obtain⟨k,s,i,u,d,A,_⟩:=Gn hx;rw[xe u d A];have g:=(cW.1 d).1;have a:=JC hc u d false (i:=i) y;have p:∀t:cF,∀j w z,obj c (t.put j w) z=obj c t z:=λt j w z=>by unfold obj idx at_ cF.put;simp only[nG]
 cases hy:kD c ss y with
 | none=>rw[yH (a.trans hy),yH hy]
 | some m=>
  by_cases hmk:m=k
  ·subst hmk;rw[Vx (a.trans hy) (zL g),Vx hy d,p];cases hoy:obj c s y with
   | none=>rfl
   | some j=>
    simp only[zX,Option.some.injEq];have r:i≠j:=λe=>by
     subst e;exact hne (((Uq hc).1 hoy).1.trans ((Uq hc).1 A).1.symm)
    simp[cF.is,cF.put,zP,zk r]
  ·have b:m<ss.length:=(nm.1 hy).1;rw[Vx (a.trans hy) ((zk (Ne.symm hmk)).trans (cV b)),Vx hy (cV b)]
theorem kc.next {x:Int}{xs:List Int}(hc:0<c.size)(h:kc c ss (x::xs)):kc c (fC c ss x) xs:=by
 have a:=zr.1 h.2;refine⟨λy b=>?_,a.2⟩;rw[Sd hc (h.1 x aA) λe=>a.1 (e▸b)];exact h.1 y (by simp[b])
theorem Fx {xs:List Int}(h:iB c ss xs=0):kc c ss xs:=by
 unfold iB at h;split at h
 ·cases h
 ·rename_i h1;split at h
  ·cases h
  ·rename_i h2;simp only[nb,not_or,pS,l6,Bool.not_eq_false',zU,zT]at h1 h2;refine⟨λx d=>?_,h2.2⟩;have a:=h1 x d;have b:=h2.1 x d;cases ht:dY c ss x with
   | none=>rw[ht]at a;simp at a
   | some v=>
    cases v
    ·rw[ht]at b;exact absurd rfl b
    ·rfl
theorem IN {sl:Sl}{xs:List Int}{X:Rg}(h:fA U F p c ps ss)(hs:cU sl 1 (xs.map (Value.int .i64)) U X)(hX:∀b,X b->¬F b)(hi:∀x∈xs,iE x)(hA:kc c ss xs)(hl:xs.length<=1000000){K:aP}
 (hK:∀σ',Ext F U σ'->fA σ' F p c ps (xs.foldl (fC c) ss)->K σ') :
 Ys [bN] (λI1=>I1 0 U) λJ3 (t49:Int) v6=>If (decide (t49<((sl.len:Nat):Int))) (Ix sl.a sl.len t49 1 λa51=>gp .i64 a51 v6 λaddr1=>
  XF.c (aW p) addr1 v6 λvx v7=>bU vx λa57=>fT (a57.add 2) v7 λt59=>Zn.c t59 addr1 v7 λt61 v8=>bU vx λa63=>gp .i64 ((a63.add 0).add 0) v8 λt66=>
  Ar .i64 (t66-1) λt67=>bU vx λa68=>dN ((a68.add 0).add 0) (.int .i64 t67) v8 λv9=>Ar .i64 (t49+1) λt71=>J3 t71 v9) (K v6):=by
 have hlen:sl.len=xs.length:=by have:=hs.1;simp at this;omega
 have H:0<c.size:=by have:=h.ok.1;omega
 refine Z6 (a:=bN) (λ(t:Int) M=>∃(i:Nat) (r:List cF),t=(i:Int)/\i<=xs.length/\Ext F U M/\fA M F p c ps r/\kc c r (xs.drop i)/\(xs.drop i).foldl (fC c) r=xs.foldl (fC c) ss) (λt _=>xs.length-t.toNat) ⟨0,ss,rfl,O,Ext.refl _ _,h,by simpa using hA,by simp⟩ ?_;rintro t M ⟨i,r,rfl,hil,e,N,y,B⟩;refine cQ (λhlt=>?_) λhge=>?_
 ·have w:i<xs.length:=by omega
  have hx:xs[i]?=some xs[i]:=cV w;have hd:xs.drop i=xs[i]::xs.drop (i+1):=wR w;rw[hd]at y B;refine(aH.bS hs e λb _ P hF=>hX b P hF).nc hx ?_;obtain⟨k,s,j,L,d,J,C⟩:=Gn (y.1 xs[i] py);have D:=hi xs[i] (j7 w);refine BV N xs[i] D (λhn=>by rw[L]at hn;cases hn) λk' mE rb cs G S P E=>aG ?_;rw[L]at G;cases G;obtain⟨V,s',W,A,Y⟩:=N.jD S;rw[d]at A;cases A;have eg:=QE W d;have hj:=((Uq H).1 J).2;refine E.bT.rP (x:=some ⟨V.1,0,none⟩) (E.get eg.2.2) ?_;refine NA Y D J C λv8 e8 Z=>aG ?_;have z:=Qf W;have Q:¬(rb=V.1\/rb=V.2):=λhh=>E.fr.2.2 (by rcases hh with h|h<;>rw[h];exact z.1;exact z.2)
  have hml:=Bm s;have g:=Gg hj false;rw[C]at g;have hsl:=Y.len;have hnl:=Y.ok.kx;have u:((s.put j false).many:Int)=s.many-1:=by simp at g;omega
  refine(e8.bT E.bT Q).eY (E.get eg.1) (ar O O (aG ?_));simp only[add_lit,j8];rw[←u];refine N.oU (s':=s.put j false) W d rfl e8 Z P E λv9 e9 R=>?_;refine cP (m:=i+1) O O ⟨⟨i+1,_,rfl,O,e.trans e9,R,?_,?_⟩,O⟩
  ·have:=kc.next H y
   rwa [xe L d J]at this
  ·rw[qk,xe L d J]at B;exact B
 ·have:i=xs.length:=by omega
  subst this;rw[List.drop_length,List.foldl_nil]at B;subst B;exact hK M e N
theorem L7 (h:fA U F p c ps ss){sl:Sl}{xs:List Int}{X:Rg}(hs:cU sl 1 (xs.map (Value.int .i64)) U X)(hX:∀b,X b->¬F b)(hi:∀x∈xs,iE x)(hl:xs.length<=1000000)(hcap:sl.len<=sl.cap){R:Sl->Int->Hp->Prop}
 (h0:iB c ss xs≠0->R ⟨none,0,0⟩ (iB c ss xs) U)
 (h1:iB c ss xs=0->∀o σ',Ext F U σ'->bR o 2 (iG c (Qd (xs.foldl (fC c) ss))) σ' (λb=>U.size<=b)->fA σ' (Cut F U) p c (iU ps (xs.foldl (fC c) ss)) (cG (xs.foldl (fC c) ss))->R o 0 σ') :
 YG.c (aW p) sl U R:=by
 refine YG.o ?_;unfold YG.v;have hlen:sl.len=xs.length:=by have:=hs.1;simp at this;omega
 refine VU h (cB rfl ?_);have tw:∀i,(xs.take i).any (λx=>dY c ss x==some false)=true\/¬(xs.take i).Nodup->(∀x∈xs,(dY c ss x).isSome=true)->iB c ss xs=9:=by
  intro i d hall;unfold iB;rw[zB,zC]
  ·rcases d with d|d
   ·rw[ko]at d;obtain⟨x,u,hx2⟩:=d;have:xs.any (λx=>dY c ss x==some false)=true:=ko.2 ⟨x,uW u,hx2⟩;rw[this];rfl
   ·have:¬xs.Nodup:=λE=>d (E.sublist (Bv _ _));simp[this]
  ·simp only[pS,l6];intro x u;have:=hall x u;cases ht:dY c ss x
   ·rw[ht]at this;cases this
   ·simp
 refine UH (a:=.b) (bb:=bN) (λ(tw:Bool) (t:Int) B=>∃i:Nat,t=(i:Int)/\i<=xs.length/\B=U/\(∀x∈xs.take i,(dY c ss x).isSome=true)/\(tw=true↔(xs.take i).any (λx=>dY c ss x==some false)=true\/¬(xs.take i).Nodup)) (λ_ t _=>xs.length-t.toNat)
  ⟨0,rfl,O,rfl,by simp,by simp⟩ ?_
 rintro A t B ⟨i,rfl,hil,rfl,g,C⟩;refine cQ (λhlt=>?_) λhge=>?_
 ·have D:i<xs.length:=by omega
  have u:xs[i]?=some xs[i]:=cV D;have Y:=hi xs[i] (j7 D);have H:xs.take (i+1)=xs.take i++[xs[i]]:=by rw[k6,u];rfl
  refine hs.nc u (G2 h xs[i] Y (λb d=>cB rfl ?_) λE=>cD rfl ?_)
  ·have w:∀x∈xs.take (i+1),(dY c ss x).isSome=true:=by
    rw[H];intro x u;rcases zK.1 u with h1|h1
    ·exact g x h1
    ·simp at h1;subst h1;rw[d];rfl
   have fin:∀K:Bool,(K=true↔(xs.take (i+1)).any (λx=>dY c ss x==some false)=true\/¬(xs.take (i+1)).Nodup)->Ar .i64 ((i:Int)+1) λs=>
    (∃j:Nat,s=(j:Int)/\j<=xs.length/\B=B/\(∀x∈xs.take j,(dY c ss x).isSome=true)/\(K=true↔(xs.take j).any (λx=>dY c ss x==some false)=true\/¬(xs.take j).Nodup))/\xs.length-s.toNat<xs.length-(i:Int).toNat:=
    λK S=>cP (m:=i+1) O O ⟨⟨i+1,rfl,O,rfl,w,S⟩,O⟩
   have aa:∀y:Int,(xs.take i++[y]).Nodup↔(xs.take i).Nodup/\y∉xs.take i:=λy=>by
    rw[nK];constructor
    ·exact λh=>⟨h.1,λM=>h.2.2 y M y aA rfl⟩
    ·exact λh=>⟨h.1,by simp,λa ha z hz e=>by simp at hz;subst hz;exact h.2 (e▸ha)⟩
   have ex:(xs.take (i+1)).any (λx=>dY c ss x==some false)=true\/¬(xs.take (i+1)).Nodup↔(A=true\/b=false)\/xs[i]∈xs.take i:=by
    rw[H,aa,List.any_append,C];simp only[List.any_cons,List.any_nil,Bool.or_false,nb,d];have V:((some b==some false)=true)↔b=false:=by cases b<;>simp
    rw[V];constructor
    ·rintro((h|h)|h)
     ·exact .inl (.inl (.inl h))
     ·exact .inl (.inr h)
     ·by_cases E:(xs.take i).Nodup
      ·by_cases M:xs[i]∈xs.take i
       ·exact .inr M
       ·exact absurd ⟨E,M⟩ h
      ·exact .inl (.inl (.inr E))
    ·rintro(((h|h)|h)|h)
     ·exact .inl (.inl h)
     ·exact .inr λG=>h G.1
     ·exact .inl (.inr h)
     ·exact .inr λG=>G.2 h
   have J1:∀r:Bool,(r=true↔A=true\/b=false)->bV (λK v4=>Ar .i64 ((i:Int)+1) λs=>
    (∃j:Nat,s=(j:Int)/\j<=xs.length/\v4=B/\(∀x∈xs.take j,(dY c ss x).isSome=true)/\(K=true↔(xs.take j).any (λx=>dY c ss x==some false)=true\/¬(xs.take j).Nodup))/\xs.length-s.toNat<xs.length-(i:Int).toNat) λJ2=>
    If r (J2 true B) (eX sl 1 0 (i:Int) (sl.cap:Nat) λQ=>Wp.c Q xs[i] B λN v5=>J2 N v5):=by
    intro r hr;refine bV.intro ?_;cases r
    ·refine cB rfl ?_;refine iN (lo:=0) O O O ?_;have L:cU ⟨if sl.cap=0 then sl.a else sl.a.map (·.add (0*1)),i-0,sl.cap-0⟩ 1 ((xs.take i).map (Value.int .i64)) B X:=by
      refine⟨by simp;omega,?_⟩;rcases hs.2 with h0|⟨b',o',cs',hf',ha',hb',hc'⟩
      ·left;have:xs=[]:=by simpa using h0
       simp[this]
      ·refine .inr ⟨b',o',cs',hf',?_,hb',λj hj=>?_⟩
       ·rw[zB O,ha'];simp[add_lit]
       ·simp only[zl,zZ]at hj;rw[hc' j aE,List.map_take,zj,zC O]
     refine IJ L aE _ (fin _ ?_);rw[ex,←hr];simp
    ·refine cD rfl (fin true ?_);rw[ex,←hr];simp
   refine bV.intro ?_;cases A
   ·refine cB rfl (J1 _ ?_);cases b<;>simp
   ·exact cD rfl (J1 _ aA)
  ·have:iB c ss xs=8:=by
    unfold iB;rw[zC];exact ko.2 ⟨xs[i],j7 D,by rw[E];rfl⟩
   have h0:=h0 (by rw[this];decide);rw[this]at h0;exact h0
 ·have:i=xs.length:=by omega
  subst this;rw[mK]at *;cases A
  ·refine cB rfl ?_;have hE:iB c ss xs=0:=by
    unfold iB;have W:¬(xs.any (λx=>dY c ss x==some false)=true\/¬xs.Nodup):=λG=>by have:=C.2 G;cases this
    rw[zB,zB]
    ·simp only[not_or,pS,Decidable.not_not]at W;rw[W.1];simp[W.2]
    ·simp only[pS,l6];intro x u;have:=g x u;cases ht:dY c ss x
     ·rw[ht]at this;cases this
     ·simp
   refine IN (fA.loc.cut h) hs (λb d hf=>hX b d hf.1) hi (Fx hE) hl λv6 e6 P=>?_;refine Ip P λo ab Z hro J=>?_;exact h1 hE o ab ((e6.trans Z).sub λb d=>d.1) (aI.mono hro λb _ d=>zh e6.1 d) (fA.loc.mono J λb _ d=>d.1)
  ·refine cD rfl ?_;have h9:=tw xs.length (by rw[mK];exact C.1 rfl) g;have h0:=h0 (by rw[h9];decide);rw[h9]at h0;exact h0
theorem PX {x y:Sl}{a o b o':Nat}{cs ds:List Value}(hx:x.a=some ⟨a,o,none⟩)(hy:y.a=some ⟨b,o',none⟩)(ha:bX U a cs)(hb:bX U b ds)(hne:a≠b)(hd:ds≠[]){K:aO}(hK:K false U) :
 sM Tryz.prog 288 [.slice x.a x.len x.cap,.slice y.a y.len y.cap] U K:=by
 rintro w rfl;obtain⟨g,ha⟩:=ha;obtain⟨d,hb⟩:=hb;refine⟨false,w,?_,.refl _,hK⟩;rw[hx,hy,run_callFunc_extern Tryz.func288 (by kernel_rfl) (by kernel_rfl) (by kernel_rfl) (e:=Extern.SlicesOverlaps.overlaps #[255,255] #[4]) (by kernel_rfl)];have:=Lib.run_overlaps_apart (P:=Tryz.prog) w 255 4 262 Tryz.underlying255 3 Tryz.sizeOf262
  ⟨a,o,none⟩ ⟨b,o',none⟩ x.len x.cap y.len y.cap hne g d cs.length ds.length (by simp[World.shape?,ha]) (by simp[World.shape?,hb]) (by simpa using hd) (by simp[World.frozen?,ha]) (by simp[World.frozen?,ha])
 rw[this];rfl
theorem Iz {Q:Rg}{s:Sl}{xs:List Value}{i m vb:Nat}{x y z:Value}(h:bR s 3 xs U Q)(hlen:s.len=m)(hm:m<=2000)(hi:i<=m)(hv:bX U vb [x,y,z])(hvb:¬Q vb)(h1:∀v∈xs,dQ v=true)(h2:dQ x=true/\dQ y=true/\dQ z=true)
 {R:Sl->Hp->Prop} (hR:∀s' σ',Ext Q U σ'->bR s' 3 (xs.take (3*i)++[x,y,z]++xs.drop (3*i)) σ' (Grow Q U)->R s' σ') :
 Wg.c s (i:Int) ⟨some ⟨vb,0,none⟩,1,1⟩ U R:=by
 refine Wg.o ?_;unfold Wg.v;have hxl:=h.1;have hcap:s.len<=s.cap:=by
  rcases h.2 with⟨h0,h0'⟩|⟨b,cs,_,_,_,K,_⟩
  ·omega
  ·exact K
 have hrd:Rd U (some ⟨vb,0,none⟩) [x,y,z]:=by
  intro j u hu;rw[add_lit,zH,hv.cell];exact hu
 have W:∀v∈[x,y,z],dQ v=true:=by simp[h2]
 refine iN O O O (cB rfl (cO (λhe=>?_) λhe=>?_))
 ·have Y:i=m:=by
   have:(i:Int)=((s.len:Nat):Int):=by simpa using he
   omega
  refine h.app (ys:=[x,y,z]) rfl rfl hrd W aD aD mT λs' h' hl' e' Z=>hR s' h' e' ?_
  rw[mG O,List.drop_of_length_le O,kP];exact Z
 ·have Y:i<m:=by
   have:¬(i:Int)=((s.len:Nat):Int):=by simpa using he
   omega
  obtain⟨b,cs,P,ha,E,K,H,ht⟩:∃b cs,Q b/\s.a=some ⟨b,0,none⟩/\bX U b cs/\s.len<=s.cap/\cs.length=s.cap*3/\cs.take xs.length=xs:=by
   rcases h.2 with⟨h0,_⟩|h
   ·omega
   ·exact h
  have J:vb≠b:=λe=>hvb (e▸P);have w:∀j v,xs[j]?=some v->cs[j]?=some v:=λj v p=>by
   rw[←ht,zj]at p;split at p
   ·exact p
   ·cases p
  refine cP (m:=m+1) aD O (cQ (λhgt=>?_) λhle2=>?_)
  ·-- no room: a new row
   refine iN (lo:=0) O O O (cP (m:=m+1) aD O (cP (m:=m+1-i) O O ?_))
   have B:¬s.cap=0:=by omega
   rw[zB B];simp only[ha,zX,add_lit,uR,j8,Nat.sub_zero];refine⟨O,xs.take (3*i),by rw[zZ];simp only;omega,?_,by simp[dQ],by simp only;omega,by simp only;omega,O,λhin=>by simp only at hin;omega,λ_ cc G=>?_⟩
   ·intro j v p;rw[add_lit,zH,E.cell];rw[zj]at p;split at p
    ·exact w j v p
    ·cases p
   simp only[dE]at G ⊢;have hi1:i+(m+1-i)=m+1:=by omega
   rw[hi1]at G ⊢;refine nw λv2 hz2 e2 hb2=>?_;have A:∀k,(List.replicate k [Value.int .i64 0,.int .i64 0,.pointer none]).flatten.length=3*k:=λk=>by
    rw[wW,tQ,vB];simp;omega
   have g:(xs.take (3*i)).length=3*i:=by rw[zZ];omega
   refine iN aD aD aD ?_
   have aa:=e2.bT hv id;have n1:(if cc=i then(some ⟨U.size,0,none⟩:Option Addr)else(some ⟨U.size,0,none⟩:Option Addr).map (·.add (i*3)))=some ⟨U.size,i*3,none⟩:=by
    have:¬cc=i:=by omega
    rw[zB this];simp[add_lit]
   rw[n1];refine⟨[x,y,z],by simp only;rw[pz O];rfl,?_,W,?_⟩
   ·intro j u hu;rw[add_lit,zH,aa.cell];exact hu
   simp only;refine VT (o:=i*3) (i:=0) hb2 (by simp only[zO,g,A,zY,lK];omega) λv3 o3 S=>?_;refine cP (m:=i+1) aD O (iN aD aD aD (iN O O O ?_))
   have M:bX v3 b cs:=Ws o3 (e2.bT E id) (by have:=E.lt;omega);have d:(xs.drop (3*i)).length=3*(m-i):=by rw[j3];omega
   refine⟨xs.drop (3*i),by simp only;rw[pz O,d];omega,?_,λv hv=>h1 v (sH hv),?_⟩
   ·have r:¬s.cap=i:=by omega
    rw[zB r];simp only[ha,zX,add_lit];intro j v p;rw[add_lit,M.cell];rw[kR]at p;have:=w _ _ p;rw[show 0+i*3+j=3*i+j by omega];exact this
   have hbig:(xs.take (3*i)++(List.replicate (m+1-i) [Value.int .i64 0,.int .i64 0,.pointer none]).flatten++(List.replicate (cc-(m+1)) [Value.int .i64 0,.int .i64 0,.pointer none]).flatten).length=3*cc:=by
    simp only[zO,g,A];omega
   have tk:∀L:List Value,((xs.take (3*i)++(List.replicate (m+1-i) [Value.int .i64 0,.int .i64 0,.pointer none]).flatten++(List.replicate (cc-(m+1)) [Value.int .i64 0,.int .i64 0,.pointer none]).flatten).take (3*i))=xs.take (3*i):=λ_=>by
    rw[jY,oD O,mG O]
   have fin:∀v4,Qo v3 v4 U.size->bX v4 U.size ((xs.take (3*i)++[x,y,z])++xs.drop (3*i)++((xs.take (3*i)++(List.replicate (m+1-i) [Value.int .i64 0,.int .i64 0,.pointer none]).flatten++(List.replicate (cc-(m+1)) [Value.int .i64 0,.int .i64 0,.pointer none]).flatten).drop (3*i+3)).drop (3*(m-i)))->R ⟨some ⟨U.size,0,none⟩,m+1,cc⟩ v4:=by
    intro v4 o4 b4;refine hR _ v4 ?_ ⟨?_,.inr ⟨U.size,_,.inr (zD _),rfl,b4,by simp only;omega,?_,?_⟩⟩
    ·exact((e2.to.dT o3.ext λi hi=>by subst hi;exact .inr (zD _)).dT o4.ext λi hi=>by subst hi;exact .inr (zD _))
    ·simp only[zO,g,d,zY,lK];omega
    ·simp only[zO,g,d,zY,lK,j3,A];omega
    ·rw[jY (xs.take (3*i)++[x,y,z]),←jY,xg];rfl
   have e3:(xs.take (3*i)++(List.replicate (m+1-i) [Value.int .i64 0,.int .i64 0,.pointer none]).flatten++(List.replicate (cc-(m+1)) [Value.int .i64 0,.int .i64 0,.pointer none]).flatten).take (i*3+0)=xs.take (3*i):=by
    rw[show i*3+0=3*i by omega];exact tk []
   rw[e3]at S;have D:(xs.take (3*i)++[x,y,z]++(xs.take (3*i)++(List.replicate (m+1-i) [Value.int .i64 0,.int .i64 0,.pointer none]).flatten++(List.replicate (cc-(m+1)) [Value.int .i64 0,.int .i64 0,.pointer none]).flatten).drop (i*3+0 + [x,y,z].length)).length=3*cc:=by
    simp only[zO,j3,g,A,zY,lK];omega
   by_cases r:cc=i+1
   ·exfalso;omega
   ·rw[zB r];simp only[zX,add_lit,zH];refine VT (o:=(i+1)*3) (i:=0) S (by rw[D,d];omega) λv4 o4 b4=>fin v4 o4 ?_;have q1:(i+1)*3+0=(xs.take (3*i)++[x,y,z]).length:=by rw[zO,g];simp;omega
    have q2:(i+1)*3+0+(xs.drop (3*i)).length=(xs.take (3*i)++[x,y,z]).length+3*(m-i):=by rw[d,q1]
    rw[q2,q1,xg,List.drop_append]at b4
    ·rw[List.drop_of_length_le (show(xs.take (3*i)++[x,y,z]).length<=(xs.take (3*i)++[x,y,z]).length+3*(m-i) by omega),tn]at b4;have q3:i*3+0 + [x,y,z].length=3*i+3:=by simp;omega
     rw[q3]at b4;have q4:(xs.take (3*i)++[x,y,z]).length+3*(m-i)-(xs.take (3*i)++[x,y,z]).length=3*(m-i):=by omega
     rw[q4]at b4;exact b4
    ·rfl
  ·-- room: the rest moves
   have hle3:m+1<=s.cap:=by omega
   have B:¬s.cap=0:=by omega
   have r:¬s.cap=i:=by omega
   refine cP (m:=m+1) aD O (iN (lo:=0) O O O ?_)
   rw[zB B];simp only[ha,zX,add_lit,uR,j8,Nat.sub_zero];refine cP (m:=i+1) aD O (iN aD aD aD ?_)
   have C:cs.take (3*m)=xs:=by rw[←hlen,show 3*s.len=xs.length by omega];exact ht
   have na:∃o',(if s.cap=i+1 then(some ⟨b,0,none⟩:Option Addr)else(some ⟨b,0,none⟩:Option Addr).map (·.add ((i+1)*3)))=some ⟨b,o',none⟩:=by
    split
    ·exact⟨0,rfl⟩
    ·exact⟨_,by simp[add_lit];rfl⟩
   obtain⟨o',na⟩:=na;refine PX (x:=⟨some ⟨vb,0,none⟩,1,1⟩) (a:=vb) (o:=0) (b:=b) rfl na hv E J (λe=>by rw[e]at H;simp at H;omega) (cD rfl ?_);refine cP (m:=i+1) aD O (iN aD aD aD (iN aD aD aD ?_))
   have N:¬s.cap=i+1:=by omega
   rw[zB N,zB r];simp only[zX,add_lit,zH];have d:(xs.drop (3*i)).length=3*(m-i):=by rw[j3];omega
   refine⟨xs.drop (3*i),by simp only;rw[Nat.min_eq_right O,d];omega,?_,λv hv=>h1 v (sH hv),?_⟩
   ·intro j v p;rw[add_lit,E.cell];rw[kR]at p;have:=w _ _ p;rw[show i*3+j=3*i+j by omega];exact this
   refine VT (o:=(i+1)*3) (i:=0) E (by rw[d];omega) λv3 o3 S=>?_;refine iN aD aD aD ?_
   rw[zB r];simp only[zX,add_lit,zH];have X:=Ws o3 hv J;refine⟨[x,y,z],by simp only;rw[pz O];rfl,?_,W,?_⟩
   ·intro j u hu;rw[add_lit,zH,X.cell];exact hu
   have V:(cs.take ((i+1)*3+0)++xs.drop (3*i)++cs.drop ((i+1)*3+0+(xs.drop (3*i)).length)).length=cs.length:=by
    simp only[zO,zZ,j3,d];omega
   refine VT (o:=i*3) (i:=0) S (by rw[V];simp;omega) λv4 o4 b4=>?_;have a1:(cs.take ((i+1)*3+0)).length=3*i+3:=by rw[zZ];omega
   have g:(xs.take (3*i)).length=3*i:=by rw[zZ];omega
   have p1:(cs.take ((i+1)*3+0)++xs.drop (3*i)++cs.drop ((i+1)*3+0+(xs.drop (3*i)).length)).take (i*3+0)=xs.take (3*i):=by
    rw[jY,oD O,ym,pz O,←C,ym,pz O]
    congr 1;omega
   have p2:(cs.take ((i+1)*3+0)++xs.drop (3*i)++cs.drop ((i+1)*3+0+(xs.drop (3*i)).length)).drop (i*3+0 + [x,y,z].length)=xs.drop (3*i)++cs.drop ((i+1)*3+0+(xs.drop (3*i)).length):=by
    rw[jY,List.drop_left'];rw[a1];simp;omega
   rw[p1,p2,←jY]at b4;refine hR _ v4 ((Ext.eJ (F:=Q) o3 P).trans (Ext.eJ o4 P)) ⟨?_,.inr ⟨b,_,.inl P,rfl,b4,aD,?_,?_⟩⟩
   ·simp only[zO,g,zY,lK,d];omega
   ·simp only[zO,g,j3,zY,lK,d];omega
   ·rw[xg];rfl
def Zf (ss:List cF)(st:Nat):Nat:=(ss.takeWhile (λs=>s.st<st)).length
theorem Hy (l:List cF)(P:cF->Bool):l.takeWhile P=l.take (l.takeWhile P).length/\l.dropWhile P=l.drop (l.takeWhile P).length:=by
 induction l with
 | nil=>simp
 | cons x l ih=>
  simp only[List.takeWhile_cons,List.dropWhile_cons];cases P x
  ·simp
  ·simp only[zR,zY,uH,yF];exact⟨by rw[←ih.1],ih.2⟩
theorem vR (c:bZ)(ss:List cF)(st:Nat):ie c ss st=ss.take (Zf ss st)++⟨st,List.replicate c.n false⟩::ss.drop (Zf ss st):=by
 have:=Hy ss (λs=>decide (s.st<st));unfold ie Zf;rw[this.2,←this.1]
theorem Hq (hs:ss.Pairwise (λa b=>a.st<b.st))(st:Nat):Zf ss st<=ss.length/\∀(i:Nat) s,ss[i]?=some s->(s.st<st↔i<Zf ss st):=by
 unfold Zf
 induction ss with
 | nil=>simp
 | cons x ss ih=>
  have e:=rf.1 hs;obtain⟨j,g⟩:=ih e.2;simp only[List.takeWhile_cons];by_cases hx:x.st<st
  ·simp only[hx,decide_true,zR,zY];refine⟨O,λi s d=>?_⟩;cases i with
   | zero=>simp at d;subst d;simp[hx]
   | succ i=>have:=g i s (by simpa using d);omega
  ·simp only[hx,decide_false,zc,zz,lK,Nat.zero_le,Nat.not_lt_zero,iff_false,sU];intro i s d;cases i with
   | zero=>simp at d;subst d;exact hx
   | succ i=>
    have:=e.1 s (zG (i:=i) (by simpa using d));omega
theorem Pz (h:fA U F p c ps ss){σ1:Hp}(e1:bK U σ1){sl:Sl}{rb:Nat}{cs:List Value}(hl:sl.len=ss.length)(hE:ss≠[]->qT U F p ps ss sl rb cs)(st:Nat)(hst:st<=1024){R:Int->Bool->Hp->Prop}(hR:∀σ' b,bK σ1 σ'->R (Zf ss st:Int) b σ') :
 Wb.c sl (st:Int) ⟨259,#[],#[]⟩ σ1 R:=by
 refine Wb.o ?_;unfold Wb.v;have Q:=h.pI;obtain⟨M,kG⟩:=Hq h.pM st;have D:∀(k:Nat) (x:Nat×Nat) s (v:Hp) (K:aN),ps[k]?=some x->ss[k]?=some s->bK σ1 v->(∀C,bK v C->K ((s.st:Int)-(st:Int)) C) →
  VP Tryz.prog ⟨259,#[],#[]⟩ [.agg #[.int .i64 (s.many:Int),.int .i64 (s.st:Int),.pointer (some ⟨x.1,0,none⟩)],.int .i64 (st:Int)] [.one bN] v K:=by
  intro k x s v K u g ev hK;refine pd (all := #[.agg #[.int .i64 (s.many:Int),.int .i64 (s.st:Int),.pointer (some ⟨x.1,0,none⟩)],.int .i64 (st:Int)]) (by kernel_rfl) aA ?_;refine Yy.o ?_;unfold Yy.v;have hf:=(h.sp k x s u g).fit;refine nw (cs:=[.int .i64 (s.many:Int),.int .i64 (s.st:Int),.pointer (some ⟨x.1,0,none⟩)]) λX hz e H=>H.eY rfl (ar O O (hK X e))
 refine UH (a:=bN) (bb:=bN) (λ(i j:Int) v=>∃a b:Nat,i=(a:Int)/\j=(b:Int)/\a<=Zf ss st/\Zf ss st<=b/\b<=ss.length/\bK σ1 v) (λi j _=>j.toNat-i.toNat) ⟨0,ss.length,rfl,by rw[hl],O,M,O,Ext.refl _ _⟩ ?_;rintro i j v ⟨a,b,rfl,rfl,W,H,z,ev⟩;have B:bK U v:=e1.trans ev;refine cQ (λaa=>?_) λab=>?_
 ·have y:ss≠[]:=by rintro rfl;simp at z;omega
  have E:=hE y;refine cP (m:=a+b) O O ?_;have Z:IntKind.u64.wrap ((a+b:Nat):Int)=((a+b:Nat):Int):=by
   unfold IntKind.wrap;simp[IntKind.bits,IntKind.signed];omega
  refine tT ?_;rw[Z];refine nn O ?_;have L:min (1:Int).toNat IntKind.u64.bits=1:=by decide
  rw[L,CL];have A:(((a+b:Nat):Int)/2^1)=(((a+b)/2:Nat):Int):=by omega
  refine cP (m:=(a+b)/2) A O ?_;have d:(a+b)/2<ss.length:=by omega
  obtain⟨x,s,u,g,Y⟩:=h.jD d;have w:=QE u g;rw[E.a];refine ix O O ?_;rw[add_lit,show 0+(((a+b)/2:Nat):Int).toNat*3=3*((a+b)/2) by omega];refine vH (e:=0) (B.bT E.bT id) (E.get w.1) (E.get w.2.1) (E.get w.2.2) (D _ x s v _ u g ev λC G=>?_);have r:=kG _ s g;show If (decide (((s.st:Int)-(st:Int))<0)) _ _;refine cQ (λV=>?_) λP=>?_
  ·exact cP (m:=(a+b)/2+1) O O ⟨⟨_,b,rfl,rfl,by have:=r.1 O;omega,H,z,ev.trans G⟩,O⟩
  ·exact⟨⟨a,_,rfl,rfl,W,by
    apply Classical.byContradiction;intro hc;have:=r.2 O;omega,O,ev.trans G⟩,O⟩
 ·have J:a=Zf ss st:=by omega
  subst J;refine bV.intro (cQ (λN=>?_) λS=>hR v _ ev);have d:Zf ss st<ss.length:=by omega
  have y:ss≠[]:=by rintro rfl;simp at d
  have E:=hE y;obtain⟨x,s,u,g,Y⟩:=h.jD d;have w:=QE u g;rw[E.a];refine ix O O ?_;rw[add_lit,show 0+(Zf ss st:Int).toNat*3=3*Zf ss st by omega];refine vH (e:=0) (B.bT E.bT id) (E.get w.1) (E.get w.2.1) (E.get w.2.2) (D _ x s v _ u g ev λC G=>hR C _ (ev.trans G))
theorem Jf (h:fA U F p c ps ss){st:Nat}(hf:st+c.aF<=1024){R:aN}(h9:HZ c ss st=9->∀σ',bK U σ'->R 9 σ')
 (h0:HZ c ss st=0->∀σ' ps',Ext F U σ'->fA σ' (Grow F U) p c ps' (ie c ss st)->R 0 σ'):YH.c (aW p) (st:Int) U R:=by
 refine YH.o ?_;unfold YH.v;have h:=fA.loc.cut h;obtain⟨sl,d,hl,hrow,rb,cs,hE⟩:=h.mE;have hfew:=h.pI;have hc:=h.ok;have hck:=hc;unfold bZ.ok at hck;refine VU h (cB rfl (aG (d.eY rfl (d.eY rfl (d.eY rfl ?_)))));refine Iu hc hf λv1 C K e1 hpn hqn V=>cB rfl (aG ((e1.bT d id).rS rfl ?_));have hplt:=d.lt;refine Z6 (a:=bN) (λ(t:Int) v=>∃i:Nat,t=(i:Int)/\i<=ss.length/\bK v1 v/\∀(j:Nat) s,j<i->ss[j]?=some s->¬max s.st st-min s.st st<c.aF) (λt _=>ss.length-t.toNat) ⟨0,rfl,O,Ext.refl _ _,λj s y=>O⟩ ?_;rintro t v ⟨i,rfl,Z,ev,P⟩;have r:=e1.trans ev;refine cQ (λac=>?_) λhge=>?_
 ·simp only at ac;have aa:i<ss.length:=by omega
  obtain⟨E,hcap,hcl⟩:=hE (by rintro rfl;simp at aa);obtain⟨x,s,z,g,hS⟩:=h.jD aa;have eg:=QE z g;have hsf:=hS.fit;rw[E.a];refine ix O O ?_;rw[add_lit,show 0+(i:Int).toNat*3=3*i by omega];refine vH (e:=0) (r.bT E.bT id) (E.get eg.1) (E.get eg.2.1) (E.get eg.2.2) (EB λv6 e6 b6=>b6.eY rfl (b6.eY rfl ?_));have hd:(if(st:Int)>(s.st:Int)then(st:Int)else(s.st:Int))-(if(st:Int)<(s.st:Int)then(st:Int)else(s.st:Int))=((max s.st st-min s.st st:Nat):Int):=by
   split<;>split<;>omega
  refine cP (m:=max s.st st-min s.st st) hd O (aG (((r.trans e6).bT d id).eY rfl ?_));refine cQ (λhlt2=>h9 ?_ _ (r.trans e6)) λhge2=>?_
  ·unfold HZ;rw[zC];exact ko.2 ⟨s,zG g,by simpa using(by omega:max s.st st-min s.st st<c.aF)⟩
  ·refine cP (m:=i+1) O O ⟨⟨i+1,rfl,O,ev.trans e6,λj s' y N=>?_⟩,O⟩;by_cases e:j=i
   ·subst e;rw[g]at N;cases N;omega
   ·exact P j s' O N
 ·have hii:i=ss.length:=by simp only at hge;omega
  subst hii;have hE0:HZ c ss st=0:=by
   unfold HZ;rw[zB];simp only[pS,l6,zU];intro s g;obtain⟨j,y⟩:=zQ g;exact P j s (cW.1 y).1 y
  refine aG ((r.bT d id).rS rfl ?_);refine Pz h r hl (λY=>(hE Y).1) st O λv7 bb e7=>aG (((r.trans e7).bT d id).rS rfl ?_);have e07:=r.trans e7;obtain⟨hp1,kG⟩:=Hq h.pM st;refine nw (cs:=[.int .i64 0,.int .i64 st,.pointer (some ⟨C,0,none⟩)]) λv8 hz8 e8 hb8=>?_;have H:=e07.trans e8;have X:=aI.bO hrow H;have hsz7:=e07.1;refine Iz X hl O hp1 hb8 (λw=>by have:=w.1.2;omega) Fe ⟨rfl,rfl,rfl⟩ λs' v9 e9 hr9=>aG ?_;have hb9:=e9.bT (H.bT d id) λw=>w.2.1 rfl;refine hb9.s1 aA λS gH ab=>?_;have J:=h.len;have A:=h.nd;simp only[zr]at A;have ac:=V.lt;have hsz1:=(ev.trans e7).trans e8 |>.1;have D:∀b∈dX ps,b<U.size:=λb d=>(h.fb b d).2;have hS9:∀{a b s'},gV v8 a b c s'->¬(Cut F U a/\a≠p/\a∉dX ps)->¬(Cut F U b/\b≠p/\b∉dX ps)->a≠p->b≠p->gV S a b c s':=λhS n1 n2 m1 m2=>(hS.bS e9 n1 n2).bS gH.ext m1 m2;have hnew:=((V.bO ev).bO e7).bO e8;have hent:dO (ps.take (Zf ss st)++(C,K)::ps.drop (Zf ss st)) (ss.take (Zf ss st)++⟨st,List.replicate c.n false⟩::ss.drop (Zf ss st)) =
   (dO ps ss).take (3*Zf ss st)++[.int .i64 0,.int .i64 st,.pointer (some ⟨C,0,none⟩)]++(dO ps ss).drop (3*Zf ss st):=by
   rw[KP (by simp[J])];have u:dO ps ss=dO (ps.take (Zf ss st)) (ss.take (Zf ss st))++dO (ps.drop (Zf ss st)) (ss.drop (Zf ss st)):=by
    rw[←KP (by simp[J]),nJ,nJ]
   have h2:(dO (ps.take (Zf ss st)) (ss.take (Zf ss st))).length=3*Zf ss st:=by rw[QQ (by simp[J]),zZ];omega
   rw[u,xg h2,List.drop_left' h2,jY];have:cF.many ⟨st,List.replicate c.n false⟩=0:=by simp[cF.many,xR]
   simp[dO,this]
  refine h0 hE0 S (ps.take (Zf ss st)++(C,K)::ps.drop (Zf ss st)) ?_ ?_
  ·refine(((bK.to H).trans (e9.sub λb d=>d.1.1))).trans (gH.ext.sub λb d=>d▸h.fp.1)
  ·have B:(dX (ps.take (Zf ss st)++(C,K)::ps.drop (Zf ss st))).Perm (C::K::dX ps):=by
    have:dX ps=dX (ps.take (Zf ss st))++dX (ps.drop (Zf ss st)):=by
     conv=>lhs;rw[←nJ (Zf ss st) ps]
     simp only[dX,List.flatMap_append]
    rw[this];have h3:dX (ps.take (Zf ss st)++(C,K)::ps.drop (Zf ss st))=dX (ps.take (Zf ss st))++C::K::dX (ps.drop (Zf ss st)):=by simp[dX]
    rw[h3];exact List.perm_middle.trans ((List.perm_middle).cons C)
   have Q:∀b,b∈dX (ps.take (Zf ss st)++(C,K)::ps.drop (Zf ss st))↔b=C\/b=K\/b∈dX ps:=by
    intro b;rw[B.mem_iff];simp
   refine⟨⟨s',ab,?_⟩,λi x s z g=>?_,.inl h.fp.1,λb d=>?_,?_,?_,hc,?_⟩
   ·rw[vR,hent];refine aI.bS (aI.mono hr9 λb _ d=>?_) gH.ext λb _ d he=>d.2.1 he;rw[Q];rcases d with d|d
    ·exact⟨.inl d.1.1,d.2.1,λw=>by
      rcases w with h|h|h
      ·have:=d.1.2;omega
      ·have:=d.1.2;omega
      ·exact d.2.2 h⟩
    ·exact⟨.inr O,O,λw=>by
      rcases w with h|h|h
      ·omega
      ·omega
      ·have:=D b h;omega⟩
   ·rw[vR]at g;have L:(ps.take (Zf ss st)).length=Zf ss st:=by rw[zZ];omega
    have M:(ss.take (Zf ss st)).length=Zf ss st:=by rw[zZ];omega
    have ad:∀j:Nat,ps[j]?=some x->ss[j]?=some s->gV S x.1 x.2 c s:=λj u h2=>by
     have G:=Qf u;exact hS9 ((h.sp j x s u h2).bO H) (λw=>w.2.2 G.1) (λw=>w.2.2 G.2) (λe=>A.1 (e▸G.1)) (λe=>A.1 (e▸G.2))
    rcases pF i (Zf ss st)with hlt'|heq|hgt
    ·rw[ze O,zj,zC hlt']at z g;exact ad i z g
    ·rw[zp O]at z g;rw[L,heq,pV]at z;rw[M,heq,pV]at g;simp at z g;subst z;subst g;exact hS9 hnew (λw=>by have:=w.1.2;simp only at this;omega) (λw=>by have:=w.1.2;simp only at this;omega) aC aC
    ·rw[zp O]at z g;rw[L]at z;rw[M]at g;obtain⟨k,hk⟩:∃k,i-Zf ss st=k+1:=⟨i-Zf ss st-1,O⟩;rw[hk,AE,kR]at z g;exact ad _ z g
   ·rcases(Q b).1 d with u|u|u
    ·subst u;exact .inr hpn
    ·subst u;exact .inr hqn
    ·exact .inl (h.fb b u).1
   ·simp only[zr];refine⟨λG=>?_,?_⟩
    ·rcases(Q p).1 G with u|u|u
     ·omega
     ·omega
     ·exact A.1 u
    ·rw[B.nodup_iff];simp only[zr,zW,not_or];have Y:=V.ne;exact⟨⟨Y,λG=>by have:=D _ G;omega⟩,λG=>by have:=D _ G;omega,A.2⟩
   ·rw[vR];simp[J]
   ·rw[vR];rw[px];have W:=h.pM;refine⟨W.sublist (Bv _ _),rf.2 ⟨λs g=>?_,W.sublist (List.drop_sublist _ _)⟩,λa ha b d=>?_⟩
    ·obtain⟨j,y⟩:=zQ g;rw[kR]at y;have u:=kG _ s y;have h2:s.st≠st:=λe=>by
      have:=P (Zf ss st+j) s (cW.1 y).1 y;rw[e]at this;simp at this;omega
     show st<s.st;omega
    ·obtain⟨i,Z⟩:=zQ ha;rw[zj]at Z;split at Z
     ·rename_i hlt';have hat:=(kG i a Z).2 hlt';rcases zW.1 d with rfl|d
      ·exact hat
      ·obtain⟨j,y⟩:=zQ d;rw[kR]at y;obtain⟨hi1,hi2⟩:=cW.1 Z;obtain⟨hj1,hj2⟩:=cW.1 y;have:=mc.1 W i (Zf ss st+j) hi1 hj1 O;rw[hi2,hj2]at this;exact this
     ·cases Z
end Go.Ar
namespace Go.Proofs
open Go.Vc
set_option maxRecDepth 100000
def Xe.h:Hn:=.q .o1 (.q (.cR (.seq [.op,.op,.op,.cX true 5 (RI.ops 5),.op])) .l)
def Xe.v (a:R2)(b:Hp)(c:aO):Prop:=bV (λd e=>c d e) λf=>If (!a.isNone) (bD a 0 b λh=>f (decide (h>0)) b) (f false b)
theorem Xe.o {a b c}(d:Xe.v a b c):Xe.c a b c:=Wa Tryz.func180 (x:=Xe.h) (R0 d)
def ZI.h:Hn:=.q .o2 (.q (.q (.cR (.seq [.op,.op,.op,.cX false 2 [.op,.op],.op,.cX false 2 [.op,.op],.op,.cX false 2 [.op,.op]])) .aJ) (.q .o6 .l))
def ZI.v (a b:Int)(c:Hp)(d:Option Addr->Int->Hp->Prop):Prop:=bV (λe f=>bV (λg h=>bV (λi j=>If i (d none 1 j) (aV #[.I a,.I b,.I 0,.slice none 0 0] 266 j λk l=>d (some k) 0 l)) λm=>If g (m true h) (m (decide (b>8)) h)) λn=>If e (n true f) (n (decide (b<0)) f)) λo=>If (a<1) (o true c) (o (decide (a>32)) c)
theorem ZI.o {a b c d}(e:ZI.v a b c d):ZI.c a b c d:=Wa Tryz.func200 (x:=ZI.h) (R0 e)
def Wz.h:Hn:=.q .o2 (.q (.k (.q .o4 (.c .aL (.q .o7 .aJ)))) (.q .o7 (.q .o8 (.q .gH (.q .gH (.q .o3 .l))))))
def Wz.v (a:R2)(b:Hp)(c:Sl->Int->Hp->Prop):Prop:=Xe.c a b λd e=>If (!d) (c ⟨none,0,0⟩ 5 e) (bE a 3 e λg=>If (((g.len:Nat):Int)==0) (c ⟨none,0,0⟩ 4 e) (bE a 3 e λi=>bL (((i.len:Nat):Int)-1) λj=>bE a 3 e λl=>Ix l.a l.len j 1 λm=>jq m e λn=>bE a 3 e λp=>eX p 1 0 j (p.cap:Nat) λq=>bU a λr=>aR r 3 (.slice q.a q.len q.cap) e λs=>bD a 2 s λu=>bU a λv=>aR v 2 (.I (if j<u then j else u)) s λw=>c n 0 w))
theorem Wz.o {a b c}(d:Wz.v a b c):Wz.c a b c:=Wa Tryz.func207 (x:=Wz.h) (R0 d)
def W0.h:Hn:=.q .o2 (.q (.k (.q .o4 (.c .aL (.q .o8 (.c .aL (.q (.oq 11) .aJ)))))) (.q (.cR (.held true [8,11] (.tk [0,1,2,3,4,5] (.all [(6,.all [(7,.all [(8,.take 9 (.take 10 (.all [(11,.done)])))])])])))) .aL))
def W0.v (a:R2)(b:Sl)(c:Hp)(d:Bool->Int->Hp->Prop):Prop:=Xe.c a c λe f=>If (!e) (d false 5 f) (bD a 0 f λh=>If (((b.len:Nat):Int) != h) (d false 1 f) (bE a 3 f λj=>bD a 1 f λl=>If (((j.len:Nat):Int)≥l) (d false 0 f) (eI f λm=>bU a λn=>aT m n 3 λo=>WC.c b f λp q=>And (m q) <| aV #[.slice p.a p.len p.cap] 34 q λr s=>And (m s) <| App o 1 24 34 [.slice none 0 0] ⟨some r,1,1⟩ s λt u=>bU a λv=>aR v 3 (.slice t.a t.len t.cap) u λw=>d true 0 w)))
theorem W0.o {a b c d}(e:W0.v a b c d):W0.c a b c d:=Wa Tryz.func266 (x:=W0.h) (R0 e)
end Go.Proofs
namespace Go.Ar
open Go Go.Vc Go.Proofs
variable {U:Hp}{F:Rg}{p batch room:Nat}{t:gC}
def pq (s:Sl):Value:=.slice s.a s.len s.cap
def Wo (xs:List Int):List Value:=xs.map (Value.int .i64)
theorem Vr {l:List Int}:∀v∈Wo l,dQ v=true:=by
 intro v hv;simp only[Wo,zE]at hv;obtain⟨x,_,rfl⟩:=hv;rfl
def qL (sls:List Sl)(bs:List (List Int))(U:Hp)(D:Rg):Prop:=sls.length=bs.length/\∀(i:Nat) s xs,sls[i]?=some s->bs[i]?=some xs->cU s 1 (Wo xs) U D/\s.len<=s.cap
theorem qL.loc (sls:List Sl)(bs:List (List Int)):dM (qL sls bs):=λU j F G h g e=>⟨h.1,λi s d b a=>⟨cU.loc _ _ _ _ _ _ _ (h.2 i s d b a).1 g e,(h.2 i s d b a).2⟩⟩
def Dj (sls:List Sl):Prop:=sls.Pairwise λs t=>∀a a',s.a=some a->t.a=some a'->a.block≠a'.block
def kF (s:Sl)(b:Nat):Prop:=∃a,s.a=some a/\a.block=b
theorem _root_.Go.Vc.cU.lf {s:Sl}{sz:Nat}{xs:List Value}{D:Rg}(h:cU s sz xs U D):cU s sz xs U λb=>D b/\kF s b:=
 ⟨h.1,h.2.imp id λ⟨b,o,e,d,a,r⟩=>⟨b,o,e,⟨d,_,a,rfl⟩,a,r⟩⟩
theorem _root_.Go.Vc.cU.bT {s:Sl}{sz:Nat}{xs:List Value}{D:Rg}(h:cU s sz xs U D)(hx:xs≠[]){b:Nat}(hb:kF s b):D b/\b<U.size:=by
 rcases h.2 with h0|⟨b',o,cs,hq,ha,hc,_⟩
 ·exact absurd h0 hx
 ·obtain⟨a,d,rfl⟩:=hb;rw[ha]at d;cases d;exact⟨hq,hc.lt⟩
theorem Dj.snoc {sls:List Sl}{bs:List (List Int)}{D:Rg}{z:Nat}{s':Sl}{xs:List Value}{v:Hp}(h:Dj sls)(hB:qL sls bs U D)(hne:∀xs∈bs,xs≠[])(hz:∀b,D b->b<z)(hs:bR s' 1 xs v λb=>z<=b)(hx:xs≠[]):Dj (sls++[s']):=by
 refine px.2 ⟨h,List.pairwise_singleton _ _,λs g u m a w x p=>?_⟩;rw[zN]at m;subst m;obtain⟨i,j⟩:=zQ g;have e:=(cW.1 j).1;have d:bs[i]?=some (bs[i]'(by rw[←hB.1];exact e)):=cV _;have r:=((hB.2 i s _ j d).1.bT (by simp only[Wo,ne_eq,x8];exact hne _ (zG d)) ⟨a,x,rfl⟩).1;have y:=(hs.gY.bT hx ⟨w,p,rfl⟩).1;have:=hz _ r;omega
structure jl (U:Hp) (F:Rg) (p batch room:Nat) (t:gC):Prop where
 mem:∃(sl:Sl) (sls:List Sl) (D:Rg),bX U p [.int .i64 (batch:Int),.int .i64 (room:Int),.int .i64 (t.low:Int),.slice sl.a sl.len sl.cap]/\bR sl 1 (sls.map pq) U (λb=>F b/\b≠p/\¬D b)/\qL sls t.bs U D/\(∀b,D b->F b/\b≠p)/\Dj sls
 fp:F p
 b1:1<=batch/\batch<=32
 r1:room<=8
 pI:t.bs.length<=room
 low:t.low<=t.bs.length
 all:∀xs∈t.bs,xs.length=batch
theorem jl.loc:dM λU F=>jl U F p batch room t:=λU x F G h r d=>by
 obtain⟨sl,j,D,a,s,w,i,u⟩:=h.mem;refine⟨⟨sl,j,λb=>D b/\b<U.size,?_,?_,?_,λb a=>⟨(d b a.2 (i b a.1).1).1,(i b a.1).2⟩,u⟩,(d p a.lt h.fp).1,h.b1,h.r1,h.pI,h.low,h.all⟩
 ·obtain⟨e,m⟩:=a;exact⟨e,(d p (bX.lt ⟨e,m⟩) h.fp).2.trans m⟩
 ·exact bR.loc _ _ _ _ _ _ _ s r λb a g=>⟨⟨(d b a g.1).1,g.2.1,λhd=>g.2.2 hd.1⟩,(d b a g.1).2⟩
 ·exact qL.loc _ _ _ _ _ _ w r λb a hd=>⟨⟨hd,a⟩,(d b a (i b hd).1).2⟩
theorem yT (h:jl U F p batch room t){R:aO}(hR:R true U):Xe.c (aW p) U R:=by
 refine Xe.o ?_;unfold Xe.v;obtain⟨sl,a,D,b,_⟩:=h.mem;have:=h.b1;refine bV.intro (cD rfl (aG (b.rI rfl ?_)));rw[zJ O];exact hR
theorem _root_.Go.Vc.cU.NP {s:Sl}{F:Rg}{sls:List Sl}(h:cU s 1 (sls.map pq) U F){i:Nat}{x:Sl}(hx:sls[i]?=some x){K:Sl->Prop}(hK:K x):Ix s.a s.len (i:Int) 1 λa=>jq a U K:=by
 have m:=(cW.1 hx).1;obtain⟨b,o,d,g⟩:=h.cell (j:=i) (v:=pq x) (by simp[hx]);have e:=h.1;rw[zl]at e;rw[d];refine ix O O ?_;rw[add_lit];exact nC (by simpa[pq]using g) hK
theorem O8 (h1:1<=batch)(h2:batch<=32)(h3:room<=8){R:Option Addr->Int->Hp->Prop}(hR:∀σ' p,bK U σ'->U.size<=p->p<σ'.size->jl σ' (· = p) p batch room ⟨0,[]⟩->R (some ⟨p,0,none⟩) 0 σ'):ZI.c batch room U R:=by
 refine ZI.o ?_;unfold ZI.v;refine bV.intro (fR O (bV.intro (fR O (bV.intro (fR O (fR O ?_))))));refine nw (cs:=[.int .i64 batch,.int .i64 room,.int .i64 0,.slice none 0 0]) λv d e a=>?_;exact hR v _ e (zD _) O ⟨⟨⟨none,0,0⟩,[],λ_=>False,a,bR.nil _ _ _ _,⟨rfl,λi s g h=>by simp at h⟩,λb h=>h.elim,List.Pairwise.nil⟩,rfl,⟨h1,h2⟩,h3,by simp,by simp,by simp⟩
theorem OK (h:jl U F p batch room t){sl:Sl}{xs:List Int}{X:Rg}(hs:cU sl 1 (Wo xs) U X)(hl:xs.length<=1000000){R:Bool->Int->Hp->Prop}(h1:xs.length≠batch->R false 1 U)(h2:xs.length=batch->room<=t.bs.length->R false 0 U)
 (h3:xs.length=batch->t.bs.length<room->∀σ',Ext F U σ'->jl σ' (Grow F U) p batch room {t with bs:=t.bs++[xs]}->R true 0 σ'):W0.c (aW p) sl U R:=by
 refine W0.o ?_;unfold W0.v;have h:=jl.loc.cut h;obtain⟨C,A,D,d,hr,z,K,hJ⟩:=h.mem;have r:sl.len=xs.length:=by have:=hs.1;simp[Wo]at this;omega
 have hso:C.len=t.bs.length:=by have:=hr.1;rw[zl,z.1]at this;omega
 have hr8:=h.r1;have hb1:=h.b1;refine yT h (cB rfl (aG (d.rI rfl ?_)));rw[qn];refine cO (λB=>h1 (by rw[←r];simpa using B)) λV=>?_;have g:xs.length=batch:=by rw[←r];simpa using V
 refine aG (d.rS rfl (aG (d.rI rfl (cQ (λP=>h2 g (by simp only at P;omega)) λZ=>?_))));simp only at Z;refine⟨λh'=>bX h' p [.int .i64 (batch:Int),.int .i64 (room:Int),.int .i64 (t.low:Int),.slice C.a C.len C.cap],d,aG ⟨C,λh' Q=>by rw[add_lit,Q.cell];rfl,?_⟩⟩;refine UZ hs Vr O λw v1 hl1 e1 y=>⟨e1.bT d id,?_⟩;refine nw (cs:=[.slice w.a w.len w.cap]) λv2 hz2 e2 M=>⟨(e1.trans e2).bT d id,?_⟩;have aa:=aI.bO (aI.bO hr e1) e2;refine aa.app (ys:=[pq w]) rfl rfl ?_ (by simp[dQ,pq]) ?_ ?_ mT λs2 v3 hl3 L S=>aG ?_
 ·intro j u hu;rw[add_lit,zH,M.cell];exact hu
 ·simp only;have:(C.len+1)*24<=9*24:=lV O O;omega
 ·simp only;omega
 ·have Y:=L.bT ((e1.trans e2).bT d id) λE=>E.2.1 rfl;have hplt:=d.lt;have hs1:=e1.1;refine Y.s1 aA λv4 o4 N=>h3 g O v4 ?_ ?_
  ·exact((bK.to (e1.trans e2)).trans (L.sub λb d=>d.1.1)).trans (o4.ext.sub λb d=>d▸h.fp.1)
  ·refine⟨⟨s2,A++[w],λb=>D b/\b<U.size\/U.size<=b/\b<v1.size,N,?_,⟨by simp[z.1],λi s ys x m=>?_⟩,λb d=>?_,?_⟩,.inl h.fp.1,h.b1,h.r1,by simp;omega,by have:=h.low;simp;omega,λys m=>?_⟩
   ·rw[j4];refine aI.bS (aI.mono S λb _ d=>?_) o4.ext λb _ d W=>d.2.1 W;rcases d with d|d
    ·exact⟨.inl d.1.1,d.2.1,λhd=>by
      rcases hd with hd|hd
      ·exact d.2.2 hd.1
      ·have:=d.1.2;omega⟩
    ·exact⟨.inr O,O,λhd=>by rcases hd with hd|hd<;>omega⟩
   ·have mv:∀{s:Sl} {ys:List Int} {G:Rg},cU s 1 (Wo ys) v2 G->(∀b,G b->b≠p/\¬(Cut F U b/\b≠p/\¬D b))->cU s 1 (Wo ys) v4 G:=λQ hn=>
     aH.bS (aH.bS Q L λb _ d=>(hn b d).2) o4.ext λb _ d W=>(hn b d).1 W
    rcases ke i A.length with hi'|hi'
    ·rw[ze hi']at x;rw[ze (by rw[←z.1];exact hi')]at m;obtain⟨k1,k2⟩:=z.2 i s ys x m;refine⟨aH.mono (mv (aH.bO (aH.bO (aH.mono k1 (G:=λb=>D b/\b<U.size) λb d hd=>⟨hd,d⟩) e1) e2) λb hd=>⟨(K b hd.1).2,λE=>E.2.2 hd.1⟩) λb _ hd=>.inl hd,k2⟩
    ·rw[zp hi']at x;rw[zp (by rw[←z.1];exact hi')]at m;have J:i-A.length=0:=by
      have:=(cW.1 x).1;simp at this;omega
     rw[J]at x;rw[show i-t.bs.length=0 by rw[←z.1];exact J]at m;simp at x m;subst x;subst m;have H:w.len<=w.cap:=by
      rcases y.2 with⟨q1,q2⟩|⟨_,_,_,_,_,q,_⟩
      ·omega
      ·exact q
     refine⟨aH.mono (mv (aH.bO (aH.mono y.gY (G:=λb=>U.size<=b/\b<v1.size) λb d hd=>⟨hd,d⟩) e2) λb hd=>⟨O,λE=>by have:=E.1.2;omega⟩) λb _ hd=>.inr hd,H⟩
   ·rcases d with hd|hd
    ·exact⟨.inl (K b hd.1).1.1,(K b hd.1).2⟩
    ·exact⟨.inr hd.1,O⟩
   ·have B:∀ys∈t.bs,ys≠[]:=λys m e=>by have:=jl.all ‹_› ys m;rw[e]at this;simp at this;omega
    exact hJ.snoc z B (λb hd=>(K b hd).1.2) y (by simp only[Wo,ne_eq,x8];intro e;rw[e]at g;simp at g;omega)
   ·rcases zK.1 m with h|h
    ·exact jl.all ‹_› ys h
    ·simp at h;subst h;exact g
theorem Rm (h:jl U F p batch room t)(h0:t.bs=[]){R:Sl->Int->Hp->Prop}(hR:R ⟨none,0,0⟩ 4 U):Wz.c (aW p) U R:=by
 refine Wz.o ?_;unfold Wz.v;obtain⟨d,b,D,e,g,i,j,m⟩:=h.mem;have a:d.len=t.bs.length:=by have:=g.1;rw[zl,i.1]at this;omega
 refine yT h (cB rfl (aG (e.rS rfl (cD ?_ hR))));simp[a,h0]
theorem Rl (h:jl U F p batch room t)(h0:t.bs≠[]){R:Sl->Int->Hp->Prop}(hR:∀out σ',Ext F U σ'->(∀b,kF out b->F b)->cU out 1 (Wo (t.bs.getLast?.getD [])) σ' (kF out)->out.len<=out.cap->jl σ' (λb=>F b/\¬kF out b) p batch room t.rem->R out 0 σ'):Wz.c (aW p) U R:=by
 refine Wz.o ?_;unfold Wz.v;obtain⟨M,g,D,d,H,z,B,hJ⟩:=h.mem;have hso:M.len=t.bs.length:=by have:=H.1;rw[zl,z.1]at this;omega
 have X:=pC.2 h0;have hr8:=h.r1;have hfw:=h.pI;have Z:=h.low;have L:t.bs.length-1<g.length:=by rw[z.1];omega
 obtain⟨o,P⟩:∃o,g[t.bs.length-1]?=some o:=⟨_,cV L⟩;have j:t.bs[t.bs.length-1]?=some (t.bs.getLast?.getD []):=by
  rw[List.getLast?_eq_getElem?,cV O];rfl
 obtain⟨k1,k2⟩:=z.2 _ o _ P j;refine yT h (cB rfl (aG (d.rS rfl (cB ?_ ?_))))
 ·simp only[lu];omega
 refine aG (d.rS rfl (cP (m:=t.bs.length-1) aC O (aG (d.rS rfl ?_))));refine H.gY.NP P (aG (d.rS rfl ?_));have Y:M.len<=M.cap:=by
  rcases H.2 with⟨q1,q2⟩|⟨_,_,_,_,_,q,_⟩
  ·omega
  ·exact q
 refine iN (lo:=0) O aD aD (aG (d.s1 aA λv1 o1 E=>aG (E.rI rfl (aG ?_))))
 refine E.s1 aA λv2 o2 r=>?_;have u:Ext (· = p) U v2:=o1.ext.trans o2.ext;have C:(if((t.bs.length-1:Nat):Int)<(t.low:Int)then((t.bs.length-1:Nat):Int)else(t.low:Int))=((min t.low (t.bs.length-1):Nat):Int):=by split<;>omega
 rw[C]at r;have V:∀A∈t.bs,A≠[]:=λA w e=>by have W:=h.all A w;have h2:=h.b1;rw[e]at W;simp at W;omega
 have y:∀b,kF o b->D b:=λb d=>(k1.bT (by simp only[Wo,ne_eq,x8];exact V _ (zG j)) d).1;refine hR o v2 (u.sub λb d=>d▸h.fp) (λb d=>(B b (y b d)).1) (aH.mono (aH.bS k1 u λb _ d G=>(B b d).2 G).lf λb _ hd=>hd.2) k2 ⟨⟨_,g.dropLast,λb=>D b/\¬kF o b,r,?_,⟨by simp[z.1,gC.rem],λi s A J w=>?_⟩,λb hd=>⟨⟨(B b hd.1).1,hd.2⟩,(B b hd.1).2⟩,List.Pairwise.sublist (List.dropLast_sublist _) hJ⟩,⟨h.fp,λd=>(B p (y p d)).2 rfl⟩,h.b1,h.r1,by simp[gC.rem];omega,by simp[gC.rem];omega,λA w=>h.all A (List.dropLast_subset _ w)⟩
 ·refine aI.bS ?_ u λb _ d G=>d.2.1 G;refine⟨by simp[z.1],?_⟩;rcases H.2 with⟨q1,q2⟩|⟨b,cs,hq,K,hbb,hle,hcl,ht⟩
  ·omega
  ·refine .inr ⟨b,cs,⟨⟨hq.1,λd=>hq.2.2 (y b d)⟩,hq.2.1,λhd=>hq.2.2 hd.1⟩,?_,hbb,by simp only;omega,by simp only;omega,?_⟩
   ·simp only[K];split<;>simp[add_lit]
   ·simp only[zl]at ht ⊢;have hd:g.dropLast.map pq=(g.map pq).take (g.length-1):=by rw[yg,List.map_take]
    rw[hd,←ht,ym,yS]
    congr 1;omega
 ·have x:i<t.bs.length-1:=by
   have:=(cW.1 w).1;simpa[gC.rem]using this
  rw[yg,zj]at J;simp only[gC.rem,yg,zj]at w;rw[zC (by rw[z.1];exact x)]at J;rw[zC x]at w;obtain⟨m1,m2⟩:=z.2 i s A J w;refine⟨aH.mono (aH.bS m1 u λb _ d G=>(B b d).2 G).lf λb _ d=>⟨d.1,λr=>?_⟩,m2⟩;obtain⟨a,K,e1⟩:=d.2;obtain⟨a',Q,e2⟩:=r;obtain⟨N,rfl⟩:=cW.1 J;obtain⟨S,rfl⟩:=cW.1 P;exact mc.1 hJ i _ N S x a a' K Q (e1.trans e2.symm)
def vj (out:Sl)(bs:List (List Int))(U:Hp)(G:Rg):Prop:=∃sls:List Sl,cU out 1 (sls.map pq) U G/\qL sls bs U G
theorem vj.loc (out:Sl)(bs:List (List Int)):dM (vj out bs):=λU i F G ⟨a,g,e⟩ d b=>⟨a,cU.loc _ _ _ _ _ _ _ g d b,qL.loc _ _ _ _ _ _ e d b⟩
end Go.Ar
namespace Go.Ar
open Go Go.Vc Go.Proofs
open Go.Bu (Zb)
variable {U:Hp}{F:Rg}{p:Nat}{ow:Nat->Nat}
def uj (ow:Nat->Nat)(x:Nat)(l:List (Nat×Nat×Nat)):Prop:=
 l.length<=x/\(∀r∈l,1<=r.2.1/\r.1+r.2.1<=x/\∀y,r.1<=y->y<r.1+r.2.1->ow y=r.2.2)/\∀y,y<x->ow y≠0->∃r∈l,r.1<=y/\y<r.1+r.2.1
theorem uj.new {x:Nat}{l:List (Nat×Nat×Nat)}(h:uj ow x l):uj ow (x+1) (l++[(x,1,ow x)]):=by
 refine⟨by simp;exact h.1,λr d=>?_,λy g e=>?_⟩
 ·rcases zK.1 d with a|a
  ·exact⟨(h.2.1 r a).1,by have:=(h.2.1 r a).2.1;omega,(h.2.1 r a).2.2⟩
  ·simp at a;subst a;exact⟨zD _,zD _,λy a b=>by simp only at a b ⊢;rw[show y=x by omega]⟩
 ·rcases ke y x with a|a
  ·obtain⟨r,d,b⟩:=h.2.2 y a e;exact⟨r,ky _ d,b⟩
  ·exact⟨(x,1,ow x),by simp,by simp only;omega⟩
theorem uj.more {x a m no:Nat}{l:List (Nat×Nat×Nat)}(h:uj ow x (l++[(a,m,no)]))(he:a+m=x)(hno:ow x=no):uj ow (x+1) (l++[(a,m+1,no)]):=by
 refine⟨by have:=h.1;simp at this ⊢;omega,λr e=>?_,λy i g=>?_⟩
 ·rcases zK.1 e with b|b
  ·have:=h.2.1 r (ky _ b);exact⟨this.1,O,this.2.2⟩
  ·simp at b;subst b;have:=h.2.1 (a,m,no) aA;refine⟨by simp only;omega,by simp only;omega,λy b d=>?_⟩;simp only at b d ⊢;rcases ke y (a+m)with h3|h3
   ·exact this.2.2 y b h3
   ·rw[show y=x by omega];exact hno
 ·rcases ke y x with b|b
  ·obtain⟨r,e,d⟩:=h.2.2 y b g;rcases zK.1 e with h3|h3
   ·exact⟨r,ky _ h3,d⟩
   ·simp at h3;subst h3;exact⟨(a,m+1,no),by simp,by simp only at d ⊢;omega⟩
  ·exact⟨(a,m+1,no),by simp,by simp only;have:=h.2.1 (a,m,no) aA;simp only at this;omega⟩
end Go.Ar
namespace Go.Proofs
open Go.Vc
set_option maxRecDepth 100000
def Yl.h:Hn:=.q .o1 (.q (.q .o4 (.q .o2 .aJ)) (.q .o5 .aM))
def Yl.v (a:R2)(b c:Int)(d:Hp)(e:aN):Prop:=Xo.c a b 1 d λf g=>If (f != 0) (e f g) (Nz 8<|bL (b.tdiv 8) λh=>YU.c a h c g λi=>e 0 i)
theorem Yl.o {a b c d e}(f:Yl.v a b c d e):Yl.c a b c d e:=Wa Tryz.func62 (x:=Yl.h) (R0 f)
def YL.h:Hn:=.q .o2 (.q (.q .o4 (.q .o2 (.c (.q .o3 .l) .l))) (.q .o6 .l))
def YL.v (a:R2)(b:Int)(c:Hp)(d:Int->Int->Hp->Prop):Prop:=Xo.c a b 1 c λe f=>If (e != 0) (d 0 e f) (Nz 8<|bL (b.tdiv 8) λg=>Y7.c a g f λh i=>d h 0 i)
theorem YL.o {a b c d}(e:YL.v a b c d):YL.c a b c d:=Wa Tryz.func83 (x:=YL.h) (R0 e)
def Xo.h:Hn:=.q .o1 (.q (.k (.q .o4 (.c .aM (.q .o3 (.c .aM (.q (.cR (.seq [.op,.op,.op,.cX false 3 (RI.ops 3),.op])) .aK)))))) (.q .gH (.q (.q (.cR (.gA true [] [(50,.one .b)] (.tk [0,1,2,3,4,5,6,7] (.split 39 (.tk [8,9,10,11,12,13,14,15,16,17,18] (.done)) (.tk [8,9,10,11,12,13,14,15,16] (.all [(17,.take 18 (.done))])))))) .aK) .aM)))
def Xo.v (a:R2)(b c:Int)(d:Hp)(e:aN):Prop:=Xt.c a d λf g=>If (!f) (e 5 g) (If (c==0) (e 0 g) (bV (λh i=>If h (e 7 i) (Nz 256<|bL (b.tdiv 256) λj=>Nz 8<|bL (b.tdiv 8) λk=>bL (k+c) λl=>bL (l-1) λm=>Nz 32<|bL (m.tdiv 32) λn=>Jn [.b] (λ(o:Bool) p=>If o (e 7 p) (e 0 p)) λq=>eI i λr=>bU a λs=>aT r s 0 λt=>If (n≥((t.len:Nat):Int)) (q true i) (bU a λu=>aT r u 0 λv=>bL (n+1) λw=>eX v 2 j w (v.cap:Nat) λx=>gE r .b ((Addr.mk 0 0 none).add 0) λ(y:Bool)=>gE r .b ((Addr.mk 0 0 none).add 1) λ(z:Bool)=>Wj.c x y z i λaa ab=>And (r ab) <| q aa ab))) λac=>If (b<0) (ac true g) (Nz 8 <| ac ((b.tmod 8) != 0) g)))
theorem Xo.o {a b c d e}(f:Xo.v a b c d e):Xo.c a b c d e:=Wa Tryz.func88 (x:=Xo.h) (R0 f)
def YU.h:Hn:=.q .o3 (.kh [] (.q (.oq 9) (.c (.q (.cR (.tail 7 (RI.ops 7) [.op])) (.q (.cR (.held true [6] (.tk [0,1,2,3,4] (.all [(5,.all [(6,.done)])])))) (.cR (.tail 13 (RI.ops 13) [.op])))) .l)) (.o 11))
def YU.v (a:R2)(b c:Int)(d:Hp)(e:aP):Prop:=Nz 32<|bL (b.tdiv 32) λf=>Jn [] (λg=>bI a 1 g λi=>Lk .i64 .s i f g λj=>Nz 32 <| Ix (j.getD ⟨none,0,0⟩).a (j.getD ⟨none,0,0⟩).len (b.tmod 32) 1 λk=>dN k (.I c) g λl=>e l) λm=>bE a 0 d λo=>Ix o.a o.len f 2 λp=>aZ p 0 d λq=>aZ p 1 d λr=>lg ((Addr.mk 1 0 none).add 0) d λs=>lg ((Addr.mk 1 0 none).add 1) d λt=>If (!((q==s)&&((r==t)&&true))) (bE a 0 d λv=>lg ((Addr.mk 1 0 none).add 0) d λw=>lg ((Addr.mk 1 0 none).add 1) d λx=>Ix v.a v.len f 2 λy=>aR y 0 (.bool w) d λz=>aR y 1 (.bool x) z λaa=>eI aa λab=>bU a λac=>gE ab .m (ac.add 1) λ(ad:Option Nat)=>Mk 32 32 8 3 [.I 0] aa λae af=>And (ab af) <| kq .i64 .s ad f ae af λag=>bD a 2 ag λai=>bI a 1 ag λak=>qC .i64 .s ak ag λal=>bU a λam=>aR am 2 (.I (if al>ai then al else ai)) ag λan=>m an) (m d)
theorem YU.o {a b c d e}(f:YU.v a b c d e):YU.c a b c d e:=Wa Tryz.func89 (x:=YU.h) (R0 f)
def XC.h:Hn:=.q .o1 (.q (.q .o3 .aK) (.q .o6 .l))
def XC.v (a:R2)(b:Hp)(c:aN):Prop:=Xt.c a b λd e=>If (!d) (c 0 e) (bE a 0 e λg=>c ((g.len:Nat):Int) e)
theorem XC.o {a b c}(d:XC.v a b c):XC.c a b c:=Wa Tryz.func108 (x:=XC.h) (R0 d)
def Xt.h:Hn:=.q .o1 (.q (.cR (.seq [.op,.op,.op,.cX true 6 (RI.ops 6),.op])) .l)
def Xt.v (a:R2)(b:Hp)(c:aO):Prop:=bV (λd e=>c d e) λf=>If (!a.isNone) (bE a 0 b λh=>f (decide (((h.len:Nat):Int)>0)) b) (f false b)
theorem Xt.o {a b c}(d:Xt.v a b c):Xt.c a b c:=Wa Tryz.func109 (x:=Xt.h) (R0 d)
def Y7.h:Hn:=.q .o1 (.q (.q (.o 12) (.q .o1 (.c (.q .o6 .l) .l))) .aM)
def Y7.v (a:R2)(b:Int)(c:Hp)(d:aN):Prop:=bI a 1 c λf=>Nz 32<|bL (b.tdiv 32) λg=>Lk .i64 .s f g c λh=>If h.isSome (Nz 32 <| Ix (h.getD ⟨none,0,0⟩).a (h.getD ⟨none,0,0⟩).len (b.tmod 32) 1 λi=>bM i c λj=>d j c) (d 0 c)
theorem Y7.o {a b c d}(e:Y7.v a b c d):Y7.c a b c d:=Wa Tryz.func117 (x:=Y7.h) (R0 e)
def QM.h:Hn:=.q .o2 (.q (.q (.cR (.seq [.op,.op,.op,.cX false 2 [.op,.op]])) .aJ) (.q .o7 .l))
def QM.v (a:Int)(b:Hp)(c:Option Addr->Int->Hp->Prop):Prop:=bV (λd e=>If d (c none 1 e) (Mk a a 2 161 [.bool false,.bool false] e λf g=>Nw (.map #[] 0) g λh i=>aV #[.slice f.a f.len f.cap,.map (some h.block),.I 0] 165 i λj k=>c (some j) 0 k)) λl=>If (a<1) (l true b) (l (decide (a>1024)) b)
theorem QM.o {a b c}(d:QM.v a b c):QM.c a b c:=Wa Tryz.func142 (x:=QM.h) (R0 d)
def YS.h:Hn:=.q .o2 (.q (.k (.q .o4 (.c .aL (.q (.cR (.seq [.op,.op,.op,.cX false 2 [.op,.op],.op,.cX false 7 (RI.ops 7),.op,.cX false 9 (RI.ops 9),.op])) .aJ)))) (.q (.o 11) .l))
def YS.v (a:R2)(b c:Int)(d:Hp)(e:Sl->Int->Hp->Prop):Prop:=Xt.c a d λf g=>If (!f) (e ⟨none,0,0⟩ 5 g) (bV (λh i=>bV (λj k=>bV (λl m=>If l (e ⟨none,0,0⟩ 1 m) (bE a 0 m λo=>bL (b+c) λp=>eX o 2 b p (o.cap:Nat) λq=>e q 0 m)) λr=>If j (r true k) (bE a 0 k λt=>bL (((t.len:Nat):Int)-b) λu=>r (decide (c>u)) k)) λv=>If h (v true i) (bE a 0 i λx=>v (decide (b>((x.len:Nat):Int))) i)) λy=>If (b<0) (y true g) (y (decide (c<1)) g))
theorem YS.o {a b c d e}(f:YS.v a b c d e):YS.c a b c d e:=Wa Tryz.func273 (x:=YS.h) (R0 f)
def Y4.h:Hn:=.q .o1 (.q .o2 (.k (.loop [(8,.I)] (.q (.q .o5 (.c .l .l)) (.q (.k (.q (.cR (.tail 7 (RI.ops 7) [.op])) .o6)) .o3)))))
def Y4.v (a:R2)(b c:Int)(d e:Bool)(f:Hp)(g:aP):Prop:=aV #[.bool d,.bool e] 161 f λh i=>Ys [bN] (λj=>j b i) λk (l:Int) m=>bL (b+c) λn=>If (l<n) (bE a 0 m λp=>aZ h 0 m λq=>aZ h 1 m λr=>Ix p.a p.len l 2 λs=>aR s 0 (.bool q) m λt=>aR s 1 (.bool r) t λu=>bI a 1 u λw=>lx .i64 .s w l u λx=>bL (l+1) λy=>k y x) (g m)
theorem Y4.o {a b c d e f g}(h:Y4.v a b c d e f g):Y4.c a b c d e f g:=Wa Tryz.func274 (x:=Y4.h) (R0 h)
def Y1.h:Hn:=.q .o1 (.q .o9 (.q (.k (.q .o3 (.c .aL (.q .o3 .aK)))) (.q .o5 .aM)))
def Y1.v (a:R2)(b c:Int)(d:Hp)(e:aN):Prop:=YS.c a b c d λf g h=>If (g != 0) (e g h) (Wf.c f ⟨309,#[],#[]⟩ h λi j=>If i (e 5 j) (lg ((Addr.mk 2 0 none).add 0) j λk=>lg ((Addr.mk 2 0 none).add 1) j λl=>Y4.c a b c k l j λm=>e 0 m))
theorem Y1.o {a b c d e}(f:Y1.v a b c d e):Y1.c a b c d e:=Wa Tryz.func286 (x:=Y1.h) (R0 f)
def Yr.h:Hn:=.q .o2 (.q .o4 .l)
def Yr.v (a b:Bool)(c:Hp)(d:aO):Prop:=aV #[.bool a,.bool b] 161 c λe f=>aZ e 0 f λg=>aZ e 1 f λh=>lg ((Addr.mk 0 0 none).add 0) f λi=>lg ((Addr.mk 0 0 none).add 1) f λj=>d (!((g==i)&&((h==j)&&true))) f
theorem Yr.o {a b c d}(e:Yr.v a b c d):Yr.c a b c d:=Wa Tryz.func309 (x:=Yr.h) (R0 e)
end Go.Proofs
namespace Go.Ar
open Go Go.Vc Go.Proofs
open Go.Bu (Zb)
variable {U:Hp}{F:Rg}{p q r:Nat}{sp:Sp}
structure Gl (U:Hp):Prop where
 c0:cell U ⟨2,0,none⟩=some (.bool true)
 c1:cell U ⟨2,1,none⟩=some (.bool false)
 u0:cell U ⟨0,0,none⟩=some (.bool false)
 u1:cell U ⟨0,1,none⟩=some (.bool false)
structure Gc (U:Hp):Prop where
 d0:cell U ⟨1,0,none⟩=some (.bool true)
 d1:cell U ⟨1,1,none⟩=some (.bool true)
structure Gd (U:Hp):Prop where
 lt:1<U.size
def iR (F:Rg):Prop:=∀b,F b->b≠2/\b≠0
theorem QZ {h:Hp}{b o:Nat}{v:Value}(hc:cell h ⟨b,o,none⟩=some v):b<h.size:=(E5 hc).1
theorem Gl.bS {σ':Hp}(g:Gl U)(e:Ext F U σ')(hF:iR F):Gl σ':=by
 have b:¬F 2:=λh=>(hF _ h).1 rfl;have a:¬F 0:=λh=>(hF _ h).2 rfl;exact⟨(Q8 e (QZ g.c0) b).trans g.c0,(Q8 e (QZ g.c1) b).trans g.c1,(Q8 e (QZ g.u0) a).trans g.u0,(Q8 e (QZ g.u1) a).trans g.u1⟩
theorem Gc.bS {σ':Hp}(g:Gc U)(e:Ext F U σ')(hF:¬F 1):Gc σ':=⟨(Q8 e (QZ g.d0) hF).trans g.d0,(Q8 e (QZ g.d1) hF).trans g.d1⟩
theorem Gc.bO {σ':Hp}(g:Gc U)(e:bK U σ'):Gc σ':=g.bS e id
theorem Gd.bS {σ':Hp}(g:Gd U)(e:Ext F U σ')(hF:¬F 1):Gd σ':=⟨tW g.lt e.1⟩
theorem Gd.bO {σ':Hp}(g:Gd U)(e:bK U σ'):Gd σ':=g.bS e id
theorem Gc.gd (g:Gc U):Gd U:=⟨QZ g.d0⟩
theorem Gl.bO {σ':Hp}(g:Gl U)(e:bK U σ'):Gl σ':=g.bS e λ_ h=>h.elim
theorem iR.grow (hF:iR F)(g:Gl U):iR (Grow F U):=λb a=>by
 rcases a with h|h
 ·exact hF b h
 ·have e:=QZ g.c0;have d:=QZ g.u0;exact⟨O,O⟩
theorem iR.sub {G:Rg}(hF:iR F)(h:∀b,G b->F b):iR G:=λb a=>hF b (h b a)
def fV:Nat->Bool×Bool
 | 0=>(false,false)
 | 1=>(true,false)
 | _=>(true,true)
def gP (st:List Nat):List Value:=st.flatMap λx=>[.bool (fV x).1,.bool (fV x).2]
theorem Vn (l:List Nat):(gP l).length=2*l.length:=by
 induction l with
 | nil=>rfl
 | cons x l ih=>simp only[gP,oS,zO,zY,lK]at *;omega
theorem DL {l:List Nat}{i x:Nat}(h:l[i]?=some x):(gP l)[2*i]?=some (.bool (fV x).1)/\(gP l)[2*i+1]?=some (.bool (fV x).2):=by
 induction l generalizing i with
 | nil=>simp at h
 | cons y l ih=>
  have e:gP (y::l)=[.bool (fV y).1,.bool (fV y).2]++gP l:=by simp[gP]
  rw[e];cases i with
  | zero=>simp at h;subst h;simp
  | succ i=>
   have:=ih (i:=i) (by simpa using h);rw[show 2*(i+1)=2*i+2 by omega];simpa using this
theorem Dd {l:List Nat}{i v:Nat}(h:i<l.length)(rest:List Value):((gP l++rest).set (2*i) (.bool (fV v).1)).set (2*i+1) (.bool (fV v).2)=gP (l.set i v)++rest:=by
 induction l generalizing i with
 | nil=>simp at h
 | cons y l ih=>
  have e:∀z m,gP (z::m)=.bool (fV z).1 :: .bool (fV z).2::gP m:=λz m=>by simp[gP]
  cases i with
  | zero=>simp[e]
  | succ i=>
   have:=ih (i:=i) (by simpa using h);rw[rE,e,e,show 2*(i+1)=2*i+1+1 by omega];simp only[ld,rE];rw[this]
theorem y5 {x y:Nat}(hx:x<=2)(hy:y<=2):(((fV x).1==(fV y).1)&&(((fV x).2==(fV y).2)&&true))=(x==y):=by
 match x,y,hx,hy with
 | 0,0,_,_=>rfl
 | 1,1,_,_=>rfl
 | 2,2,_,_=>rfl
 | 0,1,_,_=>rfl
 | 0,2,_,_=>rfl
 | 1,0,_,_=>rfl
 | 1,2,_,_=>rfl
 | 2,0,_,_=>rfl
 | 2,1,_,_=>rfl
theorem Ka {α:Type}(x:Int×α)(l:List (Int×α))(k:Int):bW (x::l) k=if x.1=k then some x.2 else bW l k:=by
 unfold bW;rw[uC];by_cases h:x.1=k
 ·simp[h]
 ·have:(x.1==k)=false:=by simpa using h
  rw[this,zB h]
theorem MF {α:Type}(l:List (Int×α))(n k:Int)(v:α):bW (l.map λx=>if x.1==n then(n,v)else x) k=if k=n then(if l.any (λx=>x.1==n)then some v else none)else bW l k:=by
 induction l with
 | nil=>simp[bW]
 | cons x l ih=>
  rw[zS,Ka,ih,Ka,List.any_cons];by_cases hx:x.1=n
  ·by_cases hk:k=n
   ·subst hk;simp[hx]
   ·have:¬n=k:=λe=>hk e.symm;simp[hx,hk,this]
  ·have a:(x.1==n)=false:=by simpa using hx
   simp only[a,zc,zz,yA];by_cases hk:k=n
   ·subst hk;simp[hx]
   ·simp[hk]
theorem IH {α:Type}(l:List (Int×α))(n k:Int)(v:α)(h:l.any (λx=>x.1==n)=false):bW (l++[(n,v)]) k=if k=n then some v else bW l k:=by
 induction l with
 | nil=>
  rw[tn,Ka];by_cases hk:k=n
  ·simp[hk]
  ·have:¬n=k:=λe=>hk e.symm;simp[hk,this,bW]
 | cons x l ih=>
  rw[List.any_cons,Bool.or_eq_false_iff]at h;rw[ld,Ka,ih h.2,Ka];have a:¬x.1=n:=by simpa using h.1
  by_cases hk:k=n
  ·subst hk;simp[a]
  ·simp[hk]
theorem Ug {α:Type}(l:List (Int×α))(n k:Int)(v:α):bW (dB l n v) k=if k=n then some v else bW l k:=by
 unfold dB;cases h:l.any (λx=>x.1==n)
 ·rw[zB aA,IH l n k v h]
 ·rw[zC rfl,MF,h];simp
theorem GI {α:Type}(l:List (Int×α))(n k:Int):bW (cS l n) k=if k=n then none else bW l k:=by
 unfold cS
 induction l with
 | nil=>simp[bW]
 | cons x l ih=>
  rw[sW,Ka];by_cases hx:x.1=n
  ·have:(!(x.1==n))=false:=by simp[hx]
   rw[this];simp only[zc,zz,ih];by_cases hk:k=n
   ·simp[hk]
   ·have:¬x.1=k:=λe=>hk (e.symm.trans hx);simp[hk,this]
  ·have:(!(x.1==n))=true:=by simpa using hx
   rw[this,zC rfl,Ka,ih];by_cases hk:k=n
   ·subst hk;simp[hx]
   ·simp[hk]
theorem Vj {α:Type}{l:List (Int×α)}{k:Int}{v:α}(h:bW l k=some v):(k,v)∈l:=by
 unfold bW at h;cases hf:l.find? (λx=>x.1==k)with
 | none=>rw[hf]at h;cases h
 | some x=>
  rw[hf]at h;have d:=tv hf;have b:=sT hf;have e:x.1=k:=by simpa using d
  have a:x.2=v:=by simpa using h
  rw[←e,←a];exact b
theorem LU {α:Type}{l:List (Int×α)}{k:Int}:(bW l k).isSome=true↔k∈l.map (·.1):=by
 unfold bW;rw[Option.isSome_map,yL];simp
def DG (U:Hp)(s:Sl)(b:Nat)(f:Nat->Int):Prop:=s.a=some ⟨b,0,none⟩/\s.len=32/\32<=s.cap/\∃cs,bX U b cs/\32<=cs.length/\∀j,j<32->cs[j]?=some (.int .i64 (f j))
structure fD (U:Hp) (F:Rg) (p q r:Nat) (l:List (Int×Sl)) (B:Nat->Nat) (sp:Sp):Prop where
 hd:∃cap,sp.st.length<=cap/\bX U p [.slice (some ⟨q,0,none⟩) sp.st.length cap,.map (some r),.int .i64 (sp.pk:Int)]
 row:∃rest,bX U q (gP sp.st++rest)
 map:dI U r .i64 .s l
 keys:∀x:Int,(bW l x).isSome=true↔∃k:Nat,x=k/\sp.st[k]?=some 2
 wd:∀(k:Nat) s,bW l (k:Int)=some s->DG U s (B k) λj=>sp.wd (32*k+j)
 inj:∀k k':Nat,sp.st[k]?=some 2->sp.st[k']?=some 2->B k=B k'->k=k'
 out:∀k:Nat,sp.st[k]?=some 2->F (B k)/\B k≠p/\B k≠q/\B k≠r
 fs:F p/\F q/\F r/\p≠q/\p≠r/\q≠r
 zero:∀w:Nat,sp.st[w/32]?≠some 2->sp.wd w=0
 n1:1<=sp.st.length
 n2:sp.st.length<=1024
 rK:∀x∈sp.st,x<=2
 pk:sp.pk<=1024
def dL (U:Hp)(F:Rg)(p:Nat)(sp:Sp):Prop:=∃q r l B,fD U F p q r l B sp
theorem fD.entry {l:List (Int×Sl)}{B:Nat->Nat}(h:fD U F p q r l B sp){k:Nat}(hk:sp.st[k]?=some 2):∃s,bW l (k:Int)=some s/\DG U s (B k) λj=>sp.wd (32*k+j):=by
 have:=(h.keys (k:Int)).2 ⟨k,rfl,hk⟩;obtain⟨s,a⟩:=pJ.1 this;exact⟨s,a,h.wd k s a⟩
theorem fD.ly {l:List (Int×Sl)}{B:Nat->Nat}(h:fD U F p q r l B sp){k:Nat}{s:Sl}(hs:bW l (k:Int)=some s):sp.st[k]?=some 2:=by
 obtain⟨k',e,a⟩:=(h.keys (k:Int)).1 (by rw[hs];rfl);have:k=k':=by omega
 subst this;exact a
theorem dL.loc:dM λU F=>dL U F p sp:=λU K F G ⟨q,r,l,B,h⟩ P z=>by
 have d:∀{b:Nat} {g:List Value},bX U b g->F b->bX K b g/\G b:=by
  rintro b g ⟨e,C⟩ N;have:=z b (bX.lt ⟨e,C⟩) N;exact⟨⟨e,this.2.trans C⟩,this.1⟩
 obtain⟨c,H,hd⟩:=h.hd;obtain⟨m,a⟩:=h.row;obtain⟨J,w,x,L⟩:=h.map;have j:=z r (zt.1 x).1 h.fs.2.2.1;refine⟨q,r,l,B,⟨c,H,(d hd h.fs.1).1⟩,⟨m,(d a h.fs.2.1).1⟩,⟨J,w,j.2.trans x,L⟩,h.keys,λk s i=>?_,h.inj,λk i=>?_,⟨(d hd h.fs.1).2,(d a h.fs.2.1).2,j.1,h.fs.2.2.2⟩,h.zero,h.n1,h.n2,h.rK,h.pk⟩
 ·obtain⟨y,D,A,g,u,E⟩:=h.wd k s i;exact⟨y,D,A,g,(d u (h.out k (h.ly i)).1).1,E⟩
 ·obtain⟨s,M,y,D,A,g,u,E⟩:=h.entry i;exact⟨(d u (h.out k i).1).2,(h.out k i).2⟩
theorem dL.bO {σ':Hp}(h:dL U F p sp)(e:bK U σ'):dL σ' F p sp:=dM.bO dL.loc h e
variable {l:List (Int×Sl)}{B:Nat->Nat}
theorem fD.rS (h:fD U F p q r l B sp){K:Sl->Prop}(hK:∀cap,sp.st.length<=cap->K ⟨some ⟨q,0,none⟩,sp.st.length,cap⟩):jq (Addr.add ⟨p,0,none⟩ 0) U K:=by
 obtain⟨c,a,hd⟩:=h.hd;exact hd.rS rfl (hK c a)
theorem fD.rM (h:fD U F p q r l B sp){K:Option Nat->Prop}(hK:K (some r)):k9 (Addr.add ⟨p,0,none⟩ 1) U K:=by
 obtain⟨c,a,hd⟩:=h.hd;exact hd.rM rfl hK
theorem fD.xF (h:fD U F p q r l B sp){i x:Nat}(hx:sp.st[i]?=some x){K:Bool->Bool->Prop}(hK:K (fV x).1 (fV x).2):lg (Addr.add ⟨q,2*i,none⟩ 0) U λa=>lg (Addr.add ⟨q,2*i,none⟩ 1) U λb=>K a b:=by
 obtain⟨g,d⟩:=h.row;have j:=(cW.1 hx).1;have e:=DL hx;refine d.rB (x:=(fV x).1) ?_ (d.rB (x:=(fV x).2) ?_ hK)
 ·rw[j8,ze (by rw[Vn];omega)];exact e.1
 ·rw[ze (by rw[Vn];omega)];exact e.2
theorem G8 (h:dL U F p sp){R:aO}(hR:R true U):Xt.c (aW p) U R:=by
 refine Xt.o ?_;unfold Xt.v;obtain⟨q,r,l,B,h⟩:=h;have:=h.n1;refine bV.intro (cD rfl (aG (h.rS λcap _=>?_)));rw[zJ aC];exact hR
theorem C9 (h:dL U F p sp){R:aN}(hR:R (sp.st.length:Int) U):XC.c (aW p) U R:=by
 refine XC.o ?_;unfold XC.v;have a:=h;obtain⟨q,r,l,B,h⟩:=h;exact G8 a (cB rfl (aG (h.rS λcap _=>hR)))
theorem fD.wA (h:fD U F p q r l B sp):l.length=sp.st.count 2:=by
 have m:=h.map.nodup;have j:(l.map (·.1)).Perm (((List.range sp.st.length).filter λk=>sp.st[k]?==some 2).map λk=>((k:Nat):Int)):=by
  rw[Cd m]
  ·intro x;rw[←LU,h.keys];simp only[zE,zI,zg,zT];constructor
   ·rintro⟨k,rfl,hk⟩;exact⟨k,⟨(cW.1 hk).1,hk⟩,rfl⟩
   ·rintro⟨k,⟨_,hk⟩,rfl⟩;exact⟨k,rfl,hk⟩
  ·have e:((List.range sp.st.length).filter λk=>sp.st[k]?==some 2).Pairwise (· ≠ ·):=List.Pairwise.sublist sD List.nodup_range;exact List.Pairwise.map _ (λa b (g:a≠b) d=>g (by exact_mod_cast d)) e
 have i:=j.length_eq;simp only[zl]at i;rw[i,←yu];have key:∀st:List Nat,(List.range st.length).countP (λk=>st[k]?==some 2)=st.count 2:=by
  intro st
  induction st with
  | nil=>rfl
  | cons x st ih=>
   rw[zY,List.range_succ_eq_map,wa,List.countP_map,List.count_cons,←ih]
   congr 1
 exact key sp.st
end Go.Ar
namespace Go.Ar
open Go Go.Vc Go.Proofs
open Go.Bu (Zb)
variable {U:Hp}{F:Rg}{p q r:Nat}{sp:Sp}{l:List (Int×Sl)}{B:Nat->Nat}
theorem ND (l:List Nat)(n:Nat):gP (l.take n)=(gP l).take (2*n):=by
 induction l generalizing n with
 | nil=>simp[gP]
 | cons y l ih=>
  have e:∀z m,gP (z::m)=.bool (fV z).1 :: .bool (fV z).2::gP m:=λz m=>by simp[gP]
  cases n with
  | zero=>simp[gP]
  | succ n=>
   rw[uH,e,e,ih,show 2*(n+1)=2*n+1+1 by omega];simp
theorem M3 (l:List Nat)(n:Nat):gP (l.drop n)=(gP l).drop (2*n):=by
 induction l generalizing n with
 | nil=>simp[gP]
 | cons y l ih=>
  have e:∀z m,gP (z::m)=.bool (fV z).1 :: .bool (fV z).2::gP m:=λz m=>by simp[gP]
  cases n with
  | zero=>simp[gP]
  | succ n=>
   rw[yF,e,ih,show 2*(n+1)=2*n+1+1 by omega];simp
theorem RD (n v:Nat):gP (List.replicate n v)=(List.replicate n [Value.bool (fV v).1,.bool (fV v).2]).flatten:=by
 induction n with
 | zero=>rfl
 | succ n ih=>rw[vF,vF,wY,←ih];simp[gP]
theorem _root_.Go.Vc.cU.xF {s:Sl}{l:List Nat}(h:cU s 2 (gP l) U F){i x:Nat}(hx:l[i]?=some x){K:Bool->Bool->Prop}(hK:K (fV x).1 (fV x).2) :
 Ix s.a s.len (i:Int) 2 λa=>lg (a.add 0) U λu=>lg (a.add 1) U λw=>K u w:=by
 have r:=(cW.1 hx).1;have j:=DL hx;obtain⟨b,o,g,p⟩:=h.cell j.1;obtain⟨y,o1,d,e⟩:=h.cell j.2;rw[g]at d;cases d;have m:=h.1;rw[Vn]at m;rw[g];refine ix O O ?_;rw[add_lit];refine nh ?_ (nh ?_ hK)<;>rw[add_lit]
 ·rw[show o+(i:Int).toNat*2+0=o+2*i by omega];exact p
 ·rw[show o+(i:Int).toNat*2+1=o+(2*i+1) by omega];exact e
theorem _root_.Go.Vc.cU.vp {s:Sl}{l:List Nat}(h:cU s 2 (gP l) U F):s.len=l.length:=by
 have:=h.1;rw[Vn]at this;omega
theorem R8 {s:Sl}{xs:List Nat}(h:cU s 2 (gP xs) U F)(hl:xs.length<=1000000)(h2:∀x∈xs,x<=2){v:Nat}(hv:v<=2){R:aN}
 (hR:∀(t:Int) σ',bK U σ'->decide (t≥0)=xs.contains v->R t σ'):Wn.c s (fV v).1 (fV v).2 U R:=by
 refine Wn.o ?_;unfold Wn.v;have A:=h.vp;refine nw (cs:=[.bool (fV v).1,.bool (fV v).2]) λw G e u=>?_;have h:=aH.bO h e;refine Z6 (a:=bN) (λ(t:Int) y=>∃i:Nat,t=(i:Int)/\i<=xs.length/\y=w/\∀j,j<i->xs[j]?≠some v) (λt _=>xs.length-t.toNat) ⟨0,rfl,O,rfl,λj g=>O⟩ ?_;rintro t y ⟨i,rfl,E,rfl,d⟩;refine cQ (λD=>?_) λC=>?_
 ·have b:i<xs.length:=by omega
  have z:xs[i]?=some xs[i]:=cV b;refine u.rB rfl (u.rB rfl (h.xF z ?_));rw[y5 hv (h2 _ (j7 b))];refine cO (λp=>?_) λp=>?_
  ·have:v=xs[i]:=by simpa using p
   refine hR _ _ e ?_;have B:xs.contains v=true:=by rw[this];simp
   rw[B,zJ O]
  ·have r:¬v=xs[i]:=by simpa using p
   refine cP (m:=i+1) O O ⟨⟨i+1,rfl,O,rfl,λj g=>?_⟩,O⟩;by_cases e:j=i
   ·subst e;rw[z];intro e2;cases e2;exact r rfl
   ·exact d j O
 ·refine hR _ _ e ?_;have:xs.contains v=false:=by
   simp only[rZ,decide_eq_false_iff_not];intro hm;obtain⟨j,g⟩:=zQ hm;have:=(cW.1 g).1;exact d j O g
  rw[this];rfl
theorem NR {s:Sl}{xs:List Nat}(h:cU s 2 (gP xs) U F)(hl:xs.length<=1000000)(h2:∀x∈xs,x<=2){v:Nat}(hv:v<=2){R:aO}
 (hR:∀σ',bK U σ'->R (xs.contains v) σ'):Wj.c s (fV v).1 (fV v).2 U R:=by
 refine Wj.o ?_;unfold Wj.v;refine nw (cs:=[.bool (fV v).1,.bool (fV v).2]) λw g e a=>a.rB rfl (a.rB rfl ?_);refine R8 (aH.bO h e) hl h2 hv λt σ' b d=>?_;rw[d];exact hR σ' (Ext.trans e b)
theorem OL (g:Gl U){x:Nat}(hx:x<=2){R:aO}(hR:∀σ',bK U σ'->R (x != 0) σ'):Yr.c (fV x).1 (fV x).2 U R:=by
 refine Yr.o ?_;unfold Yr.v;refine nw (cs:=[.bool (fV x).1,.bool (fV x).2]) λv d e a=>a.rB rfl (a.rB rfl ?_);have g:=g.bO e;refine nh (by rw[←g.u0];rfl) (nh (by rw[←g.u1];rfl) ?_);have b:(((fV x).1==false)&&(((fV x).2==false)&&true))=(x==0):=y5 hx (y:=0) O;rw[b];exact hR v e
theorem M5 {s:Sl}{xs:List Nat}(h:cU s 2 (gP xs) U F)(g:Gl U)(hl:xs.length<=1000000)(h2:∀x∈xs,x<=2){R:aO}
 (hR:∀σ',bK U σ'->R (xs.any (· != 0)) σ'):Wf.c s ⟨309,#[],#[]⟩ U R:=by
 refine Wf.o ?_;unfold Wf.v;refine Wm.o ?_;unfold Wm.v;have B:=h.vp;refine Z6 (a:=bN) (λ(t:Int) D=>∃i:Nat,t=(i:Int)/\i<=xs.length/\bK U D/\∀(j x:Nat),j<i->xs[j]?=some x->x=0) (λt _=>xs.length-t.toNat) ⟨0,rfl,O,Ext.refl _ _,λj x r=>O⟩ ?_;rintro t w ⟨i,rfl,H,e,p⟩;refine cQ (λE=>?_) λC=>?_
 ·have d:i<xs.length:=by omega
  have A:xs[i]?=some xs[i]:=cV d;refine(aH.bO h e).xF A ?_;refine pd (all := #[.agg #[.bool (fV xs[i]).1,.bool (fV xs[i]).2]]) (by kernel_rfl) aA ?_;refine OL (g.bO e) (h2 _ (j7 d)) λG z=>?_;refine cO (λu=>?_) λu=>?_
  ·have:xs.any (· != 0)=true:=ko.2 ⟨_,j7 d,u⟩;have:=hR G (Ext.trans e z);rw[‹xs.any (· != 0)=true›]at this;show R (decide ((i:Int)≥0)) _;rw[zJ O];exact this
  ·have y:xs[i]=0:=by simpa using u
   refine cP (m:=i+1) O O ⟨⟨i+1,rfl,O,Ext.trans e z,λj x r b=>?_⟩,O⟩;by_cases e:j=i
   ·subst e;rw[A]at b;cases b;exact y
   ·exact p j x O b
 ·have:xs.any (· != 0)=false:=by
   rw[l6];intro x hm;obtain⟨j,r⟩:=zQ hm;have:=(cW.1 r).1;simpa using p j x O r
  have:=hR w e;rw[‹xs.any (· != 0)=false›]at this;exact this
theorem fD.part (h:fD U F p q r l B sp){x y c:Nat}(hl:x+y<=sp.st.length):cU ⟨some ⟨q,2*x,none⟩,y,c⟩ 2 (gP ((sp.st.drop x).take y)) U F:=by
 obtain⟨d,b⟩:=h.row;have a:(gP ((sp.st.drop x).take y)).length=y*2:=by rw[Vn,zZ,j3];omega
 refine⟨a,.inr ⟨q,2*x,_,h.fs.2.1,rfl,b.q,λj e=>?_⟩⟩;rw[a]at e;rw[ze (by rw[Vn];omega),ND,M3,zj,zC O,kR]
theorem NO (h:dL U F p sp)(a m:Int){R:Sl->Int->Hp->Prop}(h0:Zb sp.st.length a m=false->R ⟨none,0,0⟩ 1 U)
 (h1:∀(x y:Nat) s,a=x->m=y->1<=y->x+y<=sp.st.length->cU s 2 (gP ((sp.st.drop x).take y)) U F->R s 0 U):YS.c (aW p) a m U R:=by
 refine YS.o ?_;unfold YS.v;have w:=h;obtain⟨q,r,l,B,h⟩:=h;have n2:=h.n2;have b:¬(0<=a/\1<=m/\m<=sp.st.length-a)->R ⟨none,0,0⟩ 1 U:=λz=>h0 (by simp only[Zb,←uw];exact zM z);refine G8 w (cB rfl (bV.intro (cQ (λj=>bV.intro (cD rfl (bV.intro (cD rfl (cD rfl (b O)))))) λj=>?_)));refine bV.intro (cQ (λi=>bV.intro (cD rfl (cD rfl (b O)))) λi=>aG (h.rS λcap d=>?_));simp only;refine bV.intro (cQ (λA=>cD rfl (b O)) λA=>?_);refine aG (h.rS λcap d=>ar aC aC ?_);simp only;refine cQ (λg=>b O) λg=>?_;obtain⟨x,rfl⟩:=za (show 0<=a by omega);obtain⟨y,rfl⟩:=za (show 0<=m by omega);refine aG (h.rS λcap d=>cP (m:=x+y) O O ?_);refine iN O aC (zD _) ?_;simp only;rw[zB O];refine h1 x y _ rfl rfl O O ?_;have:=h.part (x:=x) (y:=y) (c:=cap-x) O;have e:(Option.map (λ(u:Addr)=>u.add (x*2)) (some (⟨q,0,none⟩:Addr)))=some ⟨q,2*x,none⟩:=by
  simp only[zX,add_lit];congr 2;omega
 rw[e,BD];exact this
def Sp.jS (s:Sp)(k v:Nat):Sp:={s with st:=s.st.set k v,wd:=λw=>if k*32<=w/\w<(k+1)*32 then 0 else s.wd w}
theorem Fp {st:List Nat}(h:∀x∈st,x<=2){k v:Nat}(hv:v<=2):∀x∈st.set k v,x<=2:=by
 intro x hx;rcases xu hx with h1|h1
 ·exact h x h1
 ·omega
theorem fD.jS (h:fD U F p q r l B sp){k v:Nat}(hk:k<sp.st.length)(hv:v<=1){σ':Hp}(e:Ext (λb=>b=q\/b=r) U σ'){rest:List Value}
 (hb:bX σ' q (gP (sp.st.set k v)++rest)) (hm:dI σ' r .i64 .s (cS l (k:Int))):fD σ' F p q r (cS l (k:Int)) B (sp.jS k v):=by
 have a:∀j:Nat,(sp.st.set k v)[j]?=some 2↔j≠k/\sp.st[j]?=some 2:=λj=>by
  rw[mO];by_cases hjk:k=j
  ·subst hjk;rw[zC rfl,zC hk];constructor
   ·intro h;have:v=2:=by simpa using h
    omega
   ·intro h;exact absurd rfl h.1
  ·rw[zB hjk];exact⟨λh=>⟨λe=>hjk e.symm,h⟩,λh=>h.2⟩
 obtain⟨c,A,hd⟩:=h.hd;have G:¬(p=q\/p=r):=by have:=h.fs;omega
 refine⟨⟨c,by simpa[Sp.jS]using A,by simpa[Sp.jS]using e.bT hd G⟩,⟨rest,hb⟩,hm,λx=>?_,λj s g=>?_,λj u E m=>?_,λj d=>?_,h.fs,λw y=>?_,by simpa[Sp.jS]using h.n1,by simpa[Sp.jS]using h.n2,Fp h.rK O,h.pk⟩
 ·rw[GI];by_cases hx:x=(k:Int)
  ·rw[zC hx];constructor
   ·intro h;cases h
   ·rintro⟨j,rfl,d⟩;have:=(a j).1 d;omega
  ·rw[zB hx,h.keys];constructor
   ·rintro⟨j,rfl,d⟩;exact⟨j,rfl,(a j).2 ⟨O,d⟩⟩
   ·rintro⟨j,rfl,d⟩;exact⟨j,rfl,((a j).1 d).2⟩
 ·rw[GI]at g;by_cases hx:(j:Int)=(k:Int)
  ·rw[zC hx]at g;cases g
  ·rw[zB hx]at g;obtain⟨M,H,D,z,K,L,C⟩:=h.wd j s g;have N:=h.out j (h.ly g);refine⟨M,H,D,z,e.bT K O,L,λi J=>?_⟩;rw[C i J];simp only[Sp.jS];rw[zB O]
 ·exact h.inj j u ((a j).1 E).2 ((a u).1 m).2
 ·exact h.out j ((a j).1 d).2
 ·simp only[Sp.jS]at y ⊢;by_cases hin:k*32<=w/\w<(k+1)*32
  ·rw[zC hin]
  ·rw[zB hin];refine h.zero w λm=>y ((a _).2 ⟨O,m⟩)
theorem Sp.oT (s:Sp)(a v:Nat):s.set a 0 v=s:=by
 have b:fZ s.st a (a+0) v=s.st:=by
  apply zo;intro i;rw[UP];cases s.st[i]? with
  | none=>rfl
  | some x=>simp only[zX];rw[zB O]
 have d:(λw=>if a*32<=w/\w<(a+0)*32 then 0 else s.wd w)=s.wd:=by
  funext w;rw[zB O]
 simp only[Sp.set,b,d]
theorem Sp.nY (s:Sp)(a m v:Nat)(h:a+m<s.st.length):(s.set a m v).jS (a+m) v=s.set a (m+1) v:=by
 have b:(fZ s.st a (a+m) v).set (a+m) v=fZ s.st a (a+(m+1)) v:=by
  apply zo;intro i;rw[mO,UP,UP,Kq];by_cases hi:a+m=i
  ·subst hi;rw[zC rfl,zC h,cV h,zX,zC O]
  ·rw[zB hi];cases s.st[i]? with
   | none=>rfl
   | some x=>
    simp only[zX];by_cases hin:a<=i/\i<a+m
    ·rw[zC hin,zC O]
    ·rw[zB hin,zB O]
 have d:(λw=>if(a+m)*32<=w/\w<(a+m+1)*32 then 0 else(if a*32<=w/\w<(a+m)*32 then 0 else s.wd w))=λw=>if a*32<=w/\w<(a+(m+1))*32 then 0 else s.wd w:=by
  funext w
  by_cases b:(a+m)*32<=w/\w<(a+m+1)*32
  ·rw[zC b,zC O]
  ·rw[zB b];by_cases d:a*32<=w/\w<(a+m)*32
   ·rw[zC d,zC O]
   ·rw[zB d,zB O]
 simp only[Sp.set,Sp.jS,b,d]
theorem JD (h:dL U F p sp){x y v:Nat}(hl:x+y<=sp.st.length)(hv:v<=1){R:aP}(hR:∀σ',Ext F U σ'->dL σ' F p (sp.set x y v)->R σ') :
 Y4.c (aW p) x y (fV v).1 (fV v).2 U R:=by
 refine Y4.o ?_;unfold Y4.v;have W:sp.st.length<=1024:=by obtain⟨q,r,l,B,h⟩:=h;exact h.n2
 have z:dL U (Cut F U) p sp:=dM.cut dL.loc h;refine nw (cs:=[.bool (fV v).1,.bool (fV v).2]) λu hz e g=>?_;have S:=z.bO e;refine Z6 (a:=bN) (λ(t:Int) w=>∃i:Nat,t=((x+i:Nat):Int)/\i<=y/\Ext (Cut F U) u w/\bX w U.size [.bool (fV v).1,.bool (fV v).2]/\dL w (Cut F U) p (sp.set x i v)) (λt _=>x+y-t.toNat)
  ⟨0,rfl,O,Ext.refl _ _,g,by rw[Sp.oT];exact S⟩ ?_
 rintro t w ⟨i,rfl,hi,H,j,q,r,l,B,d⟩;refine cP (m:=x+y) O O (cQ (λY=>?_) λV=>?_)
 ·have P:(sp.set x i v).st.length=sp.st.length:=Kq _ _ _ _;refine aG (d.rS λcap K=>j.rB rfl (j.rB rfl (ix O aC ?_)));rw[add_lit,show 0+((x+i:Nat):Int).toNat*2=2*(x+i) by omega];obtain⟨M,s⟩:=d.row;have L:x+i<(sp.set x i v).st.length:=by omega
  refine s.s1 (by rw[zO,Vn];omega) λw1 o1 X=>X.s1 (by rw[nG,zO,Vn];omega) λw2 o2 J=>?_;rw[j8,Dd L]at J;have e2:Ext (· = q) w w2:=o1.ext.trans o2.ext;obtain⟨c,Q,hd⟩:=d.hd;have D:=e2.bT hd d.fs.2.2.2.1;refine aG (D.rM rfl ⟨l,e2.fO d.map (λe=>d.fs.2.2.2.2.2 e.symm),λw3 A _ C=>?_⟩);have o3:=A r rfl;have N:Ext (λb=>b=q\/b=r) w w3:=(e2.sub λb g=>.inl g).trans (o3.ext.sub λb g=>.inr g);have G:=d.jS L hv N (Ws o3 J d.fs.2.2.2.2.2) C;rw[Sp.nY _ _ _ _ O]at G;have E:Ext (Cut F U) w w3:=N.sub λb g=>by
   rcases g with rfl|rfl
   ·exact d.fs.2.1
   ·exact d.fs.2.2.1
  refine cP (m:=x+(i+1)) O O ⟨⟨i+1,rfl,O,H.trans E,E.bT j λZ=>by have:=Z.2;omega,_,_,_,_,G⟩,O⟩
 ·have:i=y:=by omega
  subst this;refine hR w (Ext.cut (e.to.trans H)) (dM.mono dL.loc ⟨q,r,l,B,d⟩ λb _ g=>g.1)
theorem SJ (h:dL U F p sp)(g:Gl U)(hF:iR F)(a m:Int){R:aN}(hR:∀σ',Ext F U σ'->dL σ' F p (fS sp a m)->R (eZ sp a m) σ') :
 Y1.c (aW p) a m U R:=by
 refine Y1.o ?_;unfold Y1.v;have i:(∀x∈sp.st,x<=2)/\sp.st.length<=1024:=by obtain⟨q,r,l,B,h⟩:=h;exact⟨h.rK,h.n2⟩
 refine NO h a m (λe=>?_) λx y s w G K A C=>?_
 ·have e1:eZ sp a m=1:=by unfold eZ;rw[e];rfl
  have e2:fS sp a m=sp:=by unfold fS;rw[e1];rfl
  have:=hR U (Ext.refl _ _);rw[e1,e2]at this;exact cD rfl (this h)
 ·subst w;subst G;have e:Zb sp.st.length (x:Int) (y:Int)=true:=by simp only[Zb,zF,zU];omega
  refine cB rfl (M5 C g (by rw[zZ,j3];omega) (λz H=>i.1 z (sH (uW H))) λD e1=>?_);have d:eZ sp x y=if((sp.st.drop x).take y).any (· != 0)then 5 else 0:=by unfold eZ;rw[e];rfl
  refine cO (λb=>?_) λb=>?_
  ·rw[b]at d;have e2:fS sp x y=sp:=by unfold fS;rw[d];rfl
   have:=hR D (bK.to e1);rw[d,e2]at this;exact this (h.bO e1)
  ·rw[b]at d;have e2:fS sp x y=sp.set x y 1:=by unfold fS;rw[d];rfl
   have j:=g.bO e1;refine nh (by rw[←j.c0];rfl) (nh (by rw[←j.c1];rfl) ?_);refine JD (v:=1) (h.bO e1) A O λE J u=>?_;have:=hR E (Ext.trans (bK.to e1) J);rw[d,e2]at this;exact this u
theorem DP (h:dL U F p sp)(g:Gl U)(x:Int)(hx:x<=9223372036854775807){R:aN}(hR:∀σ',bK U σ'->R (eT sp x) σ') :
 Xo.c (aW p) x 1 U R:=by
 refine Xo.o ?_;unfold Xo.v;have G:=h;obtain⟨q,r,l,B,h⟩:=h;have n2:=h.n2;have i:(x<0\/x%8≠0)->R 7 U:=λj=>by
  have:=hR U (Ext.refl _ _);unfold eT at this;rw[zC j]at this;exact this
 refine G8 G (cB rfl (cB rfl (bV.intro (cQ (λC=>cD rfl (i (.inl C))) λC=>nz aB ?_))));obtain⟨y,rfl⟩:=za (show 0<=x by omega);refine cO (λd=>?_) λd=>?_
 ·refine i (.inr ?_);rw[Qg O]at d;simpa using d
 have K:y%8=0:=by
  rw[Qg O]at d;have:((y:Int)%8)=0:=by simpa using d
  omega
 have ok:¬((y:Int)<0\/(y:Int)%8≠0):=by omega
 refine nz aB (cP (m:=y/256) (by rw[XP O];simp) O (nz aB (cP (m:=y/8) (by rw[XP O];simp) O ?_)));refine cP (m:=y/8+1) O O (cP (m:=y/8) O O (nz aB (cP (m:=y/256) (by rw[XP O];simp;omega) O ?_)));have fin:∀(b:Bool) σ',bK U σ'->(b=true↔sp.st.getD (y/256) 0=0)->If b (R 7 σ') (R 0 σ'):=λb σ' e j=>by
  have:=hR σ' e;unfold eT at this;rw[zB ok]at this;refine cO (λh=>?_) λh=>?_
  ·rw[zC (by simpa using j.1 h)]at this;exact this
  ·rw[zB (λE=>by rw[j.2 (by simpa using E)]at h;cases h)]at this;exact this
 obtain⟨c,J,hd⟩:=h.hd;refine Jn.intro ⟨λm=>bX m p [.slice (some ⟨q,0,none⟩) sp.st.length c,.map (some r),.int .i64 (sp.pk:Int)]/\Gl m,⟨hd,g⟩,?_⟩;refine aG ⟨⟨some ⟨q,0,none⟩,sp.st.length,c⟩,λm a=>by rw[add_lit,a.1.cell];rfl,?_⟩;refine cQ (λs=>?_) λs=>?_
 ·simp only at s;refine fin _ U (Ext.refl _ _) ⟨λ_=>?_,λ_=>rfl⟩;rw[zP,zV O];rfl
 simp only at s;refine aG ⟨⟨some ⟨q,0,none⟩,sp.st.length,c⟩,λm a=>by rw[add_lit,a.1.cell];rfl,?_⟩;refine cP (m:=y/256+1) O O (iN O aC (zD _) ?_);simp only;rw[zB O];refine⟨false,λm a=>a.2.u0,⟨false,λm a=>a.2.u1,?_⟩⟩;have e:(Option.map (λ(u:Addr)=>u.add (y/256*2)) (some (⟨q,0,none⟩:Addr)))=some ⟨q,2*(y/256),none⟩:=by
  simp only[zX,add_lit];congr 2;omega
 rw[e,BD];have D:=h.part (x:=y/256) (y:=1) (c:=c-y/256) O;refine NR (v:=0) D (by rw[zZ,j3];omega) (λz H=>h.rK z (sH (uW H))) O λσ' w=>?_;refine⟨⟨w.bT hd id,g.bO w⟩,fin _ σ' w ?_⟩;have A:y/256<sp.st.length:=by omega
 rw[zP,cV A,wR A,uH,yl];simp[eq_comm]
theorem LG (h:dL U F p sp){w:Nat}(hw:w<=2305843009213693952){R:aN}(hR:R (sp.wd w) U):Y7.c (aW p) (w:Int) U R:=by
 refine Y7.o ?_;unfold Y7.v;obtain⟨q,r,l,B,h⟩:=h;refine aG (h.rM (nz aB (cP (m:=w/32) (by rw[XP O];simp) O ⟨l,h.map,?_⟩)));cases hg:bW l ((w/32:Nat):Int)with
 | none=>
  refine cB rfl ?_;have:sp.st[w/32]?≠some 2:=λb=>by
   have:=(h.keys _).2 ⟨_,rfl,b⟩;rw[hg]at this;cases this
  rw[h.zero w this]at hR;exact hR
 | some s=>
  obtain⟨e,x,j,i,a,u,d⟩:=h.wd _ s hg;refine cD rfl (nz aB ?_);simp only[pH];have g:((w:Int).tmod 32)=((w%32:Nat):Int):=by rw[Qg O];simp
  rw[e,g];refine ix O O ?_;rw[add_lit];refine a.tP ?_ hR;rw[show 0+((w%32:Nat):Int).toNat*1=w%32 by omega,d _ O];simp only;rw[show 32*(w/32)+w%32=w by omega]
theorem JX (h:dL U F p sp)(g:Gl U)(x:Int)(hx:x<=9223372036854775807){R:Int->Int->Hp->Prop}(hR:∀σ',bK U σ'->R (if eT sp x=0 then sp.wd (x.toNat/8)else 0) (eT sp x) σ') :
 YL.c (aW p) x U R:=by
 refine YL.o ?_;unfold YL.v;refine DP h g x hx λσ' e=>?_;have:=hR σ' e;refine cO (λd=>?_) λd=>?_
 ·have i:¬eT sp x=0:=by simpa using d
  rw[zB i]at this;exact this
 ·have a:eT sp x=0:=by simpa using d
  rw[zC a,a]at this;have b:0<=x:=by
   rcases(by omega:x<0\/0<=x)with hlt|hge
   ·unfold eT at a;rw[zC (.inl hlt)]at a;cases a
   ·exact hge
  obtain⟨y,rfl⟩:=za b;exact nz aB (cP (m:=y/8) (by rw[XP O];simp) O (LG (h.bO e) O this))
theorem fD.Bb (h:fD U F p q r l B sp){k:Nat}(hk:k<sp.st.length)(hn:sp.st[k]?≠some 2){σ':Hp}{b:Nat}{s:Sl}{T:Rg}(e:Ext T U σ')(hT:∀i,i<U.size->T i->i=q\/i=r)(hz:U.size<=b){rest:List Value}
 (hb:bX σ' q (gP (sp.st.set k 2)++rest)) (hm:dI σ' r .i64 .s (dB l (k:Int) s)) (ha:s.a=some ⟨b,0,none⟩) (hl:s.len=32) (hc:s.cap=32) (hw:bX σ' b (List.replicate 32 (.int .i64 0))) :
 fD σ' (Grow F U) p q r (dB l (k:Int) s) (λj=>if j=k then b else B j) {sp with st:=sp.st.set k 2}:=by
 have u:∀j:Nat,(sp.st.set k 2)[j]?=some 2↔j=k\/sp.st[j]?=some 2:=λj=>by
  rw[mO];by_cases hjk:k=j
  ·subst hjk;rw[zC rfl,zC hk];simp
  ·rw[zB hjk];exact⟨λh=>.inr h,λh=>h.resolve_left λe=>hjk e.symm⟩
 obtain⟨c,G,hd⟩:=h.hd;obtain⟨_,C⟩:=h.row;have S:=hd.lt;have W:=C.lt;have V:=h.map.lt;have X:=e.1;have g:=h.fs;have A:∀{j:Nat},sp.st[j]?=some 2->B j<U.size:=λ{j} d=>by
  obtain⟨t,_,_,_,_,cs,J,_⟩:=h.entry d;exact J.lt
 have cT:∀{i:Nat} {cs:List Value},bX U i cs->i≠q->i≠r->bX σ' i cs:=λ{i cs} E D y=>e.bT E λL=>by
  rcases hT i E.lt L with h|h
  ·exact D h
  ·exact y h
 refine⟨⟨c,by simpa using G,by simpa using cT hd g.2.2.2.1 g.2.2.2.2.1⟩,⟨rest,hb⟩,hm,λx=>?_,λj t d=>?_,λj z D y m=>?_,λj d=>?_,⟨.inl g.1,.inl g.2.1,.inl g.2.2.1,g.2.2.2⟩,λw H=>?_,by simpa using h.n1,by simpa using h.n2,Fp h.rK O,h.pk⟩
 ·rw[Ug];by_cases hx:x=(k:Int)
  ·rw[zC hx];subst hx;simp only[Option.isSome_some,true_iff];exact⟨k,rfl,(u k).2 (.inl rfl)⟩
  ·rw[zB hx,h.keys];constructor
   ·rintro⟨j,rfl,d⟩;exact⟨j,rfl,(u j).2 (.inr d)⟩
   ·rintro⟨j,rfl,d⟩;exact⟨j,rfl,((u j).1 d).resolve_left O⟩
 ·rw[Ug]at d;by_cases hx:(j:Int)=(k:Int)
  ·have:j=k:=by omega
   subst this;rw[zC rfl]at d;cases d;rw[zC rfl];refine⟨ha,hl,O,_,hw,by simp,λi E=>?_⟩;rw[mr,zC E];simp only;rw[h.zero _ (by rw[show(32*j+i)/32=j by omega];exact hn)]
  ·rw[zB hx]at d;obtain⟨N,Q,P,cs,J,R,M⟩:=h.wd j t d;have K:=h.out j (h.ly d);rw[zB O];exact⟨N,Q,P,cs,cT J K.2.2.1 K.2.2.2,R,M⟩
 ·by_cases e1:j=k
  ·by_cases e2:z=k
   ·omega
   ·rw[zC e1,zB e2]at m;have:=A (((u z).1 y).resolve_left e2);omega
  ·rw[zB e1]at m;by_cases e2:z=k
   ·rw[zC e2]at m;have:=A (((u j).1 D).resolve_left e1);omega
   ·rw[zB e2]at m;exact h.inj j z (((u j).1 D).resolve_left e1) (((u z).1 y).resolve_left e2) m
 ·by_cases e1:j=k
  ·rw[zC e1];exact⟨.inr hz,O,O,O⟩
  ·rw[zB e1];have:=h.out j (((u j).1 d).resolve_left e1);exact⟨.inl this.1,this.2⟩
 ·refine h.zero w λy=>H ((u _).2 (.inr y))
theorem fD.yM (h:fD U F p q r l B sp){σ':Hp}{n c:Nat}(hn:n<=1024)(ho:Qo U σ' p)(hc:sp.st.length<=c)(hb:bX σ' p [.slice (some ⟨q,0,none⟩) sp.st.length c,.map (some r),.int .i64 (n:Int)]):fD σ' F p q r l B {sp with pk:=n}:=by
 have d:=h.fs;obtain⟨a,b⟩:=h.row;refine⟨⟨c,hc,hb⟩,⟨a,Ws ho b O⟩,U1 ho h.map O,h.keys,λj t e=>?_,h.inj,h.out,d,h.zero,h.n1,h.n2,h.rK,hn⟩;obtain⟨w,x,s,i,g,u,m⟩:=h.wd j t e;exact⟨w,x,s,i,Ws ho g (h.out j (h.ly e)).2.1,u,m⟩
theorem fD.word (h:fD U F p q r l B sp){w:Nat}{v:Int}(hk:sp.st[w/32]?=some 2){σ':Hp}{cs:List Value}(h32:32<=cs.length)(ho:Qo U σ' (B (w/32)))(hcs:∀j,j<32->cs[j]?=some (.int .i64 (sp.wd (32*(w/32)+j))))
 (hb:bX σ' (B (w/32)) (cs.set (w%32) (.int .i64 v))):fD σ' F p q r l B {sp with wd:=λu=>if u=w then v else sp.wd u}:=by
 have s:=h.out _ hk;obtain⟨c,D,hd⟩:=h.hd;obtain⟨a,b⟩:=h.row;refine⟨⟨c,D,Ws ho hd O⟩,⟨a,Ws ho b O⟩,U1 ho h.map O,h.keys,λj t z=>?_,h.inj,h.out,h.fs,λu x=>?_,h.n1,h.n2,h.rK,h.pk⟩
 ·obtain⟨C,A,y,d,G,H,E⟩:=h.wd j t z;by_cases hjk:j=w/32
  ·subst hjk;refine⟨C,A,y,_,hb,by simpa using h32,λi g=>?_⟩;rw[mO];by_cases hiw:w%32=i
   ·rw[zC hiw,zC O];simp only;rw[zC O]
   ·rw[zB hiw];simp only;rw[zB O];exact hcs i g
  ·have m:B j≠B (w/32):=λe=>hjk (h.inj _ _ (h.ly z) hk e);refine⟨C,A,y,d,Ws ho G m,H,λi g=>?_⟩;rw[E i g];simp only;rw[zB O]
 ·have:u≠w:=λe=>by subst e;exact x hk
  simp only;rw[zB this];exact h.zero u x
theorem IY (h:dL U F p sp)(g:Gc U){w:Nat}(hw:w/32<sp.st.length)(v:Int){R:aP}(hR:∀σ',Ext F U σ'->dL σ' (Grow F U) p (ny sp w v)->R σ') :
 YU.c (aW p) (w:Int) v U R:=by
 refine YU.o ?_;unfold YU.v;obtain⟨q,r,l,B,h⟩:=h;have ac:=h.n2;have j:sp.st[w/32]?=some sp.st[w/32]:=cV hw;have tm:((w:Int).tmod 32)=((w%32:Nat):Int):=by rw[Qg O];simp
 have word:∀(u:Hp) (s':Sp) (l':List (Int×Sl)) (B':Nat->Nat),Ext F U u->fD u (Grow F U) p q r l' B' s'->s'.st[w/32]?=some 2->({s' with wd:=λz=>if z=w then v else s'.wd z}:Sp)=ny sp w v →
  bU (some ⟨p,0,none⟩) λad=>k9 (ad.add 1) u λaa=>Lk .i64 .s aa ((w/32:Nat):Int) u λH=>Nz 32<|Ix (H.getD ⟨none,0,0⟩).a (H.getD ⟨none,0,0⟩).len ((w:Int).tmod 32) 1 λY=>dN Y (.int .i64 v) u λv1=>R v1:=by
  intro u s' l' B' eu hu A he;refine aG (hu.rM ⟨l',hu.map,nz aB ?_⟩);obtain⟨s,hs,w1,w2,w3,cs,w4,w5,w6⟩:=hu.entry A;rw[hs,tm];simp only[pH];rw[w1];refine ix O O ?_;rw[add_lit,show 0+((w%32:Nat):Int).toNat*1=w%32 by omega];refine w4.s0 O λu2 o2 M=>?_;have h2:=hu.word (v:=v) A w5 o2 w6 M;rw[he]at h2;exact hR u2 (eu.dT o2.ext λb d=>by subst d;exact(hu.out _ A).1) ⟨_,_,_,_,h2⟩
 refine nz aB (cP (m:=w/32) (by rw[XP O];simp) O (Jn.intro (aG (h.rS λcap C=>ix O aC ?_))));rw[add_lit,show 0+((w/32:Nat):Int).toNat*2=2*(w/32) by omega];refine h.xF j (nh (n:=true) g.d0 (nh (n:=true) g.d1 ?_));have e0:(((fV sp.st[w/32]).1==true)&&(((fV sp.st[w/32]).2==true)&&true))=(sp.st[w/32]==2):=y5 (h.rK _ (j7 hw)) (y:=2) O;rw[e0];refine cO (λhd=>?_) λhd=>?_
 ·have K:sp.st[w/32]≠2:=by simpa using hd
  refine aG (h.rS λcap C=>nh (n:=true) g.d0 (nh (n:=true) g.d1 (ix O aC ?_)));rw[add_lit,show 0+((w/32:Nat):Int).toNat*2=2*(w/32) by omega];obtain⟨J,D⟩:=h.row;refine D.s1 (by rw[zO,Vn];omega) λu1 o1 b1=>b1.s1 (by rw[nG,zO,Vn];omega) λu2 o2 M=>?_;rw[j8]at M;have W:bX u2 q (gP (sp.st.set (w/32) 2)++J):=by rw[←Dd hw];exact M
  have e2:Ext (· = q) U u2:=o1.ext.trans o2.ext;obtain⟨c,hc,G⟩:=h.hd;have E:=e2.bT G h.fs.2.2.2.1;refine⟨λm=>bX m p [.slice (some ⟨q,0,none⟩) sp.st.length c,.map (some r),.int .i64 (sp.pk:Int)],E,aG ⟨some r,λm hm=>by rw[add_lit,hm.cell];rfl,?_⟩⟩;refine mk (n:=32) O O λu3 hz3 P b3=>⟨Ext.bT P E id,?_⟩;have V:bX u3 u2.size (List.replicate 32 (.int .i64 0)):=b3;have q3:=Ext.bT P W id;have S:=e2.fO h.map (λe=>h.fs.2.2.2.2.2 e.symm);refine⟨r,l,rfl,Ext.fO P S id,λu4 o4 X=>?_⟩;have sz2:u2.size=U.size:=by rw[o2.1,o1.1]
  have hrlt:=h.map.lt;have hplt:=G.lt;have e4:Ext (λb=>b=q\/b=r) U u4:=((e2.sub λb d=>.inl d).trans (bK.to P)).trans (o4.ext.sub λb d=>.inr d);have N:=h.Bb hw (by rw[j];simpa using K) (s:=⟨some ⟨u2.size,0,none⟩,32,32⟩) (b:=u2.size) e4 (λi _ L=>L) O (Ws o4 q3 h.fs.2.2.2.2.2) X rfl rfl rfl (Ws o4 V O);obtain⟨c4,Z,x⟩:=N.hd;refine aG (x.rI rfl (aG (x.rM rfl ⟨_,N.map,aG ?_⟩)));rw[N.wA];have hcl:(sp.st.set (w/32) 2).count 2<=1024:=zh List.count_le_length (by simpa using ac);have hpk:=h.pk;have hv:(if((List.count 2 (sp.st.set (w/32) 2):Nat):Int)>(sp.pk:Int)then((List.count 2 (sp.st.set (w/32) 2):Nat):Int)else(sp.pk:Int))=((max sp.pk ((sp.st.set (w/32) 2).count 2):Nat):Int):=by
   by_cases hgt:((List.count 2 (sp.st.set (w/32) 2):Nat):Int)>(sp.pk:Int)
   ·rw[zC hgt];omega
   ·rw[zB hgt];omega
  simp only;rw[hv];refine x.s1 aA λu5 o5 b5=>?_;have h5:=N.yM O o5 Z b5;have e5:Ext F U u5:=(e4.sub λb d=>by
   rcases d with rfl|rfl
   ·exact h.fs.2.1
   ·exact h.fs.2.2.1).trans (o5.ext.sub λb d=>by subst d;exact h.fs.1)
  refine word u5 _ _ _ e5 h5 (by simp only;rw[mO,zC rfl,zC hw]) ?_;unfold ny;rw[zB (by rw[zP,j];exact K)]
 ·have Q:sp.st[w/32]=2:=by simpa using hd
  rw[Q]at j;have ab:fD U (Grow F U) p q r l B sp:={h with out:=λk A=>⟨.inl (h.out k A).1,(h.out k A).2⟩,fs:=⟨.inl h.fs.1,.inl h.fs.2.1,.inl h.fs.2.2.1,h.fs.2.2.2⟩};refine word U sp l B (Ext.refl _ _) ab j ?_;unfold ny;rw[zC (by rw[zP,j];rfl)];have:sp.st.set (w/32) 2=sp.st:=by
   apply zo;intro i;rw[mO];by_cases L:w/32=i
   ·subst L;rw[zC rfl,zC hw,j]
   ·rw[zB L]
  rw[this]
theorem Mt (h:dL U F p sp)(g:Gl U)(gd:Gc U)(x:Int)(hx:x<=9223372036854775807)(v:Int){R:aN}(hR:∀σ',Ext F U σ'->dL σ' (Grow F U) p (ZV sp x v)->R (eT sp x) σ') :
 Yl.c (aW p) x v U R:=by
 refine Yl.o ?_;unfold Yl.v;have j:dL U (Cut F U) p sp:=dM.cut dL.loc h;refine DP h g x hx λB e=>?_;have w:=j.bO e;have C:=g.bO e;refine cO (λs=>?_) λs=>?_
 ·have u:¬eT sp x=0:=by simpa using s
  refine hR B (bK.to e) ?_;unfold ZV;rw[zB u];exact dM.mono dL.loc w λb _ a=>.inl a.1
 ·have d:eT sp x=0:=by simpa using s
  have i:0<=x/\sp.st.getD (x.toNat/256) 0≠0:=by
   unfold eT at d;by_cases a:x<0\/x%8≠0
   ·rw[zC a]at d;cases d
   ·rw[zB a]at d;by_cases hz:sp.st.getD (x.toNat/256) 0=0
    ·rw[zC hz]at d;cases d
    ·exact⟨O,hz⟩
  obtain⟨y,rfl⟩:=za i.1;have r:y/8/32<sp.st.length:=by
   rcases ke (y/256) sp.st.length with h|h
   ·omega
   ·exact absurd (by rw[zP,zV (by simpa using h)];rfl) i.2
  refine nz aB (cP (m:=y/8) (by rw[XP O];simp) O (IY w (gd.bO e) r v λA e2 z=>?_));have:=hR A (Ext.cut ((bK.to e).trans e2)) ?_
  ·rw[d]at this;exact this
  ·unfold ZV;rw[zC d];exact dM.mono dL.loc z λb _ a=>by
    rcases a with a|a
    ·exact .inl a.1
    ·exact .inr (zh e.1 a)
def K0 (n:Nat):Sp:=⟨List.replicate n 0,λ_=>0,0⟩
theorem R9 {U:Hp}{F:Rg}{p q r n c:Nat}(h1:1<=n)(h2:n<=1024)(hc:n<=c)(hd:bX U p [.slice (some ⟨q,0,none⟩) n c,.map (some r),.int .i64 0])(hq:bX U q (gP (List.replicate n 0)))(hr:dI U r .i64 .s [])
 (hF:F p/\F q/\F r) (hne:p≠q/\p≠r/\q≠r):fD U F p q r [] (λ_=>0) (K0 n):=by
 have b:∀k:Nat,(List.replicate n 0)[k]?≠some 2:=λk a=>by
  rw[mr]at a;split at a<;>cases a
 refine⟨⟨c,by simpa[K0]using hc,by simpa[K0]using hd⟩,⟨[],by simpa[K0]using hq⟩,hr,λx=>?_,λk s d=>(by cases d),λk g h1=>absurd h1 (b k),λk a=>absurd a (b k),⟨hF.1,hF.2.1,hF.2.2,hne⟩,λw _=>rfl,by simpa[K0]using h1,by simpa[K0]using h2,λx e=>?_,by simp[K0]⟩
 ·constructor
  ·intro h;cases h
  ·rintro⟨k,_,a⟩;exact absurd a (b k)
 ·have:=yU e;omega
theorem JK {n:Nat}(h1:1<=n)(h2:n<=1024){R:Option Addr->Int->Hp->Prop}(hR:∀σ' p',bK U σ'->U.size<=p'->dL σ' (λb=>U.size<=b) p' (K0 n)->R (some ⟨p',0,none⟩) 0 σ'):QM.c (n:Int) U R:=by
 refine QM.o ?_;unfold QM.v;refine bV.intro (fR O ?_);rw[zM O];refine cB rfl (mk O O λd x e1 g=>r7 λr w e2 j=>nw (cs:=[.slice (some ⟨U.size,0,none⟩) n n,.map (some d.size),.int .i64 0]) λi u a p=>?_);have e:=Ext.bT a (Ext.bT e2 g id) id;have m:=Ext.fO a (j .i64 .s) id;refine hR i _ (Ext.trans (Ext.trans e1 e2) a) O ⟨U.size,d.size,[],_,R9 h1 h2 (zD _) p ?_ m ⟨O,O,O⟩ O⟩;rw[RD];exact e
end Go.Ar