/- Texts joined. -/
import Derived.Lib.Overlaps
import Derived.Laws.Externs
import Derived.Test.YteihenagckcobaaGreatDoorI2
set_option linter.unusedVariables false
set_option linter.unusedSimpArgs false
namespace Go.Proofs
open Go.Vc
set_option maxRecDepth 100000
def Zs.h:Hn:=.q .o1 (.q (.q (.cR (.seq [.op,.op,.op,.op,.cX false 3 (RI.ops 3)])) .aK) (.q (.q .o3 (.k (.loop [(15,.I)] (.q .o1 (.q (.c .l .l) (.q (.k (.q .o6 (.q (.cR (.hO true [1] [(37,.one .b)] (.take 0 (.all [(1,.take 2 (.take 3 (.split 23 (.take 4 (.take 5 (.take 6 (.take 7 (.take 8 (.take 9 (.take 10 (.take 11 (.take 12 (.take 13 (.take 14 (.take 15 (.take 16 (.take 17 (.done))))))))))))))) (.take 4 (.take 5 (.take 6 (.split 26 (.take 7 (.take 9 (.take 10 (.take 11 (.take 12 (.take 13 (.all [(8,.all [(14,.take 15 (.take 16 (.take 17 (.done))))]),(14,.all [(8,.take 15 (.take 16 (.take 17 (.done))))])]))))))) (.take 7 (.take 8 (.take 9 (.take 10 (.take 11 (.take 12 (.take 13 (.take 14 (.take 15 (.take 16 (.take 17 (.done)))))))))))))))))))])))) .aK))) .o2)))))) .aM))
def Zs.v (a:Sl)(b:Hp)(c:aO):Prop:=bW (λd e=>If d (c false e) (Yo [bN] (λf=>f 0 e) λg (h:Int) i=>If (h<((a.len:Nat):Int)) (Ix a.a a.len h 3 λj=>aQ j 0 i λk=>aQ j 1 i λl=>aQ j 2 i λm=>aV #[.I 0,.I 0,.I 0] 137 i λn o=>aR n 0 (.I k) o λp=>aR n 1 (.I l) p λq=>aR n 2 (.I m) q λr=>Jn [.b] (λ(s:Bool) t=>If s (c false t) (bL (h+1) λu=>g u t)) λv=>eL r λw=>aS w n 0 λx=>aS w n 1 λy=>aS w n 2 λz=>Qt.c x y z r λaa ab=>If (!aa) (v true ab) (If (h>0) (bL (h-1) λac=>Ix a.a a.len ac 3 λad=>(aQ n 0 ab λae=>aQ ad 0 ab λaf=>v (decide (ae<=af)) ab) ∧ (aQ ad 0 ab λag=>aQ n 0 ab λah=>v (decide (ah<=ag)) ab)) (v false ab))) (c true i))) λai=>If (((a.len:Nat):Int)<1) (ai true b) (ai (decide (((a.len:Nat):Int)>40)) b)
theorem Zs.o {a b c}(d:Zs.v a b c):Zs.c a b c:=Wa Tryz.func140 (x:=Zs.h) (R0 d)
def Z1.h:Hn:=.q .o4 (.q (.k (.q .o4 (.c .aL (.q (.cR (.hO true [] [(13,.one .b)] (.tk [0,1,2] (.split 16 (.tk [3,4,5,6,7,8,9,10,11,12,13,14,15,16] (.done)) (.tk [3,4,5,6] (.split 20 (.tk [7,8,9,10,11,12,13,14,15,16] (.done)) (.tk [7,8,9,10] (.split 24 (.tk [11,12,13,14,15,16] (.done)) (.take 11 (.take 13 (.all [(12,.take 14 (.take 15 (.take 16 (.done))))]))))))))))) .aJ)))) (.q .o4 (.q (.q .o2 .aJ) (.q .o3 .l))))
def Z1.v (a:Sl)(b c:Int)(d:Hp)(e:Int->Int->Hp->Prop):Prop:=aV #[.I b] 3 d λf g=>aV #[.I c] 3 g λh i=>Zs.c a i λj k=>If (!j) (e 0 2 k) (Jn [.b] (λ(l:Bool) m=>If l (e 0 1 m) (Wl.c a ⟨203,#[],#[.pointer (some f),.pointer (some h)]⟩ m λn o=>If (n<0) (e 0 4 o) (e n 0 o))) λp=>eL k λq=>gC q bN f λ(r:Int)=>If (r<1) (p true k) (gC q bN h λ(s:Int)=>If (s<1) (p true k) (gC q bN h λ(t:Int)=>If (t>256) (p true k) (gC q bN h λ(u:Int)=>gC q bN h λ(v:Int)=>Z3.c u k λw x=>And (q x) <| p (w != v) x))))
theorem Z1.o {a b c d e}(f:Z1.v a b c d e):Z1.c a b c d e:=Wa Tryz.func145 (x:=Z1.h) (R0 f)
def Qt.h:Hn:=.q .o2 (.q (.cR (.seq [.op,.op,.op,.op,.cX true 3 (RI.ops 3),.op,.cX true 4 (RI.ops 4),.op,.cX true 3 (RI.ops 3),.op,.cX true 3 (RI.ops 3),.op,.cX true 6 (RI.ops 6),.op,.cX true 3 (RI.ops 3),.op,.cX true 3 (RI.ops 3),.op])) .l)
def Qt.v (a b c:Int)(d:Hp)(e:aO):Prop:=aV #[.I a,.I b,.I c] 137 d λf g=>aQ f 0 g λh=>bW (λi j=>bW (λk l=>bW (λm n=>bW (λo p=>bW (λq r=>bW (λs t=>bW (λu v=>e u v) λw=>If s (aQ f 2 t λx=>w (decide (x<=32)) t) (w false t)) λy=>If q (aQ f 2 r λz=>y (decide (z≥1)) r) (y false r)) λaa=>If o (aQ f 1 p λab=>bL (ab*256) λac=>aQ f 0 p λad=>aa (decide (ac≥ad)) p) (aa false p)) λae=>If m (aQ f 1 n λaf=>ae (decide (af<=4)) n) (ae false n)) λag=>If k (aQ f 1 l λah=>ag (decide (ah≥1)) l) (ag false l)) λai=>If i (aQ f 0 j λaj=>Nz 8 <| ai ((aj.tmod 8)==0) j) (ai false j)) λak=>If (h≥8) (aQ f 0 g λal=>ak (decide (al<=512)) g) (ak false g)
theorem Qt.o {a b c d e}(f:Qt.v a b c d e):Qt.c a b c d e:=Wa Tryz.func176 (x:=Qt.h) (R0 f)
def Zw.h:Hn:=.q .o2 (.q .o7 .l)
def Zw.v (a b c:Int)(d:Hp)(e:aN):Prop:=aV #[.I a,.I b,.I c] 137 d λf g=>aQ f 1 g λh=>bL (h*256) λi=>aQ f 0 g λj=>Nz j<|bL (i.tdiv j) λk=>e k g
theorem Zw.o {a b c d e}(f:Zw.v a b c d e):Zw.c a b c d e:=Wa Tryz.func177 (x:=Zw.h) (R0 f)
def Z3.h:Hn:=.q .o1 (.q .o1 (.q (.q .o1 (.k (.loop [(3,.I),(4,.I)] (.q (.q .o3 (.c .l .l)) (.q (.k .o2) .o3))))) .aL))
def Z3.v (a:Int)(b:Hp)(c:aN):Prop:=Yo [bN,bN] (λd=>d 0 1 b) λe (f:Int) (g:Int) h=>If (g<=a) (bL (g*2) λi=>e g i h) (c f h)
theorem Z3.o {a b c}(d:Z3.v a b c):Z3.c a b c:=Wa Tryz.func201 (x:=Z3.h) (R0 d)
def ZN.h:Hn:=.q .o2 (.q (.cR (.seq [.op,.op,.op,.op,.op,.cX true 5 (RI.ops 5),.op])) .l)
def ZN.v (a b c:Int)(d e:Addr)(f:Hp)(g:aO):Prop:=aV #[.I a,.I b,.I c] 137 f λh i=>aQ h 0 i λj=>bM d i λk=>bW (λl m=>g l m) λn=>If (j≥k) (aQ h 0 i λo=>bM e i λp=>Nz p <| n ((o.tmod p)==0) i) (n false i)
theorem ZN.o {a b c d e f g}(h:ZN.v a b c d e f g):ZN.c a b c d e f g:=Wa Tryz.func203 (x:=ZN.h) (R0 h)
def Zm.h:Hn:=.q .o3 (.q (.q .o3 .aJ) (.q .o4 .l))
def Zm.v (a b c:Int)(d:Hp)(e:Int->Int->Hp->Prop):Prop:=aV #[.I a,.I b,.I c] 137 d λf g=>aQ f 0 g λh=>aQ f 1 g λi=>aQ f 2 g λj=>Qt.c h i j g λk l=>If (!k) (e 0 1 l) (aQ f 0 l λm=>aQ f 1 l λn=>aQ f 2 l λo=>Zw.c m n o l λp q=>e p 0 q)
theorem Zm.o {a b c d e}(f:Zm.v a b c d e):Zm.c a b c d e:=Wa Tryz.func247 (x:=Zm.h) (R0 f)
end Go.Proofs
namespace Go.Ar
open Go Go.Vc Go.Proofs
variable {U:Hp}
theorem FP (x y z:Int){R:aO}(hR:∀σ',bK U σ'->R (Ua x y z) σ'):Qt.c x y z U R:=by
 refine Qt.o ?_;unfold Qt.v;refine nw (cs:=[.int .i64 x,.int .i64 y,.int .i64 z]) λh A e b=>?_;have i:Ua x y z=false->R false h:=λg=>g▸hR h e;have a:¬(8<=x/\x<=512/\x%8=0/\1<=y/\y<=4/\x<=y*256/\1<=z/\z<=32)->R false h:=λg=>i (by rw[←qk,UM];exact g);refine b.rI rfl (bW.intro ?_);refine cQ (λj=>b.rI rfl (bW.intro ?_)) λj=>?_
 case refine_2=>
  iterate 6 refine bW.intro (cB rfl ?_)
  exact a O
 refine cQ (λs=>b.rI rfl (nz aB (bW.intro ?_))) λs=>?_
 case refine_2=>
  iterate 5 refine bW.intro (cB rfl ?_)
  exact a O
 rw[Qz O];refine cO (λd=>b.rI rfl (bW.intro ?_)) λd=>?_
 case refine_2=>
  have:¬x%8=0:=by simpa using d
  iterate 4 refine bW.intro (cB rfl ?_)
  exact a O
 have m:x%8=0:=by simpa using d
 refine cQ (λw=>b.rI rfl (bW.intro ?_)) λw=>?_
 case refine_2=>
  iterate 3 refine bW.intro (cB rfl ?_)
  exact a O
 refine cQ (λr=>b.rI rfl (ar O O (b.rI rfl (bW.intro ?_)))) λr=>?_
 case refine_2=>
  iterate 2 refine bW.intro (cB rfl ?_)
  exact a O
 refine cQ (λu=>b.rI rfl (bW.intro ?_)) λu=>?_
 case refine_2=>exact bW.intro (cB rfl (a O))
 refine cQ (λp=>b.rI rfl ?_) λp=>a O;have:decide (z<=32)=Ua x y z:=by
  rw[lQ,UM];simp;omega
 rw[this];exact hR h e
theorem Ss {c:bZ}(hc:c.ok){R:aN}(hR:∀σ',bK U σ'->R (c.n:Int) σ'):Zw.c c.size c.aF c.batch U R:=by
 refine Zw.o ?_;unfold Zw.v;have h:=hc;unfold bZ.ok at h;refine nw (cs:=[.int .i64 c.size,.int .i64 c.aF,.int .i64 c.batch]) λh b e a=>?_;refine a.rI rfl (cP (m:=c.aF*256) aA O (a.rI rfl (nz O ?_)));refine cP (m:=c.n) ?_ (by have:=hc.j9;omega) (hR _ e);rw[Yq O];simp[bZ.n]
theorem EU (x y z:Int){R:Int->Int->Hp->Prop}(h1:∀c:bZ,c.ok->x=c.size->y=c.aF->z=c.batch->∀σ',bK U σ'->R (c.n:Int) 0 σ')(h0:Ua x y z=false->∀σ',bK U σ'->R 0 1 σ'):Zm.c x y z U R:=by
 refine Zm.o ?_;unfold Zm.v;refine nw (cs:=[.int .i64 x,.int .i64 y,.int .i64 z]) λh i e b=>?_;refine b.rI rfl (b.rI rfl (b.rI rfl (FP _ _ _ λj e2=>?_)));have a:=e2.bT b id;cases hk:Ua x y z
 ·exact cE rfl (h0 hk _ (e.trans e2))
 ·obtain⟨c,d,_,rfl,rfl,rfl⟩:=Gb hk;exact cB rfl (a.rI rfl (a.rI rfl (a.rI rfl (Ss d λm g=>h1 c d rfl rfl rfl _ ((e.trans e2).trans g)))))
end Go.Ar
namespace Go.Proofs
open Go.Vc
set_option maxRecDepth 100000
def Xi.h:Hn:=.q .o1 (.q (.cR (.seq [.op,.op,.op,.cX true 6 (RI.ops 6),.op])) .l)
def Xi.v (a:R2)(b:Hp)(c:aO):Prop:=bW (λd e=>c d e) λf=>If (!a.isNone) (bE a 0 b λh=>f (decide (((h.len:Nat):Int)>0)) b) (f false b)
theorem Xi.o {a b c}(d:Xi.v a b c):Xi.c a b c:=Wa Tryz.func191 (x:=Xi.h) (R0 d)
def Kn.h:Hn:=.q .o2 (.q (.q (.cR (.seq [.op,.op,.op,.cX false 2 [.op,.op],.op,.cX false 3 (RI.ops 3)])) .aJ) (.q .o6 .l))
def Kn.v (a:Int)(b:Hp)(c:Option Addr->Int->Hp->Prop):Prop:=bW (λd e=>bW (λf g=>If f (c none 1 g) (Mk a a 8 3 [.I 0] g λh i=>aV #[.slice h.a h.len h.cap] 280 i λj k=>c (some j) 0 k)) λl=>If d (l true e) (Nz 16 <| l ((a.tmod 16) != 0) e)) λm=>If (a<16) (m true b) (m (decide (a>1024)) b)
theorem Kn.o {a b c}(d:Kn.v a b c):Kn.c a b c:=Wa Tryz.func198 (x:=Kn.h) (R0 d)
def Xp.h:Hn:=.q .o1 (.q .o6 .l)
def Xp.v (a:R2)(b c:Int)(d:Hp)(e:aN):Prop:=aV #[.I 1] 3 d λf g=>Xy.c a b c 2 ⟨some f,1,1⟩ g λh i=>e h i
theorem Xp.o {a b c d e}(f:Xp.v a b c d e):Xp.c a b c d e:=Wa Tryz.func220 (x:=Xp.h) (R0 f)
def YC.h:Hn:=.q .o1 (.q .o7 .l)
def YC.v (a:R2)(b:Hp)(c:aN):Prop:=bE a 0 b λe=>Nz 16<|bL (((e.len:Nat):Int).tdiv 16) λf=>c f b
theorem YC.o {a b c}(d:YC.v a b c):YC.c a b c:=Wa Tryz.func224 (x:=YC.h) (R0 d)
def YX.h:Hn:=.q .o1 (.q (.o 11) .l)
def YX.v (a:R2)(b:Int)(c:Hp)(d:Sl->Hp->Prop):Prop:=bE a 0 c λf=>bL (b*16) λg=>bL (b+1) λh=>bL (h*16) λi=>eX f 1 g i (f.cap:Nat) λj=>d j c
theorem YX.o {a b c d}(e:YX.v a b c d):YX.c a b c d:=Wa Tryz.func226 (x:=YX.h) (R0 e)
def Xy.h:Hn:=.q .o2 (.q (.k (.q .o4 (.c .aM (.q (.cR (.seq [.op,.op,.op,.cX false 2 [.op,.op],.op,.cX false 7 (RI.ops 7),.op,.cX false 9 (RI.ops 9),.op])) .aK)))) (.q .gQ (.q (.q .o3 .aK) (.q .o3 .aM))))
def Xy.v (a:R2)(b c d:Int)(e:Sl)(f:Hp)(g:aN):Prop:=aV #[.slice e.a e.len e.cap] 34 f λh i=>Xi.c a i λj k=>If (!j) (g 5 k) (bW (λl m=>bW (λn o=>bW (λp q=>If p (g 1 q) (bE a 0 q λs=>bL (b+c) λt=>eX s 1 b t (s.cap:Nat) λu=>Wx.c u ⟨271,#[],#[.pointer (some h)]⟩ q λv w=>If v (g 5 w) (Qg.c u d w λx=>g 0 x))) λy=>If n (y true o) (bE a 0 o λaa=>bL (((aa.len:Nat):Int)-b) λab=>y (decide (c>ab)) o)) λac=>If l (ac true m) (bE a 0 m λae=>ac (decide (b>((ae.len:Nat):Int))) m)) λaf=>If (b<0) (af true k) (af (decide (c<1)) k))
theorem Xy.o {a b c d e f g}(h:Xy.v a b c d e f g):Xy.c a b c d e f g:=Wa Tryz.func230 (x:=Xy.h) (R0 h)
def Yh.h:Hn:=.q .o2 (.q (.k (.q .o4 (.c .aL (.q (.cR (.seq [.op,.op,.op,.cX false 4 (RI.ops 4),.op])) .aJ)))) (.q .o5 .l))
def Yh.v (a:R2)(b:Int)(c:Hp)(d:Sl->Int->Hp->Prop):Prop:=Xi.c a c λe f=>If (!e) (d ⟨none,0,0⟩ 5 f) (bW (λg h=>If g (d ⟨none,0,0⟩ 1 h) (YX.c a b h λi j=>d i 0 j)) λk=>If (b<0) (k true f) (YC.c a f λl m=>k (decide (b≥l)) m))
theorem Yh.o {a b c d}(e:Yh.v a b c d):Yh.c a b c d:=Wa Tryz.func233 (x:=Yh.h) (R0 e)
def Qg.h:Hn:=.q .o3 (.k (.loop [(7,.I)] (.q .o1 (.q (.c .l .l) (.q (.k (.q .o2 .o5)) .o2)))))
def Qg.v (a:Sl)(b:Int)(c:Hp)(d:aP):Prop:=Yo [bN] (λe=>e 0 c) λf (g:Int) h=>If (g<((a.len:Nat):Int)) (Ix a.a a.len g 1 λi=>dW i (.I b) h λj=>bL (g+1) λk=>f k j) (d h)
theorem Qg.o {a b c d}(e:Qg.v a b c d):Qg.c a b c d:=Wa Tryz.func235 (x:=Qg.h) (R0 e)
def Xu.h:Hn:=.q .o1 (.q .o6 .l)
def Xu.v (a:R2)(b c:Int)(d:Hp)(e:aN):Prop:=aV #[.I 2,.I 3] 3 d λf g=>Xy.c a b c 1 ⟨some f,2,2⟩ g λh i=>e h i
theorem Xu.o {a b c d e}(f:Xu.v a b c d e):Xu.c a b c d e:=Wa Tryz.func255 (x:=Xu.h) (R0 f)
def Ym.h:Hn:=.q .o1 (.q .o5 .l)
def Ym.v (a:Int)(b:Addr)(c:Hp)(d:aO):Prop:=jr b c λe=>Wp.c e a c λf g=>d (!f) g
theorem Ym.o {a b c d}(e:Ym.v a b c d):Ym.c a b c d:=Wa Tryz.func271 (x:=Ym.h) (R0 e)
def XG.h:Hn:=.q .o1 (.q (.q (.cR (.seq [.op,.op,.op,.op,.cX false 2 [.op,.op],.op,.cX false 7 (RI.ops 7)])) .aK) (.q .o8 .l))
def XG.v (a:R2)(b:Int)(c:Hp)(d:aN):Prop:=Xi.c a c λe f=>bW (λg h=>bW (λi j=>If i (d (-1) j) (bE a 0 j λl=>Ix l.a l.len b 1 λm=>bM m j λn=>d n j)) λo=>If g (o true h) (bE a 0 h λq=>o (decide (b≥((q.len:Nat):Int))) h)) λr=>If (!e) (r true f) (r (decide (b<0)) f)
theorem XG.o {a b c d}(e:XG.v a b c d):XG.c a b c d:=Wa Tryz.func281 (x:=XG.h) (R0 e)
def XV.h:Hn:=.q .o1 (.q .o8 (.q (.k (.q .o3 (.c .aL (.q .o5 .aK)))) (.q .o2 .aM)))
def XV.v (a:R2)(b:Int)(c:Hp)(d:aN):Prop:=Yh.c a b c λe f g=>If (f != 0) (d f g) (Ix e.a e.len 0 1 λh=>bM h g λi=>If (i != 0) (d 5 g) (Qg.c e 3 g λj=>d 0 j))
theorem XV.o {a b c d}(e:XV.v a b c d):XV.c a b c d:=Wa Tryz.func287 (x:=XV.h) (R0 e)
end Go.Proofs
namespace Go.Ar
open Go Go.Vc Go.Proofs
open Go.Bu (Za)
variable {U:Hp}{F:Rg}{p q:Nat}{st:List Nat}
structure ic (U:Hp) (p q:Nat) (st:List Nat):Prop where
 hd:∃cap,st.length<=cap/\bY U p [.slice (some ⟨q,0,none⟩) st.length cap]
 row:∃rest,bY U q (ints st++rest)
 ne:p≠q
 n1:16<=st.length
 n2:st.length<=1024
 n3:st.length%16=0
theorem ic.bS {σ':Hp}(h:ic U p q st)(e:Ext F U σ')(hp:¬F p)(hq:¬F q):ic σ' p q st:=
 ⟨by obtain⟨c,a,b⟩:=h.hd;exact⟨c,a,e.bT b hp⟩,by obtain⟨r,a⟩:=h.row;exact⟨r,e.bT a hq⟩,h.ne,h.n1,h.n2,h.n3⟩
theorem ic.bO {σ':Hp}(h:ic U p q st)(e:bK U σ'):ic σ' p q st:=h.bS e id id
theorem ic.lt (h:ic U p q st):p<U.size/\q<U.size:=by
 obtain⟨_,_,b⟩:=h.hd;obtain⟨_,a⟩:=h.row;exact⟨b.lt,a.lt⟩
theorem ic.rS (h:ic U p q st){K:Sl->Prop}(hK:∀cap,st.length<=cap->K ⟨some ⟨q,0,none⟩,st.length,cap⟩):jr (Addr.add ⟨p,0,none⟩ 0) U K:=by
 obtain⟨c,b,a⟩:=h.hd;exact a.rS rfl (hK c b)
theorem ic.part (h:ic U p q st){s:Sl}{a n:Nat}(ha:s.a=some ⟨q,a,none⟩)(hn:s.len=n)(hl:a+n<=st.length):cU s 1 (ints ((st.drop a).take n)) U (· = q):=by
 obtain⟨r,e⟩:=h.row;have b:((st.drop a).take n).length=n:=by simp;omega
 refine e.gZ ha (by rw[QD,b,hn];simp) λj d=>?_;rw[QD,b]at d;rw[ze (by rw[QD];omega)];simp[ints,zj,d,kO]
theorem jF {b o n c:Nat}{cs:List Value}(hb:bY U b cs)(hl:o+n<=cs.length)(hn:n<=1000000)(v:Nat){R:aP}
 (hR:∀σ',Qm U σ' b->bY σ' b (cs.take o++List.replicate n (.int .i64 (v:Int))++cs.drop (o+n))->R σ'):Qg.c ⟨some ⟨b,o,none⟩,n,c⟩ v U R:=by
 refine Qg.o ?_;unfold Qg.v;refine ZY (a:=bN) (λ(t:Int) p=>∃i:Nat,t=(i:Int)/\i<=n/\Qm U p b/\bY p b (cs.take o++List.replicate i (.int .i64 (v:Int))++cs.drop (o+i))) (λt _=>n-t.toNat) ⟨0,rfl,O,⟨rfl,λ_ _=>rfl⟩,by simpa using hb⟩ ?_;rintro t p ⟨i,rfl,x,r,j⟩;refine cQ (λu=>?_) λs=>?_
 ·simp only at u;refine ix O aC ?_;rw[add_lit];refine j.s0 aE λy d g=>?_;refine cP (m:=i+1) O O ⟨⟨i+1,rfl,O,⟨d.1.trans r.1,λk w=>(d.2 k w).trans (r.2 k w)⟩,?_⟩,O⟩;have:(cs.take o++List.replicate i (Value.int .i64 (v:Int))++cs.drop (o+i)).set (o+(i:Int).toNat*1) (Value.int .i64 (v:Int))=cs.take o++List.replicate (i+1) (Value.int .i64 (v:Int))++cs.drop (o+(i+1)):=by
   rw[List.set_append_right _ _ aE];have e:o+(i:Int).toNat*1-(cs.take o++List.replicate i (Value.int .i64 (v:Int))).length=0:=by simp;omega
   rw[e,u6 O,List.set_cons_zero,Aw];simp[j3,wI]
  rw[this]at g;exact g
 ·simp only at s;have:i=n:=by omega
  subst this;exact hR p r j
theorem ic.fill (h:ic U p q st){a n:Nat}{r:List Value}{σ':Hp}{v:Nat}(hrow:bY U q (ints st++r))(hl:a+n<=st.length)(ho:Qm U σ' q)
 (hb:bY σ' q ((ints st++r).take a++List.replicate n (.int .i64 (v:Int))++(ints st++r).drop (a+n))):ic σ' p q (gg st a (a+n) v):=by
 obtain⟨c,g,e⟩:=h.hd;have b:=Ku st a (a+n) v;refine⟨⟨c,by rw[b];exact g,?_⟩,⟨r,?_⟩,h.ne,by rw[b];exact h.n1,by rw[b];exact h.n2,by rw[b];exact h.n3⟩
 ·rw[b];exact Ws ho e h.ne
 ·rw[MJ O hl,UB,UB];have e1:(ints st++r).take a=ints (st.take a):=by
   rw[oD (by rw[QD];omega)];simp[ints]
  have e2:(ints st++r).drop (a+n)=ints (st.drop (a+n))++r:=by
   rw[List.drop_append_of_le_length (by rw[QD];omega)];simp[ints]
  have d:ints (List.replicate (a+n-a) v)=List.replicate n (.int .i64 (v:Int)):=by
   rw[Ay];simp[ints]
  rw[e1,e2]at hb;rw[d];simpa[j3]using hb
theorem ic.jF (h:ic U p q st){a n c:Nat}(hl:a+n<=st.length)(v:Nat){R:aP}(hR:∀σ',Ext (· = q) U σ'->ic σ' p q (gg st a (a+n) v)->R σ') :
 Qg.c ⟨some ⟨q,a,none⟩,n,c⟩ v U R:=by
 obtain⟨r,b⟩:=h.row;have:=h.n2;exact Ar.jF b (by simp[QD];omega) O v λσ' d e=>hR σ' d.ext (h.fill b hl d e)
theorem Am (h:ic U p q st){R:aO}(hR:R true U):Xi.c (aW p) U R:=by
 refine Xi.o ?_;unfold Xi.v;refine bW.intro (cE rfl (aG (h.rS λcap _=>?_)));have:=h.n1;rw[zJ aC];exact hR
theorem OG (h:ic U p q st){R:aN}(hR:R ((st.length/16:Nat):Int) U):YC.c (aW p) U R:=by
 refine YC.o ?_;unfold YC.v;have:=h.n2;refine aG (h.rS λcap _=>nz aB ?_);refine cP (m:=st.length/16) ?_ O hR;rw[Yq O];simp
theorem LU (h:ic U p q st){k:Nat}(hk:16*k+16<=st.length){R:Sl->Hp->Prop}(hR:∀c,R ⟨some ⟨q,16*k,none⟩,16,c⟩ U):YX.c (aW p) (k:Int) U R:=by
 refine YX.o ?_;unfold YX.v;have:=h.n2;refine aG (h.rS λcap a=>?_);refine cP (m:=16*k) O O (cP (m:=k+1) O O (cP (m:=16*k+16) O O ?_));refine iR O aC aC ?_;have e:16*k+16-16*k=16:=by omega
 rw[zB aC,e];simp only[zX,add_lit,ns,zH];exact hR _
theorem R8 (h:ic U p q st)(k:Int){R:Sl->Int->Hp->Prop}(h1:∀(x:Nat) c,k=(x:Int)->16*x+16<=st.length->R ⟨some ⟨q,16*x,none⟩,16,c⟩ 0 U)(h0:ub st.length k=false->R ⟨none,0,0⟩ 1 U) :
 Yh.c (aW p) k U R:=by
 refine Yh.o ?_;unfold Yh.v;have n3:=h.n3;refine Am h (cB rfl (bW.intro (cQ (λa=>cE rfl (h0 ?_)) λa=>OG h ?_)))
 ·simp[ub];omega
 ·refine cQ (λb=>h0 ?_) λd=>?_
  ·simp[ub];omega
  ·obtain⟨x,rfl⟩:=za (show 0<=k by omega);exact LU h O λc=>h1 x c rfl O
theorem FB {n x:Nat}(h:16*x+16<=n):ub n (x:Int)=true:=by simp[ub];omega
theorem ic.first (h:ic U p q st){x c:Nat}(hx:16*x+16<=st.length){K:Int->Prop}(hK:K ((st.getD (16*x) 0:Nat):Int)) :
 Ix (some ⟨q,16*x,none⟩) 16 0 1 λa=>gp .i64 a U K:=by
 have b:=h.part (s:=⟨some ⟨q,16*x,none⟩,16,c⟩) (n:=16) rfl rfl hx;refine b.rh (i:=0) (x:=st.getD (16*x) 0) ?_ hK;simp[zj,kO,zP];rw[cV O];simp
theorem L6 (h:ic U p q st)(k:Int){R:aN}(hR:∀σ',Ext (· = q) U σ'->ic σ' p q (iT st k)->R (kx st k) σ'):XV.c (aW p) k U R:=by
 refine XV.o ?_;unfold XV.v;refine R8 h k (λx c d i=>?_) λd=>?_
 ·subst d;have a:=FB i;refine cB rfl (h.first (c:=c) i (cO (λg=>?_) λg=>?_))
  ·have e1:¬st.getD (16*x) 0=0:=by simpa using g
   have:kx st (x:Int)=5:=by simp only[kx,a,dE,zR,zB e1]
   have e2:iT st (x:Int)=st:=by simp[iT,this]
   have:=hR U (Ext.refl _ _);rw[e2]at this;simpa[*]using this h
  ·have e1:st.getD (16*x) 0=0:=by simpa using g
   have b:kx st (x:Int)=0:=by simp only[kx,a,dE,zR,e1]
   have e2:iT st (x:Int)=gg st (16*x) (16*x+16) 3:=by simp[iT,b]
   refine h.jF i 3 λσ' e j=>?_;have:=hR σ' e;rw[b,e2]at this;exact this j
 ·have b:kx st k=1:=by simp[kx,d]
  have e2:iT st k=st:=by simp[iT,b]
  refine cE rfl ?_;have:=hR U (Ext.refl _ _);rw[b,e2]at this;exact this h
theorem FT {s:Sl}{xs:List Nat}(h:cU s 1 (ints xs) U F)(hl:xs.length<=1000000)(v:Nat){R:aN}(h1:∀i:Nat,xs[i]?=some v->(∀j:Nat,j<i->xs[j]?≠some v)->R (i:Int) U)(h0:v∉xs->R (-1) U) :
 WD.c s (v:Int) U R:=by
 refine WD.o ?_;unfold WD.v;have x:=h.oJ;refine ZY (a:=bN) (λ(t:Int) w=>∃i:Nat,t=(i:Int)/\i<=xs.length/\w=U/\∀j,j<i->xs[j]?≠some v) (λt _=>xs.length-t.toNat) ⟨0,rfl,O,rfl,λj d=>O⟩ ?_;rintro t w ⟨i,rfl,B,rfl,b⟩;refine cQ (λy=>?_) λz=>?_
 ·have r:i<xs.length:=by omega
  have u:xs[i]?=some xs[i]:=cV r;refine h.rh u ?_;rw[ly];refine cO (λp=>?_) λp=>?_
  ·have:v=xs[i]:=by simpa using p
   exact h1 i (by rw[u,this]) b
  ·have g:¬v=xs[i]:=by simpa using p
   refine cP (m:=i+1) O O ⟨⟨i+1,rfl,O,rfl,λj d=>?_⟩,O⟩;by_cases e:j=i
   ·subst e;rw[u];intro e2;cases e2;exact g rfl
   ·exact b j O
 ·refine h0 λA=>?_;obtain⟨j,d⟩:=zQ A;have:=(cW.1 d).1;exact b j O d
theorem Po {s:Sl}{xs:List Nat}(h:cU s 1 (ints xs) U F)(hl:xs.length<=1000000)(v:Nat){R:aO}(hR:R (xs.contains v) U):Wp.c s (v:Int) U R:=by
 refine Wp.o ?_;unfold Wp.v;refine FT h hl v (λi b _=>?_) λa=>?_
 ·have:xs.contains v=true:=by simpa using zG b
  rw[this]at hR;rw[zJ O];exact hR
 ·have:xs.contains v=false:=by simpa using a
  rw[this]at hR;exact hR
theorem Iq {s:Sl}{xs:List Int}(h:cU s 1 (xs.map (Value.int .i64)) U F)(hl:xs.length<=1000000000)(v:Int){R:aO}(hR:R (xs.contains v) U):Wp.c s v U R:=by
 refine Wp.o ?_;unfold Wp.v;refine WD.o ?_;unfold WD.v;have w:s.len=xs.length:=by have:=h.1;simp at this;omega
 refine ZY (a:=bN) (λ(t:Int) u=>∃i:Nat,t=(i:Int)/\i<=xs.length/\u=U/\∀j,j<i->xs[j]?≠some v) (λt _=>xs.length-t.toNat) ⟨0,rfl,O,rfl,λj d=>O⟩ ?_;rintro t u ⟨i,rfl,A,rfl,b⟩;refine cQ (λy=>?_) λz=>?_
 ·have r:i<xs.length:=by omega
  have x:xs[i]?=some xs[i]:=cV r;refine h.mY x (cO (λp=>?_) λp=>?_)
  ·have e:v=xs[i]:=by simpa using p
   have:xs.contains v=true:=by rw[e];simp
   rw[this]at hR;show R (decide ((i:Int)≥0)) _;rw[zJ O];exact hR
  ·have g:¬v=xs[i]:=by simpa using p
   refine cP (m:=i+1) O O ⟨⟨i+1,rfl,O,rfl,λj d=>?_⟩,O⟩;by_cases e:j=i
   ·subst e;rw[x];intro e2;cases e2;exact g rfl
   ·exact b j O
 ·have:xs.contains v=false:=by
   simp only[rJ,decide_eq_false_iff_not];intro hm;obtain⟨j,d⟩:=zQ hm;have:=(cW.1 d).1;exact b j O d
  rw[this]at hR;exact hR
def Fg (f:Fv)(p:Nat->Bool)(U:Hp):Prop:=∀(x:Nat) (σ':Hp) (R:aO),bK U σ'->(∀σ'',bK σ' σ''->R (p x) σ'')->VF Tryz.prog f [.int .i64 (x:Int)] [.one .b] σ' R
theorem GR {s:Sl}{xs:List Nat}(h:cU s 1 (ints xs) U F)(hl:xs.length<=1000000){f:Fv}{pr:Nat->Bool}(hf:Fg f pr U){R:aO}(hR:∀σ',bK U σ'->R (xs.any pr) σ') :
 Wx.c s f U R:=by
 refine Wx.o ?_;unfold Wx.v;refine WQ.o ?_;unfold WQ.v;have w:=h.oJ;refine ZY (a:=bN) (λ(t:Int) u=>∃i:Nat,t=(i:Int)/\i<=xs.length/\bK U u/\∀j x,j<i->xs[j]?=some x->pr x=false) (λt _=>xs.length-t.toNat) ⟨0,rfl,O,Ext.refl _ _,λj x p=>O⟩ ?_;rintro t u ⟨i,rfl,A,e,g⟩;refine cQ (λy=>?_) λz=>?_
 ·have d:i<xs.length:=by omega
  have r:xs[i]?=some xs[i]:=cV d;refine(aH.bO h e).rh r (hf _ _ _ e λB e2=>?_);cases hp:pr xs[i]
  ·refine cB rfl (cP (m:=i+1) O O ⟨⟨i+1,rfl,O,e.trans e2,λj x p b=>?_⟩,O⟩);by_cases e3:j=i
   ·subst e3;rw[r]at b;cases b;exact hp
   ·exact g j x O b
  ·refine cE rfl ?_;have:xs.any pr=true:=kb.2 ⟨_,j4 d,hp⟩;show R (decide ((i:Int)≥0)) _;rw[zJ O,←this];exact hR _ (e.trans e2)
 ·have:xs.any pr=false:=by
   rw[mA];intro x r;obtain⟨j,p⟩:=zQ r;have:=(cW.1 p).1;simp[g j x O p]
  show R (decide ((-1:Int)≥0)) _;rw[show decide ((-1:Int)≥0)=false from rfl,←this];exact hR _ e
theorem PC {c:Nat}{s:Sl}{fr:List Nat}{σ0:Hp}(hb:bY σ0 c [.slice s.a s.len s.cap])(hs:cU s 1 (ints fr) σ0 F)(hl:fr.length<=1000):Fg ⟨271,#[],#[.pointer (some ⟨c,0,none⟩)]⟩ (λx=>!fr.contains x) σ0:=by
 intro x σ' R e hR;refine pE (all := #[.int .i64 (x:Int),.pointer (some ⟨c,0,none⟩)]) (by kernel_rfl) aA ?_;refine Ym.o ?_;unfold Ym.v;refine(e.bT hb id).tY rfl ?_;exact Po (aH.bO hs e) O x (hR _ (Ext.refl _ _))
theorem CD (h:ic U p q st)(a m:Int)(v:Nat){s:Sl}{fr:List Nat}(hs:cU s 1 (ints fr) U F)(hl:fr.length<=1000){R:aN}(hR:∀σ',Ext (· = q) U σ'->ic σ' p q (VX st a m v fr)->R (GL st a m fr) σ') :
 Xy.c (aW p) a m v s U R:=by
 refine Xy.o ?_;unfold Xy.v;have n2:=h.n2;have P:=h.lt.2;refine nw (cs:=[.slice s.a s.len s.cap]) λv1 N g L=>?_;have e:=h.bO g;have d:¬(0<=a/\1<=m/\m<=st.length-a)->R 1 v1:=λM=>by
  have b:Za st.length a m=false:=by simp only[Za,←uq];exact zM M
  have e1:GL st a m fr=1:=by simp[GL,b]
  have e2:VX st a m v fr=st:=by simp[VX,e1]
  have:=hR v1 g.to;rw[e1,e2]at this;exact this e
 refine Am e (cB rfl (bW.intro ?_));refine cQ (λD=>bW.intro (cE rfl (bW.intro (cE rfl (cE rfl (d O)))))) λD=>?_;refine bW.intro (cQ (λJ=>bW.intro (cE rfl (cE rfl (d O)))) λJ=>?_);refine aG (e.rS λcap A=>bW.intro (cQ (λB=>cE rfl (d (by simp only at *;omega))) λB=>?_));simp only at B;refine aG (e.rS λcap A=>ar aC aC (cQ (λw=>d (by simp only at *;omega)) λw=>?_));simp only at w;obtain⟨x,rfl⟩:=za (show 0<=a by omega);obtain⟨y,rfl⟩:=za (show 0<=m by omega);have i:x+y<=st.length:=by omega
 have b:Za st.length (x:Int) (y:Int)=true:=by simp only[Za,zF,zU];omega
 refine aG (e.rS λcap A=>cP (m:=x+y) O O (iR O aC aC ?_));rw[zB aC];simp only[zX,add_lit,ns,zH];have C:x+y-x=y:=by omega
 rw[C];have K:=e.part (s:=⟨some ⟨q,x,none⟩,y,cap-x⟩) (n:=y) rfl rfl i;refine GR K aE (PC (s:=s) L (aH.bO hs g) hl) λG e2=>?_;have u:=e.bO e2;have j:((st.drop x).take y).any (λz=>!fr.contains z) = !uz st x y fr:=by
  rw[uz,List.all_eq_not_any_not,Bool.not_not]
 rw[j];cases hA:uz st x y fr
 ·have e1:GL st (x:Int) (y:Int) fr=5:=by simp[GL,b,hA]
  have r:VX st (x:Int) (y:Int) v fr=st:=by simp[VX,e1]
  have:=hR G (g.to.trans e2.to);rw[e1,r]at this;exact cE rfl (this u)
 ·have e1:GL st (x:Int) (y:Int) fr=0:=by simp[GL,b,hA]
  have r:VX st (x:Int) (y:Int) v fr=gg st x (x+y) v:=by simp[VX,e1]
  refine cB rfl (u.jF i v λv3 H E=>?_);have:=hR v3 (g.to.trans (e2.to.trans H));rw[e1,r]at this;exact this E
theorem yg {h:Hp}{b:Nat}{xs:List Nat}{n c:Nat}(hb:bY h b (ints xs))(hn:n=xs.length):cU ⟨some ⟨b,0,none⟩,n,c⟩ 1 (ints xs) h (· = b):=
 hb.gZ (o:=0) rfl (by rw[QD];simp[hn]) λj _=>by rw[zH]
theorem IQ (h:ic U p q st)(a m:Int){R:aN}(hR:∀σ',Ext (· = q) U σ'->ic σ' p q (VX st a m 1 [2,3])->R (GL st a m [2,3]) σ'):Xu.c (aW p) a m U R:=by
 refine Xu.o ?_;unfold Xu.v;refine nw (cs:=ints [2,3]) λv i e b=>?_;exact CD (h.bO e) a m 1 (yg b rfl) aA λσ' d g=>hR σ' (e.to.trans d) g
theorem Jw (h:ic U p q st)(a m:Int){R:aN}(hR:∀σ',Ext (· = q) U σ'->ic σ' p q (VX st a m 2 [1])->R (GL st a m [1]) σ'):Xp.c (aW p) a m U R:=by
 refine Xp.o ?_;unfold Xp.v;refine nw (cs:=ints [1]) λv i e b=>?_;exact CD (h.bO e) a m 2 (yg b rfl) aA λσ' d g=>hR σ' (e.to.trans d) g
def xr (st:List Nat)(x:Int):Int:=if 0<=x/\x<st.length then((st.getD x.toNat 0:Nat):Int)else -1
theorem M4 (h:ic U p q st)(x:Int){R:aN}(hR:R (xr st x) U):XG.c (aW p) x U R:=by
 refine XG.o ?_;unfold XG.v;have n2:=h.n2;unfold xr at hR;refine Am h (bW.intro (cB rfl (bW.intro (cQ (λg=>cE rfl ?_) λg=>aG (h.rS λcap i=>cQ (λb=>?_) λb=>?_)))))
 ·rw[zB O]at hR;exact hR
 ·simp only at b;rw[zB O]at hR;exact hR
 ·simp only at b;rw[zC O]at hR;obtain⟨y,rfl⟩:=za (show 0<=x by omega);refine aG (h.rS λcap i=>?_);have e:=h.part (s:=⟨some ⟨q,0,none⟩,st.length,cap⟩) (a:=0) (n:=st.length) rfl rfl O;rw[List.drop_zero,mV]at e;have d:y<st.length:=by omega
  refine e.rh (cV d) ?_;simpa[zP,cV d]using hR
theorem UX {s:Sl}{vs:List Value}(h:cU s 1 vs U F)(h1:∀v∈vs,dQ v=true)(hl:s.len<=1000000){R:Sl->Hp->Prop}
 (hR:∀s' σ',s'.len=s.len->bK U σ'->bR s' 1 vs σ' (λb=>U.size<=b)->R s' σ'):WC.c s U R:=by
 refine WC.o ?_;unfold WC.v;exact FE h aB rfl h1 aB hl hR
theorem Sw {n:Nat}(h1:16<=n)(h2:n<=1024)(h3:n%16=0){R:Option Addr->Int->Hp->Prop}(hR:∀σ' p q,bK U σ'->U.size<=p->U.size<=q->ic σ' p q (List.replicate n 0)->R (some ⟨p,0,none⟩) 0 σ'):Kn.c (n:Int) U R:=by
 refine Kn.o ?_;unfold Kn.v;refine bW.intro (fR O (bW.intro (fR O (nz aB ?_))));rw[Qz O];have:(((n:Int)%16) != 0)=false:=by
  have:((n:Int)%16)=0:=by omega
  rw[this];rfl
 rw[this];refine cB rfl (mk O O λv i e a=>nw (cs:=[.slice (some ⟨U.size,0,none⟩) n n]) λj d e2 b=>?_);have g:(List.replicate n [Value.int .i64 0]).flatten=ints (List.replicate n 0):=by
  have:[Value.int .i64 0]=ints [0]:=rfl;rw[this];clear a hR
  induction n with
  | zero=>rfl
  | succ n ih=>simp[wE,ints]
 rw[g]at a;refine hR _ _ _ (e.trans e2) O (zD _) ⟨⟨n,by simp,by simpa using b⟩,⟨[],by simpa using e2.bT a id⟩,O,by simpa using h1,by simpa using h2,by simpa using h3⟩
end Go.Ar
namespace Go.Proofs
open Go.Vc
set_option maxRecDepth 100000
def Zv.h:Hn:=.q .o1 (.q (.q .o3 .aJ) (.q (.cR (.tail 10 (RI.ops 10) [.op])) .l))
def Zv.v (a:R2)(b:Hp)(c:Int->Int->Hp->Prop):Prop:=aV #[.I 0,.I 0] 251 b λd e=>Yb.c a e λf g=>If (!f) (aR d 0 (.I 0) g λh=>aR d 1 (.I 0) h λi=>aQ d 0 i λj=>aQ d 1 i λk=>c j k i) (bD a 0 g λm=>bU a λn=>bM ((n.add 1).add 1) g λo=>aR d 0 (.I m) g λp=>aR d 1 (.I o) p λq=>aQ d 0 q λr=>aQ d 1 q λs=>c r s q)
theorem Zv.o {a b c}(d:Zv.v a b c):Zv.c a b c:=Wa Tryz.func179 (x:=Zv.h) (R0 d)
def Yi.h:Hn:=.q .o1 (.q (.q .o3 .aK) (.q .o6 .l))
def Yi.v (a:R2)(b:Hp)(c:aN):Prop:=Yb.c a b λd e=>If (!d) (c 0 e) (bE a 4 e λg=>c ((g.len:Nat):Int) e)
theorem Yi.o {a b c}(d:Yi.v a b c):Yi.c a b c:=Wa Tryz.func182 (x:=Yi.h) (R0 d)
def Yb.h:Hn:=.q .o1 (.q (.cR (.seq [.op,.op,.op,.cX true 6 (RI.ops 6),.op])) .l)
def Yb.v (a:R2)(b:Hp)(c:aO):Prop:=bW (λd e=>c d e) λf=>If (!a.isNone) (bE a 4 b λh=>f (decide (((h.len:Nat):Int)>0)) b) (f false b)
theorem Yb.o {a b c}(d:Yb.v a b c):Yb.c a b c:=Wa Tryz.func242 (x:=Yb.h) (R0 d)
def Km.h:Hn:=.q .o3 (.q .o7 (.q (.q (.cR (.seq [.op,.op,.op,.cX false 2 [.op,.op],.op,.cX false 5 (RI.ops 5)])) .aJ) (.q (.cR (.held true [] (.tk [0,1,2] (.all [(3,.take 4 (.all [(5,.take 6 (.take 7 (.done)))]))])))) .l)))
def Km.v (a b c d:Int)(e:Hp)(f:Option Addr->Int->Hp->Prop):Prop:=aV #[.I b,.I c,.I d] 137 e λg h=>aQ g 0 h λi=>aQ g 1 h λj=>aQ g 2 h λk=>Zm.c i j k h λl m n=>bW (λo p=>bW (λq r=>If q (f none 1 r) (eL r λs=>aS s g 0 λt=>aS s g 1 λu=>aS s g 2 λv=>Mk l l 8 3 [.I 0] r λw x=>And (s x) <| aV #[.I a,.I t,.I u,.I v,.slice w.a w.len w.cap,.I 0] 322 x λy z=>And (s z) <| f (some y) 0 z)) λaa=>If o (aa true p) (aQ g 1 p λab=>bL (1024-ab) λac=>aa (decide (a>ac)) p)) λad=>If (m != 0) (ad true n) (ad (decide (a<0)) n)
theorem Km.o {a b c d e f}(g:Km.v a b c d e f):Km.c a b c d e f:=Wa Tryz.func257 (x:=Km.h) (R0 g)
def Zo.h:Hn:=.q .o1 (.q .o8 (.q (.k (.q .o3 (.c .aL (.q .o9 .aK)))) (.q .o4 .aM)))
def Zo.v (a:R2)(b:Int)(c:Hp)(d:aN):Prop:=X8.c a b c λe f g=>If (f != 0) (d f g) (bE a 4 g λi=>Ix i.a i.len e 1 λj=>bM j g λk=>If (k==0) (d 9 g) (aV #[.I e] 3 g λl m=>Y4.c a 0 ⟨some l,1,1⟩ m λn=>d 0 n))
theorem Zo.o {a b c d}(e:Zo.v a b c d):Zo.c a b c d:=Wa Tryz.func278 (x:=Zo.h) (R0 e)
def Zf.h:Hn:=.q .o2 (.q (.q .o3 .aJ) (.q .o6 (.q (.q .o2 .aJ) (.q .o4 (.q .o5 .l)))))
def Zf.v (a:R2)(b:Hp)(c:Int->Int->Hp->Prop):Prop:=Yb.c a b λd e=>If (!d) (c 0 5 e) (bE a 4 e λg=>WD.c g 0 e λh i=>If (h<0) (c 0 6 i) (aV #[.I h] 3 i λj k=>Y4.c a 1 ⟨some j,1,1⟩ k λl=>Ye.c a h l λm n=>c m 0 n))
theorem Zf.o {a b c}(d:Zf.v a b c):Zf.c a b c:=Wa Tryz.func283 (x:=Zf.h) (R0 d)
def XR.h:Hn:=.q .o2 (.q (.q .o3 .aJ) (.q .o5 (.q (.q (.cR (.hO false [] [(32,.one .b)] (.take 0 (.take 1 (.all [(2,.take 3 (.take 4 (.split 18 (.take 5 (.take 6 (.take 7 (.take 8 (.take 9 (.take 10 (.take 11 (.take 12 (.take 13 (.take 14 (.take 15 (.take 16 (.take 17 (.take 18 (.done))))))))))))))) (.take 5 (.take 6 (.take 7 (.take 8 (.take 11 (.take 12 (.take 13 (.take 14 (.all [(9,.take 10 (.all [(15,.take 16 (.take 17 (.take 18 (.done))))])),(15,.all [(9,.take 10 (.take 16 (.take 17 (.take 18 (.done)))))])]))))))))))))]))))) .aJ) (.q .o9 .l))))
def XR.v (a:R2)(b:Int)(c:Hp)(d:Int->Int->Hp->Prop):Prop:=Yb.c a c λe f=>If (!e) (d 0 5 f) (Ye.c a 0 f λg h=>bL (b-g) λi=>Jn [.b] (λ(j:Bool) k=>If j (d 0 8 k) (bU a λl=>bM ((l.add 1).add 0) k λm=>Nz m<|bL (i.tdiv m) λn=>d n 0 k)) λo=>Ye.c a 0 h λp q=>If (b<p) (o true q) (bU a λr=>bU a λs=>(aX r 4 q λt=>bM ((s.add 1).add 0) q λu=>bL (((t.len:Nat):Int)*u) λv=>o (decide (i≥v)) q) ∧ (bM ((s.add 1).add 0) q λw=>aX r 4 q λx=>bL (((x.len:Nat):Int)*w) λy=>o (decide (i≥y)) q)))
theorem XR.o {a b c d}(e:XR.v a b c d):XR.c a b c d:=Wa Tryz.func290 (x:=XR.h) (R0 e)
def Yg.h:Hn:=.q .o2 (.q .o8 (.q (.q .o2 (.c (.q .o3 .l) .l)) (.q .gQ .l)))
def Yg.v (a:R2)(b:Int)(c:Hp)(d:Bool->Int->Hp->Prop):Prop:=X8.c a b c λe f g=>If (f != 0) (d false f g) (bE a 4 g λi=>Ix i.a i.len e 1 λj=>bM j g λk=>d (k==1) 0 g)
theorem Yg.o {a b c d}(e:Yg.v a b c d):Yg.c a b c d:=Wa Tryz.func292 (x:=Yg.h) (R0 e)
def X8.h:Hn:=.q .o2 (.q .o8 (.q (.q (.cR (.seq [.op,.op,.op,.cX true 5 (RI.ops 5)])) .aJ) (.q .o4 .l)))
def X8.v (a:R2)(b:Int)(c:Hp)(d:Int->Int->Hp->Prop):Prop:=XR.c a b c λe f g=>bW (λh i=>If h (d 0 8 i) (d e f i)) λj=>If (f==0) (Ye.c a e g λk l=>j (k != b) l) (j false g)
theorem X8.o {a b c d}(e:X8.v a b c d):X8.c a b c d:=Wa Tryz.func304 (x:=X8.h) (R0 e)
def Y4.h:Hn:=.q .o3 (.k (.loop [(10,.I)] (.q .o1 (.q (.c .l .l) (.q (.k (.q .o3 (.q (.cR (.tail 16 (RI.ops 16) [.op])) .o8))) .o2)))))
def Y4.v (a:R2)(b:Int)(c:Sl)(d:Hp)(e:aP):Prop:=Yo [bN] (λf=>f 0 d) λg (h:Int) i=>If (h<((c.len:Nat):Int)) (Ix c.a c.len h 1 λj=>bM j i λk=>bD a 5 i λm=>bE a 4 i λo=>Ix o.a o.len k 1 λp=>bM p i λq=>bL (b-q) λr=>bL (m+r) λs=>bU a λt=>aR t 5 (.I s) i λu=>bE a 4 u λw=>Ix w.a w.len k 1 λx=>dW x (.I b) u λy=>bL (h+1) λz=>g z y) (e i)
theorem Y4.o {a b c d e}(f:Y4.v a b c d e):Y4.c a b c d e:=Wa Tryz.func305 (x:=Y4.h) (R0 f)
def Ye.h:Hn:=.q .o1 (.q (.oq 14) .l)
def Ye.v (a:R2)(b:Int)(c:Hp)(d:aN):Prop:=bD a 0 c λf=>bL (f*256) λg=>bU a λh=>bM ((h.add 1).add 0) c λi=>bL (b*i) λj=>bL (g+j) λk=>d k c
theorem Ye.o {a b c d}(e:Ye.v a b c d):Ye.c a b c d:=Wa Tryz.func306 (x:=Ye.h) (R0 e)
end Go.Proofs
namespace Go.Ar
open Go Go.Vc Go.Proofs
variable {U:Hp}{F:Rg}{p q:Nat}{c:bZ}{s:cG}
def ng (tk:List Bool):List Nat:=tk.map λb=>if b then 1 else 0
theorem G5 (tk:List Bool):(ng tk).length=tk.length:=by simp[ng]
theorem Hy {tk:List Bool}{i:Nat}{b:Bool}(h:tk[i]?=some b):(ng tk)[i]?=some (if b then 1 else 0):=by simp[ng,h]
theorem Si (tk:List Bool)(i:Nat)(b:Bool):ng (tk.set i b)=(ng tk).set i (if b then 1 else 0):=by simp[ng,vB]
structure gW (U:Hp) (p q:Nat) (c:bZ) (s:cG):Prop where
 hd:∃cap,c.n<=cap/\bY U p [.int .i64 (s.st:Int),.int .i64 (c.size:Int),.int .i64 (c.aF:Int),.int .i64 (c.batch:Int),.slice (some ⟨q,0,none⟩) c.n cap,.int .i64 (s.many:Int)]
 row:∃rest,bY U q (ints (ng s.tk)++rest)
 ne:p≠q
 len:s.tk.length=c.n
 ok:c.ok
 fit:s.st+c.aF<=1024
theorem gW.bS {σ':Hp}(h:gW U p q c s)(e:Ext F U σ')(hp:¬F p)(hq:¬F q):gW σ' p q c s:=
 ⟨by obtain⟨c,a,b⟩:=h.hd;exact⟨c,a,e.bT b hp⟩,by obtain⟨r,a⟩:=h.row;exact⟨r,e.bT a hq⟩,h.ne,h.len,h.ok,h.fit⟩
theorem gW.bO {σ':Hp}(h:gW U p q c s)(e:bK U σ'):gW σ' p q c s:=h.bS e id id
theorem gW.lt (h:gW U p q c s):p<U.size/\q<U.size:=by
 obtain⟨_,_,b⟩:=h.hd;obtain⟨_,a⟩:=h.row;exact⟨b.lt,a.lt⟩
theorem gW.rS (h:gW U p q c s){K:Sl->Prop}(hK:∀cap,c.n<=cap->K ⟨some ⟨q,0,none⟩,c.n,cap⟩):jr (Addr.add ⟨p,0,none⟩ 4) U K:=by
 obtain⟨b,d,a⟩:=h.hd;exact a.rS rfl (hK b d)
theorem gW.rI (h:gW U p q c s){i:Nat}{x:Int}(hx:∀a b:Value,([.int .i64 (s.st:Int),.int .i64 (c.size:Int),.int .i64 (c.aF:Int),.int .i64 (c.batch:Int),a,.int .i64 (s.many:Int)]:List Value)[0+i]?=some (.int .i64 x)){K:Int->Prop}(hK:K x):gp .i64 (Addr.add ⟨p,0,none⟩ i) U K:=by
 obtain⟨e,g,d⟩:=h.hd;exact d.rI (hx _ .nilFunc) hK
theorem gW.eY (h:gW U p q c s){i j:Nat}{x:Int}(hx:∀a b:Value,([.int .i64 (s.st:Int),.int .i64 (c.size:Int),.int .i64 (c.aF:Int),.int .i64 (c.batch:Int),a,.int .i64 (s.many:Int)]:List Value)[0+i+j]?=some (.int .i64 x)){K:Int->Prop}(hK:K x):gp .i64 (Addr.add (Addr.add ⟨p,0,none⟩ i) j) U K:=by
 obtain⟨e,g,d⟩:=h.hd;exact d.eY (hx _ .nilFunc) hK
theorem gW.kU (h:gW U p q c s)(cap:Nat):cU ⟨some ⟨q,0,none⟩,c.n,cap⟩ 1 (ints (ng s.tk)) U (· = q):=by
 obtain⟨r,b⟩:=h.row;refine b.gZ (o:=0) rfl (by rw[QD,G5,h.len];simp) λj a=>?_;rw[zH,ze a]
theorem Gp (h:gW U p q c s){R:aO}(hR:R true U):Yb.c (aW p) U R:=by
 refine Yb.o ?_;unfold Yb.v;refine bW.intro (cE rfl (aG (h.rS λcap _=>?_)));have:=h.ok.qX;rw[zJ aC];exact hR
theorem JO (h:gW U p q c s){R:aN}(hR:R (c.n:Int) U):Yi.c (aW p) U R:=by
 refine Yi.o ?_;unfold Yi.v;exact Gp h (cB rfl (aG (h.rS λcap _=>hR)))
theorem xk (h:gW U p q c s)(i:Nat)(hi:i<=1000){R:aN}(hR:R ((at_ c s i:Nat):Int) U):Ye.c (aW p) (i:Int) U R:=by
 refine Ye.o ?_;unfold Ye.v;have a:=h.ok;unfold bZ.ok at a;have:=h.fit;have b:i*c.size<=1000*512:=lW hi O;refine aG (h.rI (λ_ _=>rfl) (cP (m:=s.st*256) aA O (aG (h.eY (λ_ _=>rfl) ?_))));exact cP (m:=i*c.size) aA O (cP (m:=at_ c s i) (by simp[at_]) (by unfold at_;omega) hR)
theorem A6 (h:gW U p q c s)(x:Int)(hx2:x<=9223372036854775807){R:Int->Int->Hp->Prop}(h1:∀i,idx c s x=some i->R (i:Int) 0 U)(h0:idx c s x=none->R 0 8 U):XR.c (aW p) x U R:=by
 refine XR.o ?_;unfold XR.v;have B:=h.ok;unfold bZ.ok at B;have C:=h.ok.j9;have r:=h.fit;have a:=h.len;have E:c.n*c.size<=128*512:=lW C O;refine Gp h (cB rfl (xk h 0 O ?_));have w:at_ c s 0=s.st*256:=by simp[at_]
 rw[w];refine yo ?_;refine Jn.intro (xk h 0 O ?_);rw[w];refine cQ (λz=>cE rfl (h0 ?_)) λA=>?_
 ·unfold idx;rw[zC O]
 ·rw[Uj O O];obtain⟨y,D⟩:=za (show 0<=x by omega);have key:If (decide (x-((s.st*256:Nat):Int)≥((c.n*c.size:Nat):Int))) (R 0 8 U)
   (bU (some ⟨p,0,none⟩) λe=>gp .i64 ((e.add 1).add 0) U λb=>Nz b<|Ar .i64 ((x-((s.st*256:Nat):Int)).tdiv b) λg=>R g 0 U):=by
   refine cQ (λj=>h0 ?_) λu=>aG (h.eY (λ_ _=>rfl) (nz O ?_))
   ·unfold idx;rw[a,zC O]
   ·have:idx c s x=some ((x-((s.st*256:Nat):Int)).toNat/c.size):=by unfold idx;rw[a,zB O]
    refine cP (m:=(x-((s.st*256:Nat):Int)).toNat/c.size) ?_ ?_ (h1 _ this)
    ·rw[Yq O];have:x-((s.st*256:Nat):Int)=(((x-((s.st*256:Nat):Int)).toNat:Nat):Int):=by omega
     rw[this];simp
    ·have:=Nat.div_le_self (x-((s.st*256:Nat):Int)).toNat c.size;omega
  refine aG (aG ⟨h.rS λcap d=>h.eY (λ_ _=>rfl) (cP (m:=c.n*c.size) aA O key),h.eY (λ_ _=>rfl) (h.rS λcap d=>cP (m:=c.n*c.size) aA O key)⟩)
theorem DQ (h:gW U p q c s)(x:Int)(hx2:x<=9223372036854775807){R:Int->Int->Hp->Prop}(h1:∀i,obj c s x=some i->i<c.n->R (i:Int) 0 U)(h0:obj c s x=none->R 0 8 U):X8.c (aW p) x U R:=by
 refine X8.o ?_;unfold X8.v;have g:=h.ok;unfold bZ.ok at g;have j:=h.ok.j9;refine A6 h x hx2 (λi b=>bW.intro (cE rfl ?_)) λb=>bW.intro (cB rfl (cB rfl (h0 (by unfold obj;rw[b]))));have a:=((VM O).1 b).2.2;rw[h.len]at a;refine xk h i O (cO (λd=>h0 ?_) λd=>h1 i ?_ a)
 ·have:¬x=((at_ c s i:Nat):Int):=λe=>by rw[e]at d;simp at d
  unfold obj;rw[b];simp[this]
 ·have:x=((at_ c s i:Nat):Int):=by
   have:((at_ c s i:Nat):Int)=x:=by simpa using d
   exact this.symm
  unfold obj;rw[b];simp[this]
def cG.is (s:cG)(i:Nat):Bool:=s.tk.getD i false
theorem cG.kR {s:cG}{i:Nat}(hi:i<s.tk.length):s.tk[i]?=some (s.is i):=by
 simp[cG.is,zP,cV hi]
theorem PW (h:gW U p q c s)(x:Int)(hx2:x<=9223372036854775807){R:Bool->Int->Hp->Prop}(h1:∀i,obj c s x=some i->R (s.is i) 0 U)(h0:obj c s x=none->R false 8 U):Yg.c (aW p) x U R:=by
 refine Yg.o ?_;unfold Yg.v;refine DQ h x hx2 (λi b a=>cB rfl (aG (h.rS λcap d=>?_))) λb=>cE rfl (h0 b);rw[←h.len]at a;refine(h.kU cap).rh (Hy (cG.kR a)) ?_;have:=h1 i b;cases hb:s.is i<;>rw[hb]at this<;>simpa using this
theorem H7 {s:cG}{i:Nat}(hi:i<s.tk.length)(v:Bool):((s.put i v).many:Int)=s.many+((if v then 1 else 0)-(if s.is i then 1 else 0)):=by
 have key:∀(l:List Bool) (i:Nat) (b:Bool),l[i]?=some b->(((l.set i v).count true:Nat):Int)=(l.count true:Nat)+((if v then 1 else 0)-(if b then 1 else 0)):=by
  intro l
  induction l with
  | nil=>intro i b h;simp at h
  | cons x l ih=>
   intro i b h;cases i with
   | zero=>
    simp at h;subst h;cases v<;>cases x<;>simp[List.count_cons]<;>omega
   | succ i=>
    have:=ih i b (by simpa using h);simp only[rF,List.count_cons]
    push_cast
    omega
 exact key s.tk i _ (cG.kR hi)
theorem Bn (s:cG):s.many<=s.tk.length:=List.count_le_length
theorem FY (h:gW U p q c s){i:Nat}(hi:i<c.n)(v:Bool){sl:Sl}{G:Rg}(hs:cU sl 1 (ints [i]) U G){R:aP}(hR:∀σ',Ext (λb=>b=p\/b=q) U σ'->gW σ' p q c (s.put i v)->R σ') :
 Y4.c (aW p) (if v then 1 else 0) sl U R:=by
 refine Y4.o ?_;unfold Y4.v;have N:sl.len=1:=hs.oJ;have S:=h.ok.j9;have E:=h.len;have V:=Bn s;have B:i<s.tk.length:=by omega
 have d:=H7 B v;refine ZY (a:=bN) (λ(t:Int) C=>t=0/\C=U\/t=1/\Ext (λb=>b=p\/b=q) U C/\gW C p q c (s.put i v)) (λt _=>1-t.toNat) (.inl ⟨rfl,rfl⟩) ?_;rintro t C (⟨rfl,rfl⟩|⟨rfl,e,K⟩)
 ·refine lA O ?_;refine hs.rh (i:=0) (x:=i) rfl (aG (h.rI (λ_ _=>rfl) (aG (h.rS λcap H=>?_))));refine(h.kU cap).rh (Hy (cG.kR B)) ?_;have L:(0:Int)<=(if v then 1 else 0)/\(if v then(1:Int)else 0)<=1:=by cases v<;>simp
  have M:(0:Int)<=((if s.is i then 1 else 0:Nat):Int)/\((if s.is i then 1 else 0:Nat):Int)<=1:=by cases s.is i<;>simp
  have g:((if s.is i then 1 else 0:Nat):Int)=(if s.is i then 1 else 0):=by cases s.is i<;>rfl
  refine ar O O (ar O O (aG ?_));obtain⟨J,D,hd⟩:=h.hd;obtain⟨r,w⟩:=h.row;refine hd.s1 aA λP A y=>?_;have j:=Ws A w (Ne.symm h.ne);refine aG (y.rS rfl (ix O aC ?_));rw[add_lit];refine j.s0 (by simp[QD,G5];omega) λQ z u=>?_;refine cP (m:=1) O O ⟨.inr ⟨rfl,?_,?_⟩,by decide⟩
  ·exact(Ext.eI (F:=λb=>b=p\/b=q) A (.inl rfl)).trans (Ext.eI z (.inr rfl))
  ·refine⟨⟨J,D,?_⟩,⟨r,?_⟩,h.ne,by simp[cG.put,h.len],h.ok,h.fit⟩
   ·have:=Ws z y h.ne;rw[d,←g];exact this
   ·have e:(ints (ng s.tk)++r).set (0+(i:Int).toNat*1) (.int .i64 (if v then 1 else 0))=ints (ng (s.put i v).tk)++r:=by
     rw[List.set_append_left _ _ (by simp[QD,G5];omega)]
     congr 1
     simp only[cG.put,Si,ints,vB];have:(0+(i:Int).toNat*1)=i:=by omega
     rw[this]
     congr 1
     cases v<;>rfl
    rw[e]at u;exact u
 ·exact fR O (hR _ e K)
theorem Me (h:gW U p q c s){x:Int}{i:Nat}(hx2:x<=9223372036854775807)(ho:obj c s x=some i)(ht:s.is i=true){R:aN}(hR:∀σ',Ext (λb=>b=p\/b=q) U σ'->gW σ' p q c (s.put i false)->R 0 σ') :
 Zo.c (aW p) x U R:=by
 refine Zo.o ?_;unfold Zo.v;refine DQ h x hx2 (λj g a=>cB rfl (aG (h.rS λcap r=>?_))) λm=>by rw[ho]at m;cases m
 rw[ho]at g;cases g;have d:i<s.tk.length:=by rw[h.len];exact a
 refine(h.kU cap).rh (Hy (cG.kR d)) ?_;rw[ht];refine cB rfl (nw (cs:=ints [i]) λv z e u=>?_);have A:=h.lt;exact FY (h.bO e) a false (yg u rfl) λσ' w y=>hR σ' (e.to.trans w) y
theorem Pu (h:gW U p q c s){i:Nat}(hlow:low s=some i){R:Int->Int->Hp->Prop}(hR:∀σ',Ext (λb=>b=p\/b=q) U σ'->gW σ' p q c (s.put i true)->R ((at_ c s i:Nat):Int) 0 σ') :
 Zf.c (aW p) U R:=by
 refine Zf.o ?_;unfold Zf.v;have E:=h.ok.j9;have a:=nk.1 hlow;obtain⟨m,A,C⟩:=a;have g:s.tk[i]=false:=by simpa using A
 refine Gp h (cB rfl (aG (h.rS λcap z=>?_)));refine FT (h.kU cap) (by simp[G5,h.len];omega) 0 (λj w d=>?_) λd=>?_
 ·have x:j<s.tk.length:=by
   have:=(cW.1 w).1
   rwa [G5]at this
  have u:j=i:=by
   rcases px j i with h1|h1|h1
   ·have:=C j h1;rw[Hy (cV x)]at w;have:s.tk[j]=true:=by simpa using this
    simp[this]at w
   ·exact h1
   ·exact absurd (by rw[Hy (cV m),g];rfl) (d i h1)
  subst u;rw[h.len]at m;refine fR O (nw (cs:=ints [j]) λv D e r=>?_);refine FY (h.bO e) m true (yg r rfl) λσ' B y=>xk y j O (hR σ' (e.to.trans B) y)
 ·exfalso;apply d;exact zG (i:=i) (by rw[Hy (cV m),g];rfl)
theorem PI (h:gW U p q c s){R:Int->Int->Hp->Prop}(hR:∀σ',bK U σ'->R (s.st:Int) (c.aF:Int) σ'):Zv.c (aW p) U R:=by
 refine Zv.o ?_;unfold Zv.v;refine nw (cs:=[.int .i64 0,.int .i64 0]) λv u e m=>?_;have d:=h.bO e;refine Gp d (cB rfl (aG (d.rI (λ_ _=>rfl) (aG (d.eY (λ_ _=>rfl) ?_)))));refine m.s1 aA λw g j=>j.s1 aA λv3 b a=>?_;refine a.rI rfl (a.rI rfl (hR _ ?_));exact Ext.fresh (Ext.fresh e (Ext.eI (F:=(· = U.size)) g rfl) λi r=>O) (Ext.eI (F:=(· = U.size)) b rfl) λi r=>by omega
theorem Oo (n:Nat):(List.replicate n [Value.int .i64 0]).flatten=ints (List.replicate n 0):=by
 induction n with
 | zero=>rfl
 | succ n ih=>simp only[wE,wg,ih];rfl
theorem LO (hc:c.ok){st:Nat}(hf:st+c.aF<=1024){R:Option Addr->Int->Hp->Prop}(hR:∀σ' p q,bK U σ'->U.size<=p->U.size<=q->gW σ' p q c ⟨st,List.replicate c.n false⟩->R (some ⟨p,0,none⟩) 0 σ') :
 Km.c (st:Int) c.size c.aF c.batch U R:=by
 refine Km.o ?_;unfold Km.v;have C:=hc;unfold bZ.ok at C;have P:=hc.j9;refine nw (cs:=[.int .i64 c.size,.int .i64 c.aF,.int .i64 c.batch]) λv J e y=>?_;refine y.rI rfl (y.rI rfl (y.rI rfl (EU _ _ _ (λg F e1 e2 G B z=>?_) λw=>?_)))
 case refine_2=>rw[(B9 c).2 hc]at w;cases w
 have:g=c:=by
  obtain⟨a,b,d⟩:=c;obtain⟨L,K,M⟩:=g;simp only at e1 e2 G
  congr 1<;>omega
 subst this;have i:=z.bT y id;refine bW.intro (cB rfl (bW.intro (fR O (i.rI rfl (cP (m:=1024-g.aF) O O (fR O ?_))))));refine⟨λx=>bY x U.size [.int .i64 g.size,.int .i64 g.aF,.int .i64 g.batch],i,⟨_,λx s=>by rw[add_lit,s.cell];rfl,⟨_,λx s=>by rw[add_lit,s.cell];rfl,⟨_,λx s=>by rw[add_lit,s.cell];rfl,?_⟩⟩⟩⟩;refine mk O O λN D j u=>⟨j.bT i id,nw (cs:=[.int .i64 (st:Int),.int .i64 g.size,.int .i64 g.aF,.int .i64 g.batch,.slice (some ⟨B.size,0,none⟩) g.n g.n,.int .i64 0]) λv3 H r A=>⟨(j.trans r).bT i id,?_⟩⟩;rw[Oo]at u;have E:=z.1;refine hR _ _ _ (((e.trans z).trans j).trans r) O (show U.size<=B.size by omega) ⟨⟨g.n,zD _,?_⟩,⟨[],?_⟩,O,by simp,hc,hf⟩
 ·have:cG.many ⟨st,List.replicate g.n false⟩=0:=by simp[cG.many,xf]
  rw[this];exact A
 ·have:ng (List.replicate g.n false)=List.replicate g.n 0:=by simp[ng]
  rw[this,kX];exact r.bT u id
end Go.Ar
namespace Go.Proofs
open Go.Vc
set_option maxRecDepth 100000
def XL.h:Hn:=.q .o1 (.q (.q .o3 .aK) (.q .o1 (.q .gQ .aL)))
def XL.v (a:R2)(b:Hp)(c:Sl->Hp->Prop):Prop:=WF.c a b λd e=>If (!d) (c ⟨none,0,0⟩ e) (aV #[.slice none 0 0] 181 e λf g=>bE a 3 g λi=>We.c i ⟨223,#[],#[.pointer (some f)]⟩ g λj k=>bU a λl=>aR l 3 (.slice j.a j.len j.cap) k λm=>jr f m λn=>c n m)
theorem XL.o {a b c}(d:XL.v a b c):XL.c a b c:=Wa Tryz.func166 (x:=XL.h) (R0 d)
def WF.h:Hn:=.q .o1 (.q (.cR (.seq [.op,.op,.op,.cX true 6 (RI.ops 6),.op])) .l)
def WF.v (a:R2)(b:Hp)(c:aO):Prop:=bW (λd e=>c d e) λf=>If (!a.isNone) (bU a λg=>bM ((g.add 0).add 0) b λh=>f (decide (h>0)) b) (f false b)
theorem WF.o {a b c}(d:WF.v a b c):WF.c a b c:=Wa Tryz.func178 (x:=WF.h) (R0 d)
def Z2.h:Hn:=.q .o3 (.q (.q .o7 (.q .o2 .aJ)) (.q .o5 .l))
def Z2.v (a b c:Int)(d:Hp)(e:Option Addr->Int->Hp->Prop):Prop:=aV #[.I a,.I b,.I c] 137 d λf g=>aQ f 0 g λh=>aQ f 1 g λi=>aQ f 2 g λj=>Zm.c h i j g λk l m=>If (l != 0) (e none 1 m) (aQ f 0 m λn=>aQ f 1 m λo=>aQ f 2 m λp=>aV #[.I n,.I o,.I p,.slice none 0 0] 257 m λq r=>e (some q) 0 r)
theorem Z2.o {a b c d e}(f:Z2.v a b c d e):Z2.c a b c d e:=Wa Tryz.func199 (x:=Z2.h) (R0 f)
def WZ.h:Hn:=.q .o2 (.q (.k (.q .o4 (.c .aL (.q .o3 .aJ)))) (.q .o1 (.q (.k (.loop [(6,.one .s)] (.q (.q .o4 (.c .l .l)) (.k (.q .o7 (.q (.q .o2 (.c .l .l)) .o5)))))) (.q .o3 .l))))
def WZ.v (a:R2)(b:Int)(c:Hp)(d:Sl->Int->Hp->Prop):Prop:=WF.c a c λe f=>If (!e) (d ⟨none,0,0⟩ 5 f) (If (b<0) (d ⟨none,0,0⟩ 1 f) (Yo [.s] (λg=>g ⟨none,0,0⟩ f) λh (i:Sl) j=>If (((i.len:Nat):Int)<b) (YM.c a j λk l m=>If (!l) (d i 0 m) (aV #[.I k] 3 m λn o=>App i 1 8 3 [.I 0] ⟨some n,1,1⟩ o λp q=>h p q)) (d i 0 j)))
theorem WZ.o {a b c d}(e:WZ.v a b c d):WZ.c a b c d:=Wa Tryz.func208 (x:=WZ.h) (R0 e)
def YO.h:Hn:=.q .o1 (.q (.q .o3 .aK) (.q (.o 11) (.q (.q .o2 .aJ) (.q (.q .o6 (.k (.loop [(31,.I)] (.q .o1 (.q (.c .l .l) (.q (.k (.q .o4 (.q (.oq 17) .aK))) .o2)))))) (.q (.o 11) (.q (.o 15) .aM))))))
def YO.v (a:R2)(b:Int)(c:Hp)(d:aN):Prop:=WF.c a c λe f=>If (!e) (d 5 f) (bU a λg=>bM ((g.add 0).add 0) f λh=>bM ((g.add 0).add 1) f λi=>bM ((g.add 0).add 2) f λj=>Km.c b h i j f λk l m=>If (l != 0) (d l m) (bE a 3 m λo=>Yo [bN] (λp=>p 0 m) λq (r:Int) s=>If (r<((o.len:Nat):Int)) (Ix o.a o.len r 3 λt=>aQ t 0 s λu=>aQ t 1 s λv=>aY t 2 s λw=>aV #[.I 0,.I 0,.pointer none] 262 s λx y=>aR x 0 (.I u) y λz=>aR x 1 (.I v) z λaa=>aR x 2 (.pointer w) aa λab=>bM ((x.add 0).add 1) ab λac=>bM ((x.add 0).add 1) ab λad=>bL ((if b>ac then b else ac)-(if b<ad then b else ad)) λae=>bU a λaf=>bM ((af.add 0).add 1) ab λag=>If (ae<ag) (d 9 ab) (bL (r+1) λah=>q ah ab)) (bE a 3 s λaj=>Wb.c aj b ⟨259,#[],#[]⟩ s λak al am=>bE a 3 am λao=>aV #[.I 0,.I b,.pointer k] 262 am λap aq=>Wg.c ao ak ⟨some ap,1,1⟩ aq λar au=>bU a λav=>aR av 3 (.slice ar.a ar.len ar.cap) au λaw=>d 0 aw)))
theorem YO.o {a b c d}(e:YO.v a b c d):YO.c a b c d:=Wa Tryz.func210 (x:=YO.h) (R0 e)
def XN.h:Hn:=.q .o2 (.ka [] (.q .o4 (.c (.cR (.held true [6] (.tk [0,1,2] (.all [(3,.all [(4,.all [(5,.all [(6,.done)])])])])))) .l)) (.q .o5 .l))
def XN.v (a b:Int)(c:R2)(d:Addr)(e:Hp)(f:aO):Prop:=aV #[.I a,.I b,.pointer c] 262 e λg h=>Jn [] (λi=>bM ((g.add 0).add 0) i λj=>f (j==0) i) λk=>bM ((g.add 0).add 0) h λl=>If (l==0) (eL h λm=>gC m .s d λ(n:Sl)=>aU m g 2 λo=>Zv.c o h λp q r=>And (m r) <| aV #[.I p,.I q] 251 r λs t=>And (m t) <| App n 2 16 251 [.I 0,.I 0] ⟨some s,1,1⟩ t λu v=>And (m v) <| dW d (.slice u.a u.len u.cap) v λw=>k w) (k h)
theorem XN.o {a b c d e f}(g:XN.v a b c d e f):XN.c a b c d e f:=Wa Tryz.func223 (x:=XN.h) (R0 g)
def YI.h:Hn:=.q .o2 (.q (.q .o3 .aJ) (.q .o1 (.q (.q .o3 (.k (.loop [(6,.one .b),(19,.I)] (.q .o1 (.q (.c .l .l) (.q (.k (.q .o5 (.q .o8 (.q (.q .o2 (.c (.q .o3 .l) .l)) (.cR (.seq [.op,.op,.cX false 2 [.op,.op],.op,.cX false 5 (RI.ops 5),.op])))))) .o2)))))) (.q (.q .o1 .aJ) (.q (.q .o3 (.k (.loop [(49,.I)] (.q .o1 (.q (.c .l .l) (.q (.k (.q .o3 (.q .o4 (.q .o6 .gQ)))) .o2)))))) (.q .o4 .l))))))
def YI.v (a:R2)(b:Sl)(c:Hp)(d:Sl->Int->Hp->Prop):Prop:=WF.c a c λe f=>If (!e) (d ⟨none,0,0⟩ 5 f) (Yo [.b,bN] (λg=>g false 0 f) λh (i:Bool) (j:Int) k=>If (j<((b.len:Nat):Int)) (Ix b.a b.len j 1 λl=>bM l k λm=>WX.c a m k λn o p=>If (o != 0) (d ⟨none,0,0⟩ o p) (bW (λq r=>bW (λs t=>bL (j+1) λu=>h s u t) λv=>If q (v true r) (eX b 1 0 j (b.cap:Nat) λw=>Wp.c w m r λx y=>v x y)) λz=>If i (z true p) (z (!n) p))) (If i (d ⟨none,0,0⟩ 9 k) (Yo [bN] (λaa=>aa 0 k) λab (ac:Int) ad=>If (ac<((b.len:Nat):Int)) (Ix b.a b.len ac 1 λae=>bM ae ad λaf=>XD.c a af ad λag ah=>bF ag 2 ah λaj=>Zo.c aj af ah λak al=>bU ag λam=>bM ((am.add 0).add 0) al λan=>bL (an-1) λao=>bU ag λap=>dW ((ap.add 0).add 0) (.I ao) al λaq=>bL (ac+1) λar=>ab ar aq) (XL.c a ad λau av=>d au 0 av))))
theorem YI.o {a b c d}(e:YI.v a b c d):YI.c a b c d:=Wa Tryz.func241 (x:=YI.h) (R0 e)
def YM.h:Hn:=.q .o2 (.q .o1 (.q (.q .o6 (.k (.loop [(4,.one .p),(14,.I)] (.q .o1 (.q (.c .l .l) (.q (.k (.q .o2 (.q .o7 (.q (.cR (.hO true [] [(48,.one .b)] (.tk [0,1,2,3,4,5,6,7,8] (.all [(9,.take 10 (.take 11 (.split 34 (.take 12 (.take 13 (.take 14 (.split 37 (.take 15 (.take 16 (.take 17 (.take 18 (.take 19 (.take 20 (.take 21 (.take 22 (.take 23 (.take 24 (.take 25 (.done)))))))))))) (.take 15 (.take 16 (.take 17 (.take 19 (.take 20 (.take 21 (.all [(18,.all [(22,.all [(23,.take 24 (.take 25 (.done)))])]),(22,.all [(18,.all [(23,.take 24 (.take 25 (.done)))])])]))))))))))) (.take 12 (.take 13 (.take 14 (.take 15 (.take 16 (.take 17 (.take 18 (.take 19 (.take 20 (.take 21 (.take 22 (.take 23 (.take 24 (.take 25 (.done))))))))))))))))))])))) (.c .o2 .l))))) .o2)))))) (.q (.q .o2 .aJ) (.q .gQ (.q .gQ (.q .o3 .l))))))
def YM.v (a:R2)(b:Hp)(c:Int->Bool->Hp->Prop):Prop:=bE a 3 b λe=>Yo [.p,bN] (λf=>f none 0 b) λg (h:R2) (i:Int) j=>If (i<((e.len:Nat):Int)) (bE a 3 j λl=>Ix l.a l.len i 3 λm=>Jn [.b] (λ(n:Bool) o=>If n (bL (i+1) λp=>g (some m) p o) (bL (i+1) λq=>g h q o)) λr=>eL j λs=>bU (some m) λt=>gC s bN ((t.add 0).add 0) λ(u:Int)=>bU (some m) λv=>aU s v 2 λw=>Yi.c w j λx y=>And (s y) <| If (u<x) (If h.isNone (r true y) (bU (some m) λz=>bU h λaa=>(bM ((z.add 0).add 0) y λab=>bM ((z.add 0).add 1) y λac=>And (s y) <| bM ((aa.add 0).add 0) y λad=>bM ((aa.add 0).add 1) y λae=>And (s y) <| WU.c ab ac ad ae y λaf ag=>And (s ag) <| r af ag) ∧ (bM ((aa.add 0).add 0) y λah=>bM ((aa.add 0).add 1) y λai=>And (s y) <| bM ((z.add 0).add 0) y λaj=>bM ((z.add 0).add 1) y λak=>And (s y) <| WU.c aj ak ah ai y λal am=>And (s am) <| r al am))) (r false y)) (If h.isNone (c 0 false j) (bF h 2 j λao=>Zf.c ao j λap aq ar=>bU h λau=>bM ((au.add 0).add 0) ar λav=>bL (av+1) λaw=>bU h λax=>dW ((ax.add 0).add 0) (.I aw) ar λay=>c ap true ay))
theorem YM.o {a b c}(d:YM.v a b c):YM.c a b c:=Wa Tryz.func252 (x:=YM.h) (R0 d)
def Yt.h:Hn:=.q .o2 (.q .o6 .l)
def Yt.v (a b:Int)(c:R2)(d:Int)(e:Hp)(f:aN):Prop:=aV #[.I a,.I b,.pointer c] 262 e λg h=>bM ((g.add 0).add 1) h λi=>bL (i-d) λj=>f j h
theorem Yt.o {a b c d e f}(g:Yt.v a b c d e f):Yt.c a b c d e f:=Wa Tryz.func259 (x:=Yt.h) (R0 g)
def Yk.h:Hn:=.q .o2 (.q (.q .o3 .aJ) (.q .o4 (.q (.q .o2 .aJ) (.q (.o 11) (.q (.oq 16) .l)))))
def Yk.v (a:R2)(b:Int)(c:Hp)(d:Int->Int->Hp->Prop):Prop:=WF.c a c λe f=>If (!e) (d 0 5 f) (XD.c a b f λg h=>If g.isNone (d 0 8 h) (bF g 2 h λj=>XR.c j b h λk l m=>bU g λn=>bM ((n.add 0).add 1) m λo=>bL (o*256) λp=>bU a λq=>bM ((q.add 0).add 0) m λr=>bL (k*r) λs=>bL (p+s) λt=>d t 0 m))
theorem Yk.o {a b c d}(e:Yk.v a b c d):Yk.c a b c d:=Wa Tryz.func262 (x:=Yk.h) (R0 e)
def WX.h:Hn:=.q .o2 (.q (.q .o3 .aJ) (.q .o4 (.q (.q .o2 .aJ) (.q .gQ .l))))
def WX.v (a:R2)(b:Int)(c:Hp)(d:Bool->Int->Hp->Prop):Prop:=WF.c a c λe f=>If (!e) (d false 5 f) (XD.c a b f λg h=>If g.isNone (d false 8 h) (bF g 2 h λj=>Yg.c j b h λk l m=>d k l m))
theorem WX.o {a b c d}(e:WX.v a b c d):WX.c a b c d:=Wa Tryz.func265 (x:=WX.h) (R0 e)
def XD.h:Hn:=.q .o1 (.q (.q .o6 (.k (.loop [(13,.I)] (.q .o1 (.q (.c .l .l) (.q (.k (.q .o2 (.q (.o 15) (.q .o2 (.c (.q .o7 .l) .l))))) .o2)))))) .aM)
def XD.v (a:R2)(b:Int)(c:Hp)(d:Option Addr->Hp->Prop):Prop:=bE a 3 c λf=>Yo [bN] (λg=>g 0 c) λh (i:Int) j=>If (i<((f.len:Nat):Int)) (bE a 3 j λl=>Ix l.a l.len i 3 λm=>aY m 2 j λn=>XR.c n b j λo p q=>If (p==0) (bE a 3 q λs=>Ix s.a s.len i 3 λt=>d (some t) q) (bL (i+1) λu=>h u q)) (d none j)
theorem XD.o {a b c d}(e:XD.v a b c d):XD.c a b c d:=Wa Tryz.func277 (x:=XD.h) (R0 e)
def WU.h:Hn:=.q .o3 (.q (.cR (.seq [.op,.op,.op,.op,.op,.op,.cX false 12 [.op,.op,.op,.op,.op,.op,.cX true 5 (RI.ops 5)],.op])) .l)
def WU.v (a b c d:Int)(e:Hp)(f:aO):Prop:=aV #[.I a,.I b] 259 e λg h=>aV #[.I c,.I d] 259 h λi j=>aQ g 0 j λk=>aQ i 0 j λl=>bW (λm n=>f m n) λo=>If (k>l) (o true j) (aQ g 0 j λp=>aQ i 0 j λq=>bW (λr s=>o r s) λt=>If (p==q) (aQ g 1 j λu=>aQ i 1 j λv=>t (decide (u<v)) j) (t false j))
theorem WU.o {a b c d e f}(g:WU.v a b c d e f):WU.c a b c d e f:=Wa Tryz.func282 (x:=WU.h) (R0 g)
end Go.Proofs
namespace Go.Ar
open Go Go.Vc Go.Proofs
variable {U:Hp}{F:Rg}{p:Nat}{c:bZ}{ps:List (Nat×Nat)}{ss:List cG}
def dY (ps:List (Nat×Nat)):List Nat:=ps.flatMap λx=>[x.1,x.2]
theorem US {ps:List (Nat×Nat)}{b:Nat}:b∈dY ps↔∃x∈ps,b=x.1\/b=x.2:=by simp[dY]
def dP:List (Nat×Nat)->List cG->List Value
 | x::ps,s::ss=>.int .i64 (s.many:Int) :: .int .i64 (s.st:Int) :: .pointer (some ⟨x.1,0,none⟩)::dP ps ss
 | _,_=>[]
theorem QQ:∀{ps:List (Nat×Nat)} {ss:List cG},ps.length=ss.length->(dP ps ss).length=3*ss.length
 | [],[],_=>rfl
 | x::ps,s::ss,h=>by simp only[dP,zY]at *;rw[QQ O];omega
theorem QB:∀{ps:List (Nat×Nat)} {ss:List cG} {i:Nat} {x:Nat×Nat} {s:cG},ps[i]?=some x->ss[i]?=some s →
 (dP ps ss)[3*i]?=some (.int .i64 (s.many:Int))/\(dP ps ss)[3*i+1]?=some (.int .i64 (s.st:Int))/\(dP ps ss)[3*i+2]?=some (.pointer (some ⟨x.1,0,none⟩))
 | [],_,_,_,_,h,_=>by simp at h
 | _::_,[],_,_,_,_,h=>by simp at h
 | y::ps,t::ss,0,x,s,h1,h2=>by simp at h1 h2;subst h1;subst h2;simp[dP]
 | y::ps,t::ss,i+1,x,s,h1,h2=>by
  have:=QB (ps:=ps) (ss:=ss) (i:=i) (by simpa using h1) (by simpa using h2);simp only[dP];rw[show 3*(i+1)=3*i+3 by omega];simpa using this
theorem KX:∀{ps ps':List (Nat×Nat)} {ss ss':List cG},ps.length=ss.length->dP (ps++ps') (ss++ss')=dP ps ss++dP ps' ss'
 | [],_,[],_,_=>rfl
 | x::ps,_,s::ss,_,h=>by simp only[kZ,dP,KX (ps:=ps) (ss:=ss) (by simpa using h)]
theorem EF:∀{ps:List (Nat×Nat)} {ss:List cG},∀v∈dP ps ss,dQ v=true
 | [],_,v,h=>by simp[dP]at h
 | _::_,[],v,h=>by simp[dP]at h
 | x::ps,s::ss,v,h=>by
  simp only[dP,zW]at h;rcases h with rfl|rfl|rfl|h
  ·rfl
  ·rfl
  ·rfl
  ·exact EF v h
structure fA (U:Hp) (F:Rg) (p:Nat) (c:bZ) (ps:List (Nat×Nat)) (ss:List cG):Prop where
 hd:∃sl:Sl,bY U p [.int .i64 (c.size:Int),.int .i64 (c.aF:Int),.int .i64 (c.batch:Int),.slice sl.a sl.len sl.cap]/\bR sl 3 (dP ps ss) U (λb=>F b/\b≠p/\b∉dY ps)
 sp:∀(i:Nat) (x:Nat×Nat) s,ps[i]?=some x->ss[i]?=some s->gW U x.1 x.2 c s
 fp:F p
 fb:∀b∈dY ps,F b
 nd:(p::dY ps).Nodup
 len:ps.length=ss.length
 ok:c.ok
 pM:ss.Pairwise (λa b=>a.st<b.st)
theorem fA.loc:dL λU F=>fA U F p c ps ss:=λU C F G h H j=>by
 obtain⟨sl,a,y⟩:=h.hd;have bS:∀b,b<U.size->F b->C[b]?=U[b]? := λb a d=>(j b a d).2;have w:∀{b:Nat} {cs:List Value},bY U b cs->F b->bY C b cs:=by
  rintro b cs ⟨e,D⟩ d;exact⟨e,(bS b (bY.lt ⟨e,D⟩) d).trans D⟩
 have lt:∀b∈dY ps,b<U.size:=by
  intro b a;obtain⟨x,m,u⟩:=US.1 a;obtain⟨i,B⟩:=zQ m;have A:=(cW.1 B).1;have:=(h.sp i x _ B (cV (by rw[←h.len];exact A))).lt;rcases u with rfl|rfl
  ·exact this.1
  ·exact this.2
 refine⟨⟨sl,w a h.fp,bR.loc _ _ _ _ _ _ _ y H λb a d=>⟨⟨(j b a d.1).1,d.2⟩,(j b a d.1).2⟩⟩,λi x s m z=>?_,(j p a.lt h.fp).1,λb a=>(j b (lt b a) (h.fb b a)).1,h.nd,h.len,h.ok,h.pM⟩;have g:=h.sp i x s m z;have K:x.1∈dY ps:=US.2 ⟨x,zG m,.inl rfl⟩;have J:x.2∈dY ps:=US.2 ⟨x,zG m,.inr rfl⟩;obtain⟨E,L,hd⟩:=g.hd;obtain⟨r,y⟩:=g.row;exact⟨⟨E,L,w hd (h.fb _ K)⟩,⟨r,w y (h.fb _ J)⟩,g.ne,g.len,g.ok,g.fit⟩
theorem fA.bO {σ':Hp}(h:fA U F p c ps ss)(e:bK U σ'):fA σ' F p c ps ss:=dL.bO fA.loc h e
theorem fA.pt (h:fA U F p c ps ss):ss.length<=1024:=by
 have key:∀i (hi:i<ss.length),i<=ss[i].st:=by
  intro i
  induction i with
  | zero=>intro _;omega
  | succ i ih=>
   intro hi;have d:=ih O;have e:=mg.1 h.pM i (i+1) O hi O;omega
 rcases AE ss.length with h0|h0
 ·omega
 ·have a:ss.length-1<ss.length:=by omega
  have d:=key _ a;have b:ss.length-1<ps.length:=by rw[h.len];exact a
  have e:=(h.sp _ _ _ (cV b) (cV a)).fit;have:=h.ok.2.2.2.1;omega
structure rR (U:Hp) (F:Rg) (p:Nat) (ps:List (Nat×Nat)) (ss:List cG) (sl:Sl) (rb:Nat) (cs:List Value):Prop where
 a:sl.a=some ⟨rb,0,none⟩
 bT:bY U rb cs
 fr:F rb/\rb≠p/\rb∉dY ps
 get:∀{j:Nat} {v:Value},(dP ps ss)[j]?=some v->cs[j]?=some v
 yS:3*ss.length<=cs.length
theorem fA.sl (h:fA U F p c ps ss):∃sl:Sl,bY U p [.int .i64 (c.size:Int),.int .i64 (c.aF:Int),.int .i64 (c.batch:Int),.slice sl.a sl.len sl.cap]/\sl.len=ss.length/\(ss≠[]->∃rb cs,rR U F p ps ss sl rb cs):=by
 obtain⟨sl,r,i⟩:=h.hd;have m:=i.1;rw[QQ h.len]at m;refine⟨sl,r,O,λe=>?_⟩;have g:0<ss.length:=pI.2 e;rcases i.2 with⟨h0,_⟩|⟨b,cs,hq,ha,hbb,hle,hcl,ht⟩
 ·omega
 ·refine⟨b,cs,ha,hbb,hq,λ{j v} d=>?_,?_⟩
  ·rw[←ht,zj]at d;split at d
   ·exact d
   ·cases d
  ·have:=congrArg List.length ht;rw[zZ,QQ h.len]at this;omega
theorem fA.jA (h:fA U F p c ps ss){i:Nat}(hi:i<ss.length):∃x s,ps[i]?=some x/\ss[i]?=some s/\gW U x.1 x.2 c s:=by
 have a:i<ps.length:=by rw[h.len];exact hi
 have b:ps[i]?=some ps[i]:=cV a;exact⟨_,_,b,cV hi,h.sp i _ _ b (cV hi)⟩
theorem VH (h:fA U F p c ps ss){R:aO}(hR:R true U):WF.c (aW p) U R:=by
 refine WF.o ?_;unfold WF.v;obtain⟨sl,a,d,e⟩:=h.sl;have b:=h.ok;unfold bZ.ok at b;refine bW.intro (cE rfl (aG (a.eY rfl ?_)));rw[zJ O];exact hR
def iD (x:Int):Prop:=x<=9223372036854775807
theorem B6 (h:fA U F p c ps ss)(x:Int)(hx:iD x){R:Option Addr->Hp->Prop}(h0:kE c ss x=none->R none U)
 (h1:∀(i:Nat) sl rb cs,kE c ss x=some i->i<ss.length->bY U p [.int .i64 (c.size:Int),.int .i64 (c.aF:Int),.int .i64 (c.batch:Int),.slice sl.a sl.len sl.cap]->rR U F p ps ss sl rb cs->R (some ⟨rb,3*i,none⟩) U):XD.c (aW p) x U R:=by
 refine XD.o ?_;unfold XD.v;obtain⟨sl,A,Q,K⟩:=h.sl;have D:=h.pt;refine aG (A.rS rfl ?_);refine ZY (a:=bN) (λ(t:Int) G=>∃i:Nat,t=(i:Int)/\i<=ss.length/\G=U/\∀(j:Nat) s,j<i->ss[j]?=some s->idx c s x=none) (λt _=>ss.length-t.toNat) ⟨0,rfl,O,rfl,λj s z=>O⟩ ?_;rintro t G ⟨i,rfl,S,rfl,u⟩;refine cQ (λB=>?_) λC=>?_
 ·simp only at B;have b:i<ss.length:=by omega
  obtain⟨J,s,N,y,H⟩:=h.jA b;obtain⟨rb,cs,E⟩:=K (by rintro rfl;simp at b);have M:=QB N y;refine aG (A.rS rfl ?_);rw[E.a];refine ix O O ?_;rw[add_lit];refine E.bT.rP (x:=some ⟨J.1,0,none⟩) ?_ ?_
  ·have:=E.get M.2.2;rw[show 0+(i:Int).toNat*3+2=3*i+2 by omega];exact this
  have w:∀r,idx c s x=some r->kE c ss x=some i:=by
   intro r g;refine nk.2 ⟨b,?_,λj z=>?_⟩
   ·have:ss[i]=s:=by rw[cV b]at y;simpa using y
    rw[this,g];rfl
   ·rw[u j _ z (cV O)];simp
  refine A6 H x hx (λr g=>cE rfl (aG (A.rS rfl ?_))) λP=>cB rfl ?_
  ·rw[E.a];refine ix O O ?_;rw[add_lit,show 0+(i:Int).toNat*3=3*i by omega];exact h1 i sl rb cs (w r g) b A E
  ·refine cP (m:=i+1) O O ⟨⟨i+1,rfl,O,rfl,λj L z d=>?_⟩,O⟩;by_cases e:j=i
   ·subst e;rw[y]at d;cases d;exact P
   ·exact u j L O d
 ·refine h0 ?_;refine uj.2 λs y=>?_;obtain⟨j,z⟩:=zQ y;have:=(cW.1 z).1;rw[u j s (by simp only at C;omega) z];rfl
theorem Vu {x:Int}{k:Nat}{s:cG}(hk:kE c ss x=some k)(hs:ss[k]?=some s):dX c ss x=(obj c s x).map s.is:=by
 unfold dX;rw[hk];simp only[hs];rfl
theorem AM {x:Int}(hk:kE c ss x=none):dX c ss x=none:=by unfold dX;rw[hk]
theorem CO (h:fA U F p c ps ss)(x:Int)(hx:iD x){R:Bool->Int->Hp->Prop}(h1:∀b,dX c ss x=some b->R b 0 U)(h0:dX c ss x=none->R false 8 U):WX.c (aW p) x U R:=by
 refine WX.o ?_;unfold WX.v;refine VH h (cB rfl (B6 h x hx (λd=>cE rfl (h0 (AM d))) λi sl A C a z B E=>cB rfl (aG ?_)));obtain⟨y,s,u,g,w⟩:=h.jA z;have r:=QB u g;refine E.bT.rP (x:=some ⟨y.1,0,none⟩) (E.get r.2.2) ?_;have e:=Vu a g;exact PW w x hx (λj m=>h1 _ (by rw[e,m];rfl)) λd=>h0 (by rw[e,d];rfl)
theorem Hq {x:Int}{k:Nat}{s:cG}(hk:kE c ss x=some k)(hs:ss[k]?=some s):pY c ss x=(idx c s x).map (at_ c s):=by
 unfold pY;rw[hk];simp only[hs]
theorem C4 {x:Int}(hk:kE c ss x=none):pY c ss x=none:=by unfold pY;rw[hk]
theorem Nr {x:Int}{k:Nat}{s:cG}(hk:kE c ss x=some k)(hs:ss[k]?=some s):∃i,idx c s x=some i:=by
 obtain⟨b,a,_⟩:=nk.1 hk;have:ss[k]=s:=by rw[cV b]at hs;simpa using hs
 rw[this]at a;exact pq.1 a
theorem NG (h:fA U F p c ps ss)(x:Int)(hx:iD x){R:Int->Int->Hp->Prop}(h1:∀a,pY c ss x=some a->R (a:Int) 0 U)(h0:pY c ss x=none->R 0 8 U):Yk.c (aW p) x U R:=by
 refine Yk.o ?_;unfold Yk.v;refine VH h (cB rfl (B6 h x hx (λe=>cE rfl (h0 (C4 e))) λi sl J L b C G E=>cB rfl (aG ?_)));obtain⟨B,s,D,u,j⟩:=h.jA C;have z:=QB D u;obtain⟨r,g⟩:=Nr b u;have A:=Hq b u;have H:=h.ok;unfold bZ.ok at H;have w:=((VM O).1 g).2.2;rw[j.len]at w;have e:=h.ok.j9;have y:=j.fit;have M:r*c.size<=128*512:=lW O O;refine E.bT.rP (x:=some ⟨B.1,0,none⟩) (E.get z.2.2) ?_;refine A6 j x hx (λK d=>?_) λe=>by rw[g]at e;cases e
 rw[g]at d;cases d;refine aG (E.bT.eY (x:=s.st) (E.get z.2.1) (cP (m:=s.st*256) aA O (aG (G.eY rfl ?_))));refine cP (m:=r*c.size) aA O (cP (m:=at_ c s r) (by simp[at_]) (by unfold at_;omega) (h1 _ (by rw[A,g];rfl)))
theorem wS {h:Hp}{rb i:Nat}{cs:List Value}{x y:Int}{z:Option Addr}{e:Nat}(hb:bY h rb cs)(h0:cs[3*i]?=some (.int .i64 x))(h1:cs[3*i+1]?=some (.int .i64 y))(h2:cs[3*i+2]?=some (.pointer z))
 {K:Int->Int->Option Addr->Prop} (hK:K x y z):gp .i64 (Addr.add ⟨rb,3*i,none⟩ 0) h λu=>gp .i64 (Addr.add ⟨rb,3*i,none⟩ 1) h λv=>fT (Addr.add ⟨rb,3*i,none⟩ 2) h λw=>K u v w:=
 hb.rI h0 (hb.rI h1 (hb.rP h2 hK))
theorem EM {h:Hp}{x y:Int}{z:Option Addr}{e:Nat}{K:Addr->Hp->Prop}(hK:∀h',bK h h'->bY h' h.size [.int .i64 x,.int .i64 y,.pointer z]->K ⟨h.size,0,none⟩ h') :
 Nw (.cells #[.int .i64 0,.int .i64 0,.pointer none] e (0,0)) h λn v=>dW (n.add 0) (.int .i64 x) v λv1=>dW (n.add 1) (.int .i64 y) v1 λv2=>dW (n.add 2) (.pointer z) v2 λv3=>K n v3:=by
 refine nw (cs:=[.int .i64 0,.int .i64 0,.pointer none]) λv m e g=>g.s1 aA λv1 o1 j=>j.s1 aA λv2 o2 b=>b.s1 aA λv3 o3 d=>?_;refine hK v3 ?_ d;exact Ext.fresh (Ext.fresh (Ext.fresh e o1.ext λi a=>O) o2.ext λi a=>O) o3.ext λi a=>by omega
def iJ (c:bZ)(l:List Nat):List Value:=l.flatMap λ(s:Nat)=>[.int .i64 (s:Int),.int .i64 (c.aF:Int)]
theorem Mw (c:bZ)(l:List Nat):(iJ c l).length=2*l.length:=by
 induction l with
 | nil=>rfl
 | cons x l ih=>simp only[iJ,oY,zO,zY,lN]at *;omega
theorem F7 (hc:c.ok){R:Option Addr->Int->Hp->Prop}(hR:∀σ' p,bK U σ'->U.size<=p->p<σ'.size->fA σ' (· = p) p c [] []->R (some ⟨p,0,none⟩) 0 σ'):Z2.c c.size c.aF c.batch U R:=by
 refine Z2.o ?_;unfold Z2.v;refine nw (cs:=[.int .i64 c.size,.int .i64 c.aF,.int .i64 c.batch]) λv w e d=>?_;refine d.rI rfl (d.rI rfl (d.rI rfl (EU _ _ _ (λu m e1 e2 s y g=>?_) λb=>?_)))
 case refine_2=>rw[(B9 c).2 hc]at b;cases b
 have a:=g.bT d id;refine cB rfl (a.rI rfl (a.rI rfl (a.rI rfl (nw (cs:=[.int .i64 c.size,.int .i64 c.aF,.int .i64 c.batch,.slice none 0 0]) λx r i j=>?_))));exact hR _ _ ((e.trans g).trans i) (by have:=g.1;omega) O ⟨⟨⟨none,0,0⟩,j,bR.nil _ _ _ _⟩,by simp,rfl,by simp[dY],by simp[dY],rfl,hc,by simp⟩
theorem LI (a b a' b':Nat){R:aO}(hR:∀σ',bK U σ'->R (decide (a>a')||(a==a'&&decide (b<b'))) σ'):WU.c (a:Int) (b:Int) (a':Int) (b':Int) U R:=by
 refine WU.o ?_;unfold WU.v;refine nw (cs:=[.int .i64 a,.int .i64 b]) λv r e p=>nw (cs:=[.int .i64 a',.int .i64 b']) λs m e1 i=>?_;have g:=e1.bT p id;have d:=hR _ (e.trans e1);refine g.rI rfl (i.rI rfl (bW.intro (cQ (λh=>?_) λh=>?_)))
 ·have:decide (a>a')=true:=by simpa using h
  rw[this,Bool.true_or]at d;exact d
 ·have:decide (a>a')=false:=by simpa using h
  rw[this,yr]at d;refine g.rI rfl (i.rI rfl (bW.intro ?_));rw[ly];refine cO (λj=>?_) λj=>?_
  ·rw[j,p8]at d;refine g.rI rfl (i.rI rfl ?_);have:decide ((b:Int)<(b':Int))=decide (b<b'):=by rw[decide_eq_decide];omega
   rw[this];exact d
  ·rw[j,uK]at d;exact d
theorem QC:∀{i k:Nat},Y8 ss i=some k->k<i/\∃s,ss[k]?=some s/\s.many<s.tk.length
 | 0,_,h=>by simp[Y8]at h
 | i+1,k,h=>by
  have up:Y8 ss i=some k->k<i+1/\∃s,ss[k]?=some s/\s.many<s.tk.length:=λh=>by
   have:=QC h;exact⟨O,this.2⟩
  simp only[Y8]at h;split at h
  ·rename_i x hx;split at h
   ·rename_i hlt;have a:i<i+1/\∃s,ss[i]?=some s/\s.many<s.tk.length:=⟨O,x,hx,hlt⟩;split at h
    ·rename_i j hj;split at h
     ·split at h
      ·cases h;exact a
      ·cases h;exact up hj
     ·cases h;exact a
    ·cases h;exact a
   ·exact up h
  ·exact up h
theorem Gs {s:cG}(h:s.many<s.tk.length):∃i,low s=some i/\i<s.tk.length/\s.is i=false:=by
 unfold low;cases hf:s.tk.findIdx? (· == false)with
 | some i=>
  obtain⟨a,b,_⟩:=nk.1 hf;refine⟨i,rfl,a,?_⟩;have:s.tk[i]=false:=by simpa using b
  simp[cG.is,zP,cV a,this]
 | none=>
  exfalso;have d:=uj.1 hf;have:s.many=s.tk.length:=by
   unfold cG.many;rw[List.count_eq_length];intro x hx;have:=d x hx;cases x
   ·simp at this
   ·rfl
  omega
theorem D0:∀{ps:List (Nat×Nat)} {ss:List cG} {k:Nat} {s s':cG},ps.length=ss.length->ss[k]?=some s->s'.st=s.st->dP ps (ss.set k s')=(dP ps ss).set (3*k) (.int .i64 (s'.many:Int))
 | [],[],_,_,_,_,h,_=>by simp at h
 | [],_::_,_,_,_,h,_,_=>by simp at h
 | _::_,[],_,_,_,_,h,_=>by simp at h
 | x::ps,t::ss,0,s,s',_,h,e=>by simp at h;subst h;simp[dP,e]
 | x::ps,t::ss,k+1,s,s',hl,h,e=>by
  simp only[rF,dP];rw[D0 (ps:=ps) (ss:=ss) (s:=s) (by simpa using hl) (by simpa using h) e];rw[show 3*(k+1)=3*k+1+1+1 by omega];simp
theorem My {h:Hp}{b:Nat}{cs cs':List Value}(h1:bY h b cs)(h2:bY h b cs'):cs=cs':=by
 obtain⟨e,d⟩:=h1;obtain⟨g,a⟩:=h2;rw[d]at a;simp only[Option.some.injEq,Obj.cells.injEq]at a;simpa using congrArg Array.toList a.1
theorem Qd {x:Nat×Nat}{i:Nat}(hx:ps[i]?=some x):x.1∈dY ps/\x.2∈dY ps:=
 ⟨US.2 ⟨x,zG hx,.inl rfl⟩,US.2 ⟨x,zG hx,.inr rfl⟩⟩
theorem FM:∀{ps:List (Nat×Nat)},(dY ps).Nodup->∀{i j:Nat} {x y:Nat×Nat},ps[i]?=some x->ps[j]?=some y->i≠j->∀b,(b=x.1\/b=x.2)->¬(b=y.1\/b=y.2)
 | [],_,_,_,_,_,h,_,_=>by simp at h
 | z::ps,hn,i,j,x,y,h1,h2,hij=>by
  have hn':z.1∉dY ps/\z.2∉dY ps/\z.1≠z.2/\(dY ps).Nodup:=by
   simp only[dY,oY,kZ,sK,zr,zW,not_or]at hn;exact⟨hn.1.2,hn.2.1,hn.1.1,hn.2.2⟩
  intro b hb hb'
  match i,j,hij with
  | 0,0,h=>exact h rfl
  | 0,j+1,_=>
   simp at h1;subst h1;have:=Qd (ps:=ps) (i:=j) (by simpa using h2);rcases hb with rfl|rfl<;>rcases hb' with e|e<;>rw[e]at hn'<;>simp[this]at hn'
  | i+1,0,_=>
   simp at h2;subst h2;have:=Qd (ps:=ps) (i:=i) (by simpa using h1);rcases hb with rfl|rfl<;>rcases hb' with e|e<;>rw[←e]at hn'<;>simp[this]at hn'
  | i+1,j+1,h=>exact FM hn'.2.2.2 (by simpa using h1) (by simpa using h2) O b hb hb'
theorem fA.oL (h:fA U F p c ps ss){k:Nat}{x:Nat×Nat}{s s':cG}(hx:ps[k]?=some x)(hs:ss[k]?=some s)(hst:s'.st=s.st){σ1:Hp}(e1:Ext (λb=>b=x.1\/b=x.2) U σ1)(hS:gW σ1 x.1 x.2 c s')
 {sl:Sl} {rb:Nat} {cs:List Value} (hb:bY U p [.int .i64 (c.size:Int),.int .i64 (c.aF:Int),.int .i64 (c.batch:Int),.slice sl.a sl.len sl.cap]) (E:rR U F p ps ss sl rb cs)
 {K:aP} (hK:∀σ2,Ext F U σ2->fA σ2 F p c ps (ss.set k s')->K σ2):dW ⟨rb,3*k,none⟩ (.int .i64 (s'.many:Int)) σ1 K:=by
 obtain⟨mK,H,P⟩:=h.hd;have D:mK=sl:=by
  have:=My H hb;simp at this;obtain⟨a,n,c⟩:=sl;obtain⟨S,V,W⟩:=mK;simp at this ⊢;exact this
 subst D;have g:=Qd hx;have e:=h.nd;simp only[zr]at e;have u:=(cW.1 hs).1;have C:=(bR.loc mK 3 (dP ps ss)).bS P e1 λb hb N=>λd=>N.2.2 (by rcases d with rfl|rfl;exact g.1;exact g.2);have J:=e1.bT hb λd=>e.1 (by rcases d with h|h<;>rw[h];exact g.1;exact g.2)
 refine C.st (j:=3*k) (by rw[QQ h.len];omega) (λb m=>by rw[E.a]at m;cases m;rfl) λσ2 e2 A=>?_;have G:Ext F U σ2:=(e1.sub λi B=>h.fb i (by rcases B with rfl|rfl;exact g.1;exact g.2)).trans (e2.sub λi B=>B.1);refine hK σ2 G ⟨⟨mK,e2.bT J λd=>d.2.1 rfl,?_⟩,λi y t w z=>?_,h.fp,h.fb,h.nd,by simpa using h.len,h.ok,?_⟩
 ·rw[D0 h.len hs hst];exact A
 ·have r:=Qd w;have Q:gW σ1 y.1 y.2 c t:=by
   by_cases hik:i=k
   ·subst hik;rw[hx]at w;cases w;rw[zL u]at z;cases z;exact hS
   ·rw[zk (Ne.symm hik)]at z;have M:=FM e.2 w hx hik;exact(h.sp i y t w z).bS e1 (M _ (.inl rfl)) (M _ (.inr rfl))
  exact Q.bS e2 (λd=>d.2.2 r.1) (λd=>d.2.2 r.2)
 ·have:(ss.set k s').map (·.st)=ss.map (·.st):=by
   apply zo;intro i;simp only[zd];by_cases hik:i=k
   ·subst hik;rw[zL u,hs];simp[hst]
   ·rw[zk (Ne.symm hik)]
  have L:=h.pM;rw[←sR (f:=cG.st) (R:=(· < ·))]at L ⊢;rw[this];exact L
theorem Oj (h:fA U F p c ps ss){R:Int->Bool->Hp->Prop}(h1:∀x ss',iU c ss=some (x,ss')->∀σ',Ext F U σ'->fA σ' F p c ps ss'->R (x:Int) true σ')(h0:iU c ss=none->∀σ',bK U σ'->R 0 false σ') :
 YM.c (aW p) U R:=by
 refine YM.o ?_;unfold YM.v;obtain⟨sl,Y,hl,hr⟩:=h.sl;have hfew:=h.pt;have hn:=h.ok.j9;obtain⟨d,cs,E⟩:∃d cs,ss≠[]->rR U F p ps ss sl d cs:=by
  by_cases hne:ss=[]
  ·exact⟨0,[],λh=>absurd hne h⟩
  ·obtain⟨d,cs,E⟩:=hr hne;exact⟨d,cs,λ_=>E⟩
 refine aG (Y.rS rfl ?_);refine UC (a:=.p) (bb:=bN) (λ(iG:Option Addr) (t:Int) G=>∃i:Nat,t=(i:Int)/\i<=ss.length/\bK U G/\iG=(Y8 ss i).map λk=>⟨d,3*k,none⟩) (λ_ t _=>ss.length-t.toNat) ⟨0,rfl,O,Ext.refl _ _,rfl⟩ ?_;rintro iG t G ⟨i,rfl,hi,e,rfl⟩;refine cQ (λX=>?_) λS=>?_
 ·simp only at X;have K:i<ss.length:=by omega
  have E:=E (by rintro rfl;simp at K);obtain⟨P,s,M,D,u⟩:=h.jA K;have z:=QB M D;have aa:=u.len;refine aG ((e.bT Y id).rS rfl ?_);rw[E.a];refine ix O O ?_;rw[add_lit,show 0+(i:Int).toNat*3=3*i by omega];have Eb:=e.bT E.bT id;have C:Y8 ss (i+1)=if s.many<s.tk.length then(match Y8 ss i with
   | some j=>match ss[j]? with
    | some y=>if uW s y then some i else some j
    | none=>some i
   | none=>some i)else Y8 ss i:=by
   simp only[Y8,D];rfl
  have J:∀(r:Bool) (v:Hp),bK U v->(if r then some i else Y8 ss i)=Y8 ss (i+1) →
   If r (Ar .i64 ((i:Int)+1) λb=>(∃j:Nat,b=(j:Int)/\j<=ss.length/\bK U v/\some (⟨d,3*i,none⟩:Addr)=(Y8 ss j).map λk=>⟨d,3*k,none⟩)/\ss.length-b.toNat<ss.length-(i:Int).toNat)
    (Ar .i64 ((i:Int)+1) λb=>(∃j:Nat,b=(j:Int)/\j<=ss.length/\bK U v/\((Y8 ss i).map λk=>(⟨d,3*k,none⟩:Addr))=(Y8 ss j).map λk=>⟨d,3*k,none⟩)/\ss.length-b.toNat<ss.length-(i:Int).toNat):=by
   intro r v ev hr';cases r
   ·refine cB rfl (cP (m:=i+1) O O ⟨⟨i+1,rfl,O,ev,?_⟩,O⟩);rw[←hr'];rfl
   ·refine cE rfl (cP (m:=i+1) O O ⟨⟨i+1,rfl,O,ev,?_⟩,O⟩);rw[←hr'];rfl
  refine Jn.intro ⟨λH=>bY H d cs,Eb,aG ⟨_,λH u=>by rw[add_lit,add_lit,u.cell];exact E.get z.1,aG ⟨_,λH u=>by rw[add_lit,u.cell];exact E.get z.2.2,?_⟩⟩⟩;refine JO (u.bO e) ⟨Eb,?_⟩;refine cQ (λhlt2=>?_) λhge2=>?_
  ·have hm:s.many<s.tk.length:=by omega
   rw[zC hm]at C;cases hbf:Y8 ss i with
   | none=>
    rw[hbf]at C J;exact cE rfl (J true G e C.symm)
   | some j=>
    rw[hbf]at C J;obtain⟨hji,y,hy,hym⟩:=QC hbf;simp only[hy]at C;have ae:j<ps.length:=by rw[h.len];omega
    have w:=QB (cV ae) hy;have fin:WU.c (s.many:Int) (s.st:Int) (y.many:Int) (y.st:Int) G λW v3=>bY v3 d cs ∧
     If W (Ar .i64 ((i:Int)+1) λb=>(∃j:Nat,b=(j:Int)/\j<=ss.length/\bK U v3/\some (⟨d,3*i,none⟩:Addr)=(Y8 ss j).map λk=>⟨d,3*k,none⟩)/\ss.length-b.toNat<ss.length-(i:Int).toNat)
      (Ar .i64 ((i:Int)+1) λb=>(∃j':Nat,b=(j':Int)/\j'<=ss.length/\bK U v3/\((some j).map λk=>(⟨d,3*k,none⟩:Addr))=(Y8 ss j').map λk=>⟨d,3*k,none⟩)/\ss.length-b.toNat<ss.length-(i:Int).toNat):=by
     refine LI _ _ _ _ λv3 e3=>⟨e3.bT Eb id,J _ v3 (e.trans e3) ?_⟩;rw[C];rfl
    refine cB rfl (aG (aG ⟨?_,?_⟩))
    ·exact Eb.eY (E.get z.1) (Eb.eY (E.get z.2.1) ⟨Eb,Eb.eY (E.get w.1) (Eb.eY (E.get w.2.1) ⟨Eb,fin⟩)⟩)
    ·exact Eb.eY (E.get w.1) (Eb.eY (E.get w.2.1) ⟨Eb,Eb.eY (E.get z.1) (Eb.eY (E.get z.2.1) ⟨Eb,fin⟩)⟩)
  ·have hm:¬s.many<s.tk.length:=by omega
   rw[zB hm]at C;exact J false G e C.symm
 ·have ac:i=ss.length:=by simp only at S;omega
  subst ac;cases hbf:Y8 ss ss.length with
  | none=>
   refine cE rfl (h0 ?_ _ e);simp[iU,iG,hbf]
  | some k=>
   obtain⟨hk,s,D,ad⟩:=QC hbf;have E:=E (by rintro rfl;simp at hk);obtain⟨P,s',M,L,u⟩:=h.jA hk;rw[D]at L;cases L;have z:=QB M D;obtain⟨r,B,ab,Q⟩:=Gs ad;have G:=h.bO e;have one:iU c ss=some (at_ c s r,ss.set k (s.put r true)):=by simp[iU,iG,hbf,D,B]
   have E':rR _ F p ps ss sl d cs:=⟨E.a,e.bT E.bT id,E.fr,E.get,E.yS⟩;refine cB rfl (aG (E'.bT.rP (x:=some ⟨P.1,0,none⟩) (E.get z.2.2) ?_));refine Pu (u.bO e) B λv5 e5 Z=>aG ?_;have N:=Qd M;have V:¬(d=P.1\/d=P.2):=λhh=>E.fr.2.2 (by rcases hh with h|h<;>rw[h];exact N.1;exact N.2)
   have hml:=Bn s;have g:=H7 ab true;rw[Q]at g;have A:(s.put r true).many=s.many+1:=by simp at g;omega
   have aa:=u.len;refine(e5.bT E'.bT V).eY (E.get z.1) (cP (m:=s.many+1) O O (aG ?_));rw[add_lit,add_lit,j0,j0,←A];exact G.oL (s':=s.put r true) M D rfl e5 Z (e.bT Y id) E' λv6 e6 h6=>h1 _ _ one v6 (e.to.trans e6) h6
theorem Mm {k:Nat}{s s':cG}(hs:ss[k]?=some s):GI (ss.set k s')+(s.tk.length-s.many)=GI ss+(s'.tk.length-s'.many):=by
 unfold GI
 induction ss generalizing k with
 | nil=>simp at hs
 | cons x ss ih=>
  cases k with
  | zero=>simp at hs;subst hs;simp;omega
  | succ k=>
   have:=ih (by simpa using hs);simp only[rF,zS,nG];omega
theorem RF {x:Nat}{ss':List cG}(h:iU c ss=some (x,ss')):GI ss'+1=GI ss:=by
 unfold iU at h;split at h
 ·rename_i k hk;obtain⟨_,s,e,a⟩:=QC hk;rw[e]at h;simp only at h;split at h
  ·rename_i i hi;cases h;obtain⟨r,g,b,d⟩:=Gs a;rw[hi]at g;cases g;have m:=Mm (s':=s.put i true) e;have j:=H7 b true;rw[d]at j;have p:(s.put i true).tk.length=s.tk.length:=by simp[cG.put]
   simp at j;omega
  ·cases h
 ·cases h
theorem fA.room (h:fA U F p c ps ss):GI ss<=131072:=by
 have key:∀l:List cG,(∀s∈l,s.tk.length<=128)->GI l<=128*l.length:=by
  intro l
  induction l with
  | nil=>intro _;simp[GI]
  | cons x l ih=>
   intro hl;have m:=hl x aA;have r:=ih λs d=>hl s (by simp[d]);simp only[GI,zS,nG,zY]at *;omega
 have:=key ss λs d=>by
  obtain⟨i,e⟩:=zQ d;have b:=(cW.1 e).1;obtain⟨x,j,_,a,g⟩:=h.jA b;rw[e]at a;cases a;rw[g.len];exact h.ok.j9
 have:=h.pt;omega
theorem Ho {m:Nat}{x:Nat}{ss':List cG}(h:iU c ss=some (x,ss')):QS c (m+1) ss=(x::(QS c m ss').1,(QS c m ss').2):=by
 simp[QS,h]
theorem ND (h:fA U F p c ps ss)(m:Int)(hm:0<=m){R:Sl->Int->Hp->Prop}
 (hR:∀s σ',Ext F U σ'->bR s 1 (ints (QS c m.toNat ss).1) σ' (λb=>U.size<=b)->fA σ' (Cut F U) p c ps (QS c m.toNat ss).2->R s 0 σ'):WZ.c (aW p) m U R:=by
 refine WZ.o ?_;unfold WZ.v;have h:=fA.loc.cut h;have J:=fA.room h;refine VH h (cB rfl (fR O ?_));refine ZY (a:=.s) (λ(out:Sl) B=>∃j d,Ext F U B/\bR out 1 (ints j) B (λb=>U.size<=b)/\fA B (Cut F U) p c ps d/\j.length<=m.toNat/\j.length+GI d=GI ss/\QS c m.toNat ss=(j++(QS c (m.toNat-j.length) d).1,(QS c (m.toNat-j.length) d).2))
  (λout _=>m.toNat-out.len) ⟨[],ss,Ext.refl _ _,bR.nil _ _ _ _,h,by simp,by simp,by simp⟩ ?_
 rintro out B ⟨j,d,e,g,L,Z,V,r⟩;have N:=g.oJ;refine cQ (λY=>?_) λW=>?_
 ·have u:m.toNat-j.length=(m.toNat-(j.length+1))+1:=by omega
  refine Oj L (λx H w v2 e2 K=>cB rfl ?_) λy v2 e2=>cE rfl ?_
  ·have C:Ext F U v2:=e.trans (e2.sub λi E=>E.1);have z:=aI.bS g e2 λb _ D P=>by have:=P.2;omega
   refine z.push (vs:=[.int .i64 (x:Int)]) (λb D=>zh C.1 D) rfl rfl (by simp[dQ]) O O λs' v4 Q M G=>?_;have S:=RF w;refine⟨⟨j++[x],H,C.dT M λi E=>.inr E,by rw[UB];exact G,fA.loc.bS K M λb _ D P=>(by have:=D.2;omega),by simp;omega,by simp;omega,?_⟩,O⟩;rw[r,u,Ho w];simp
  ·have:QS c (m.toNat-j.length) d=([],d):=by rw[u];simp[QS,y]
   rw[this]at r;have A:=hR out v2 (e.trans e2.to);rw[r,kX]at A;exact A (aI.bO g e2) (L.bO e2)
 ·have X:m.toNat-j.length=0:=by omega
  rw[X]at r;have A:=hR out B e;rw[r]at A;simp only[QS,kX]at A;exact A g L
theorem Ln (h:fA U F p c ps ss)(m:Int)(hm:m<0){R:Sl->Int->Hp->Prop}(hR:R ⟨none,0,0⟩ 1 U):WZ.c (aW p) m U R:=by
 refine WZ.o ?_;unfold WZ.v;exact VH h (cB rfl (lA O hR))
def iW:List (Nat×Nat)->List cG->List (Nat×Nat)
 | x::ps,s::ss=>if s.many != 0 then x::iW ps ss else iW ps ss
 | _,_=>[]
theorem HA:∀{ps:List (Nat×Nat)} {ss:List cG},ps.length=ss.length->(iW ps ss).length=(cF ss).length
 | [],[],_=>rfl
 | x::ps,s::ss,h=>by
  have ih:=HA (ps:=ps) (ss:=ss) (by simpa using h);simp only[iW,cF,tB]at *;split<;>simp[ih]
theorem Bj:∀{ps:List (Nat×Nat)} {ss:List cG},(iW ps ss).Sublist ps
 | [],_=>by simp[iW]
 | _::_,[]=>by simp[iW]
 | x::ps,s::ss=>by
  simp only[iW];split
  ·exact Bj.cons_cons x
  ·exact Bj.cons x
theorem Ef:∀{ps ps':List (Nat×Nat)} {ss ss':List cG},ps.length=ss.length->iW (ps++ps') (ss++ss')=iW ps ss++iW ps' ss'
 | [],_,[],_,_=>rfl
 | x::ps,_,s::ss,_,h=>by
  simp only[kZ,iW,Ef (ps:=ps) (ss:=ss) (by simpa using h)];split<;>rfl
theorem FR:∀{ps:List (Nat×Nat)} {ss:List cG} {i:Nat} {x:Nat×Nat} {s:cG},ps.length=ss.length->(iW ps ss)[i]?=some x->(cF ss)[i]?=some s->∃j:Nat,ps[j]?=some x/\ss[j]?=some s
 | [],[],_,_,_,_,h,_=>by simp[iW]at h
 | y::ps,t::ss,i,x,s,hl,h1,h2=>by
  have ih:=λi=>FR (ps:=ps) (ss:=ss) (i:=i) (x:=x) (s:=s) (by simpa using hl);simp only[iW,cF,tB]at h1 h2;cases hm:(t.many != 0)
  ·rw[hm]at h1 h2;obtain⟨j,a,b⟩:=ih i h1 h2;exact⟨j+1,by simpa using a,by simpa using b⟩
  ·rw[hm]at h1 h2;cases i with
   | zero=>simp at h1 h2;exact⟨0,by simp[h1],by simp[h2]⟩
   | succ i=>
    obtain⟨j,a,b⟩:=ih i (by simpa using h1) (by simpa[cF]using h2);exact⟨j+1,by simpa using a,by simpa using b⟩
theorem N6 (a b:List cG):cF (a++b)=cF a++cF b:=by simp[cF]
theorem LQ (a b:List cG):Qb (a++b)=Qb a++Qb b:=by simp[Qb]
theorem Rn (c:bZ)(a b:List Nat):iJ c (a++b)=iJ c a++iJ c b:=by simp[iJ]
theorem PT {a b:List (Nat×Nat)}(h:a.Sublist b):(dY a).Sublist (dY b):=by
 induction h with
 | slnil=>exact List.Sublist.refl _
 | cons x _ ih=>exact(ih.cons _).cons _
 | cons_cons x _ ih=>exact(ih.cons_cons _).cons_cons _
theorem FW {h:Hp}{Q:Rg}{n3:Nat}{o:Sl}{l:List Nat}{x1 x2:Nat}{s:cG}(hb:bY h n3 [.slice o.a o.len o.cap])(hrow:bR o 2 (iJ c l) h Q)(hQ:∀b,Q b->n3<b)(hl:l.length<=2000)(hS:gW h x1 x2 c s){R:aO}
 (hR:∀h' o',Ext (λb=>b=n3\/Q b) h h'->bY h' n3 [.slice (Sl.a o') o'.len o'.cap]->bR o' 2 (iJ c (l++if s.many=0 then[s.st]else[])) h' (Grow Q h)->R (s.many==0) h') :
 VF Tryz.prog ⟨223,#[],#[.pointer (some ⟨n3,0,none⟩)]⟩ [.agg #[.int .i64 (s.many:Int),.int .i64 (s.st:Int),.pointer (some ⟨x1,0,none⟩)]] [.one .b] h R:=by
 refine pE (all := #[.agg #[.int .i64 (s.many:Int),.int .i64 (s.st:Int),.pointer (some ⟨x1,0,none⟩)],.pointer (some ⟨n3,0,none⟩)]) (by kernel_rfl) aA ?_;refine XN.o ?_;unfold XN.v;refine nw (cs:=[.int .i64 (s.many:Int),.int .i64 (s.st:Int),.pointer (some ⟨x1,0,none⟩)]) λv Z e d=>?_;have N:=hb.lt;have g:=e.bT hb id;have hrow:=(bR.loc o 2 (iJ c l)).mono hrow (G:=λb=>Q b/\b<h.size) λb hb x=>⟨x,hb⟩;refine Jn.intro (d.eY rfl ?_);rw[wM];refine cO (λC=>?_) λC=>?_
 ·have r:s.many=0:=by simpa using C
  rw[zC r]at hR;refine⟨λh'=>bY h' h.size [.int .i64 (s.many:Int),.int .i64 (s.st:Int),.pointer (some ⟨x1,0,none⟩)]/\bY h' n3 [.slice o.a o.len o.cap],⟨d,g⟩,⟨o,λh' hS=>by rw[hS.2.cell];rfl,⟨some ⟨x1,0,none⟩,λh' hS=>by rw[add_lit,hS.1.cell];rfl,?_⟩⟩⟩;refine PI (hS.bO e) λY e2=>⟨⟨e2.bT d id,e2.bT g id⟩,?_⟩;have z:=e.trans e2;have m:=aI.bO hrow z;have y:=m.1;rw[Mw]at y;refine nw (cs:=[.int .i64 (s.st:Int),.int .i64 (c.aF:Int)]) λv3 V w H=>⟨⟨(e2.trans w).bT d id,(e2.trans w).bT g id⟩,?_⟩;have p:=aI.bO m w;have X:=z.1;refine p.app (ys:=[.int .i64 (s.st:Int),.int .i64 (c.aF:Int)]) rfl rfl ?_ (by simp[dQ]) ?_ ?_ mO λU L M F B=>?_
  ·intro j u hu;rw[add_lit,zH,H.cell];exact hu
  ·simp only;have:(o.len+1)*16<=2001*16:=lW O O;omega
  ·simp only;omega
  ·have J:bY L h.size [.int .i64 (s.many:Int),.int .i64 (s.st:Int),.pointer (some ⟨x1,0,none⟩)]:=F.bT ((e2.trans w).bT d id) λE=>by have:=E.2;omega
   have K:bY L n3 [.slice o.a o.len o.cap]:=F.bT ((e2.trans w).bT g id) λE=>by have:=hQ _ E.1;omega
   refine⟨⟨J,K⟩,K.s0 aA λv5 o5 P=>(Ws o5 J O).eY rfl ?_⟩;have D:Ext (λb=>b=n3\/Q b) h v5:=(bK.to ((e.trans e2).trans w)).trans (F.sub λi A=>.inr A.1)|>.trans (o5.ext.sub λi A=>.inl A);rw[wM];refine hR v5 U D P ?_;rw[Rn];have:iJ c [s.st]=[.int .i64 (s.st:Int),.int .i64 (c.aF:Int)]:=rfl;rw[this];have S:=aI.mono B (G:=Grow Q h) λb _ W=>by
    rcases W with h|h
    ·exact .inl h.1
    ·exact .inr O
   exact aI.bS S o5.ext λb _ x he=>by
    rcases x with h|h
    ·have:=hQ _ h;omega
    ·omega
 ·have r:¬s.many=0:=by simpa using C
  rw[zB r,kX]at hR;refine d.eY rfl ?_;rw[wM];exact hR v o e.to g (aI.bO (aI.mono hrow λb _ x=>.inl x.1) e)
def xh (n3:Nat)(c:bZ)(l:List Nat)(h:Hp):Prop:=∃o:Sl,bY h n3 [.slice o.a o.len o.cap]/\bR o 2 (iJ c l) h (λb=>n3<b)
theorem Bi {A D:List Value}{x y z:Value}{k:Nat}(hk:k=A.length)(hD:3<=D.length):(((A++D).set k x).set (k+1) y).set (k+2) z=A++[x,y,z]++D.drop 3:=by
 subst hk
 match D,hD with
 | d0::d1::d2::D,_=>simp[List.set_append]
theorem HF {i:Nat}{s:cG}(hs:ss[i]?=some s):Qb (ss.take (i+1))=Qb (ss.take i)++(if s.many=0 then[s.st]else[]):=by
 rw[k7,hs,LQ]
 congr 1
 by_cases hm:s.many=0<;>simp[Qb,hm]
theorem HL {i:Nat}{s:cG}(hs:ss[i]?=some s):cF (ss.take (i+1))=cF (ss.take i)++(if s.many=0 then[]else[s]):=by
 rw[k7,hs,N6]
 congr 1
 by_cases hm:s.many=0<;>simp[cF,hm]
theorem yM {i:Nat}{x:Nat×Nat}{s:cG}(hl:ps.length=ss.length)(hx:ps[i]?=some x)(hs:ss[i]?=some s):iW (ps.take (i+1)) (ss.take (i+1))=iW (ps.take i) (ss.take i)++(if s.many=0 then[]else[x]):=by
 rw[k7,k7,hs,hx,Ef (by simp[hl])]
 congr 1
 by_cases hm:s.many=0<;>simp[iW,hm]
theorem NX (l:List cG):(Qb l).length<=l.length:=by unfold Qb;rw[zl];exact qT _ _
theorem Rx (l:List cG):(cF l).length<=l.length:=qT _ _
theorem Oa (h:fA U F p c ps ss){sl:Sl}{rb n3:Nat}{cs:List Value}{σ1:Hp}(e1:bK U σ1)(hlen:sl.len=ss.length)(hn3:U.size<=n3)(hE:ss≠[]->rR U F p ps ss sl rb cs/\sl.len<=sl.cap/\cs.length=sl.cap*3)(h0:xh n3 c [] σ1){R:Sl->Hp->Prop}
 (hR:∀h' mK,Ext (λb=>F b/\b≠p/\b∉dY ps\/n3<=b) σ1 h'->xh n3 c (Qb ss) h'->(mK=sl/\Qb ss=[]/\cF ss=ss/\iW ps ss=ps/\Ext (λb=>n3<=b) σ1 h'\/(bR mK 3 (dP (iW ps ss) (cF ss)) h' (λb=>F b/\b≠p/\b∉dY ps)))->R mK h') :
 We.c sl ⟨223,#[],#[.pointer (some ⟨n3,0,none⟩)]⟩ σ1 R:=by
 refine We.o ?_;unfold We.v;refine Wh.o ?_;unfold Wh.v;have hfew:=h.pt;have r:=h.len;refine ZY (a:=bN) (λ(t:Int) h'=>∃i:Nat,t=(i:Int)/\i<=ss.length/\Ext (λb=>n3<=b) σ1 h'/\xh n3 c [] h'/\Qb (ss.take i)=[]/\cF (ss.take i)=ss.take i/\iW (ps.take i) (ss.take i)=ps.take i) (λt _=>ss.length-t.toNat) ⟨0,rfl,O,Ext.refl _ _,h0,by simp[Qb],by simp[cF],by simp[iW]⟩ ?_;rintro t h' ⟨i,rfl,hi,e,⟨o,S,ac⟩,q1,q2,q3⟩;have eo:∀{v:Hp},Ext (λb=>n3<=b) σ1 v->Ext (λb=>n3<=b) U v:=λe=>e1.to.trans e;refine cQ (λhlt=>?_) λhge=>?_
 ·have ae:i<ss.length:=by omega
  obtain⟨E,hcap,hcl⟩:=hE (by rintro rfl;simp at ae);obtain⟨xx,s,hp,J,hS⟩:=h.jA ae;have eg:=QB hp J;have hrl:=E.bT.lt;have hSl:=hS.lt;rw[E.a];refine ix O O ?_;rw[add_lit,show 0+(i:Int).toNat*3=3*i by omega];refine wS (e:=0) ((eo e).bT E.bT O) (E.get eg.1) (E.get eg.2.1) (E.get eg.2.2) ?_;have hn3h:n3<h'.size:=S.lt;refine FW S ac (λb h=>h) aA (hS.bS (eo e) O O) λh2 o2 e2 Z A=>?_;have e2:Ext (λb=>n3<=b) h' h2:=e2.sub λb g=>by omega
  have A:=aI.mono A (G:=λb=>n3<b) λb _ g=>by
   rcases g with h|h
   ·exact h
   ·omega
  refine cO (λhm=>?_) λhm=>?_
  ·-- the first that goes
   have x:s.many=0:=by simpa using hm
   rw[zC x,sK]at A;have B:((i:Int)==(-1))=false:=by rw[mj];omega
   show If ((i:Int)==(-1)) _ _;refine cB B (cP (m:=i+1) O O ?_);have q1':Qb (ss.take (i+1))=[s.st]:=by rw[HF J,q1,zC x];rfl
   have V:cF (ss.take (i+1))=ss.take i:=by rw[HL J,q2,zC x,kX]
   have q3':iW (ps.take (i+1)) (ss.take (i+1))=ps.take i:=by rw[yM r hp J,q3,zC x,kX]
   have hke:∀k,k<=ss.length->(dP (iW (ps.take k) (ss.take k)) (cF (ss.take k))).length=3*(cF (ss.take k)).length:=λk _=>QQ (HA (by simp[r]));have Eb2:bY h2 rb cs:=(eo (e.trans e2)).bT E.bT O;refine UC (a:=bN) (bb:=bN) (λ(i1 j1:Int) v=>∃j:Nat,j1=(j:Int)/\i<j/\j<=ss.length/\i1=((cF (ss.take j)).length:Int)/\(cF (ss.take j)).length<j/\Ext (λb=>b=rb\/n3<=b) σ1 v/\xh n3 c (Qb (ss.take j)) v ∧
    bY v rb (dP (iW (ps.take j) (ss.take j)) (cF (ss.take j))++cs.drop (3*(cF (ss.take j)).length))) (λ_ j1 _=>ss.length-j1.toNat) ?_ ?_
   ·refine⟨i+1,rfl,O,O,?_,?_,(e.trans e2).sub λb g=>.inr g,?_,?_⟩
    ·rw[V,zZ];omega
    ·rw[V,zZ];omega
    ·rw[q1'];exact⟨o2,Z,A⟩
    ·rw[V,q3',zZ,pz O];have:dP (ps.take i) (ss.take i)++cs.drop (3*i)=cs:=by
      have h1:(dP (ps.take i) (ss.take i)).length=3*i:=by rw[QQ (by simp[r]),zZ];omega
      apply zo;intro k;rcases kr k (3*i)with hk|hk
      ·rw[ze O];have h2:(dP ps ss)[k]?=(dP (ps.take i) (ss.take i))[k]? := by
        conv=>lhs;rw[←nH i ps,←nH i ss,KX (by simp[r])]
        rw[ze O]
       rw[←h2];have h3:k<(dP ps ss).length:=by rw[QQ r];omega
       rw[cV h3];exact(E.get (cV h3)).symm
      ·rw[zp O,kO,h1]
       congr 1;omega
     rw[this];exact Eb2
   ·rintro i1 j1 v ⟨j,rfl,hij,hj,rfl,hKj,ev,⟨o3,C,M⟩,z⟩;have y:=hke j hj;have evo:Ext (λb=>b=rb\/n3<=b) U v:=e1.to.trans ev;refine cQ (λhlt2=>?_) λhge2=>?_
    ·have hj':j<ss.length:=by omega
     obtain⟨yy,u,Q,H,af⟩:=h.jA hj';have N:=QB Q H;have hSul:=af.lt;have Y:=Qd Q;refine ix O O ?_;rw[add_lit,show 0+(j:Int).toNat*3=3*j by omega];have get:∀d,d<3->∀w,(dP ps ss)[3*j+d]?=some w->(dP (iW (ps.take j) (ss.take j)) (cF (ss.take j))++cs.drop (3*(cF (ss.take j)).length))[3*j+d]?=some w:=by
      intro d hd w hw;rw[zp O,kO,y,show 3*(cF (ss.take j)).length+(3*j+d-3*(cF (ss.take j)).length)=3*j+d by omega];exact E.get hw
     refine wS (e:=0) z (get 0 O _ N.1) (get 1 O _ N.2.1) (get 2 O _ N.2.2) (EM λv5 X b5=>b5.rI rfl (b5.rI rfl (b5.rP rfl ?_)));have hn3v:n3<v.size:=C.lt;have ad:=aI.mono M (G:=λb=>n3<b/\b<v.size) λb g hf=>⟨hf,g⟩;have K:=NX (ss.take j);rw[zZ]at K;refine FW (X.bT C id) (aI.bO ad X) (λb g=>g.1) O ((af.bS evo (λP=>by rcases P with h|h;exact E.fr.2.2 (h▸Y.1);omega) (λP=>by rcases P with h|h;exact E.fr.2.2 (h▸Y.2);omega)).bO X) λv6 o6 e6 ab D=>?_;have hsz5:=X.1;have D:=aI.mono D (G:=λb=>n3<b) λb _ g=>by
      rcases g with h|h
      ·exact h.1
      ·omega
     have b6:bY v6 v.size [.int .i64 (u.many:Int),.int .i64 (u.st:Int),.pointer (some ⟨yy.1,0,none⟩)]:=e6.bT b5 λP=>by rcases P with h|h;omega;have:=h.2;omega
     have hrb:rb<U.size:=E.bT.lt;have L:=e6.bT (X.bT z id) λP=>by rcases P with h|h;omega;have:=h.1;omega
     have ag:Ext (λb=>b=rb\/n3<=b) σ1 v6:=(ev.trans X.to).trans (e6.sub λb g=>by rcases g with h|h;omega;have:=h.1;omega);rw[←HF H]at D;have st:=HL H;have kt:=yM r Q H;by_cases hum:u.many=0
     ·rw[zC hum,kX]at st kt;have:(u.many==0)=true:=by simp[hum]
      rw[this];refine cB rfl (cP (m:=j+1) O O ⟨⟨j+1,rfl,O,O,?_,?_,ag,⟨o6,ab,D⟩,?_⟩,O⟩)
      ·rw[st]
      ·rw[st];omega
      ·rw[st,kt];exact L
     ·rw[zB hum]at st kt;have:(u.many==0)=false:=by simp[hum]
      rw[this];refine cE rfl (b6.rI rfl (b6.rI rfl (b6.rP rfl (ix O O ?_))));rw[add_lit,show 0+((cF (ss.take j)).length:Int).toNat*3=3*(cF (ss.take j)).length by omega];have hlen6:(dP (iW (ps.take j) (ss.take j)) (cF (ss.take j))++cs.drop (3*(cF (ss.take j)).length)).length=cs.length:=by
       rw[zO,y,j2];omega
      refine L.s1 O λv7 o7 b7=>b7.s1 aE λv8 o8 b8=>b8.s1 aE λv9 o9 b9=>?_;rw[j0,Bi y.symm (by rw[j2];omega),List.drop_drop]at b9;have ev9:Ext (λb=>b=rb\/n3<=b) σ1 v9:=((ag.trans (o7.ext.sub λb g=>.inl g)).trans (o8.ext.sub λb g=>.inl g)).trans (o9.ext.sub λb g=>.inl g);have ah:Ext (· = rb) v6 v9:=(o7.ext.trans o8.ext).trans o9.ext;refine cP (m:=(cF (ss.take j)).length+1) O O (cP (m:=j+1) O O ⟨⟨j+1,rfl,O,O,?_,?_,ev9,⟨o6,ah.bT ab O,aI.bS D ah λb _ g he=>O⟩,?_⟩,O⟩)
      ·rw[st];simp
      ·rw[st];simp;omega
      ·rw[st,kt,KX (HA (by simp[r]))];simp only[zO,zY,lN,dP];rw[show 3*((cF (ss.take j)).length+(0+1))=3*(cF (ss.take j)).length+3 by omega];exact b9
    ·have hjj:j=ss.length:=by omega
     subst hjj;rw[mV]at *;have W:ps.take ss.length=ps:=by rw[←r,mV]
     rw[W]at z y;have K:=Rx ss;refine iR O O O ?_;have hK3:3*(cF ss).length<=cs.length:=by omega
     have hlt3:(cF ss).length<ss.length:=hKj;rw[zB O];simp only[E.a,zX,add_lit,zH];refine⟨by simp[dQ],?_⟩;simp only;have hz:(List.replicate (sl.len-(cF ss).length) [Value.int .i64 0,.int .i64 0,.pointer none]).flatten.length=3*(sl.len-(cF ss).length):=by
      rw[wh,uv,uY];simp;omega
     refine VS (o:=(cF ss).length*3) (i:=0) z (by rw[hz,zO,y,j2];omega) λv10 gQ b10=>?_;refine iR (lo:=0) O O O ?_;have aa:Ext (λb=>b=rb\/n3<=b) σ1 v10:=ev.trans (gQ.ext.sub λb g=>.inl g);refine hR v10 _ (aa.sub λb g=>?_) ⟨o3,Ws gQ C (by have:=E.bT.lt;omega),aI.bS M gQ.ext λb _ g he=>by have:=E.bT.lt;omega⟩ (.inr ?_)
     ·rcases g with rfl|h
      ·exact .inl E.fr
      ·exact .inr h
     ·refine⟨by rw[QQ (HA r)];simp;omega,.inr ⟨rb,_,E.fr,?_,b10,?_,?_,?_⟩⟩
      ·simp only[E.a];split<;>simp[add_lit]
      ·simp only;omega
      ·simp only[zO,zZ,j2,hz,y];omega
      ·rw[QQ (HA r),j0,show(cF ss).length*3=3*(cF ss).length by omega];rw[j3,oD (by rw[zZ,zO,y];omega),xI,Nat.min_self];rw[oD O,mT O]
  ·have x:¬s.many=0:=by simpa using hm
   rw[zB x,kX]at A;refine cP (m:=i+1) O O ⟨⟨i+1,rfl,O,e.trans e2,⟨o2,Z,A⟩,?_,?_,?_⟩,O⟩
   ·rw[HF J,q1,zB x];rfl
   ·rw[HL J,q2,zB x,k7,J];rfl
   ·rw[yM r hp J,q3,zB x,k7,hp];rfl
 ·have hii:i=ss.length:=by omega
  subst hii;rw[mV]at *;have W:ps.take ss.length=ps:=by rw[←r,mV]
  rw[W]at q3;have B:((-1:Int)==(-1))=true:=rfl;refine cE B (hR h' sl (e.sub λb g=>.inr g) ?_ (.inl ⟨rfl,q1,q2,q3,e⟩));rw[q1];exact⟨o,S,ac⟩
theorem fA.mK (h:fA U F p c ps ss):∃sl:Sl,bY U p [.int .i64 (c.size:Int),.int .i64 (c.aF:Int),.int .i64 (c.batch:Int),.slice sl.a sl.len sl.cap]/\sl.len=ss.length/\bR sl 3 (dP ps ss) U (λb=>F b/\b≠p/\b∉dY ps) ∧
 ∃rb cs,(ss≠[]->rR U F p ps ss sl rb cs/\sl.len<=sl.cap/\cs.length=sl.cap*3):=by
 obtain⟨sl,m,g⟩:=h.hd;have i:=g.1;rw[QQ h.len]at i;refine⟨sl,m,O,g,?_⟩;rcases g.2 with⟨h0,_⟩|⟨b,cs,hq,ha,hbb,hle,hcl,ht⟩
 ·exact⟨0,[],λe=>by have:=pI.2 e;omega⟩
 ·refine⟨b,cs,λ_=>⟨⟨ha,hbb,hq,λ{j v} d=>?_,?_⟩,hle,hcl⟩⟩
  ·rw[←ht,zj]at d;split at d
   ·exact d
   ·cases d
  ·have:=congrArg List.length ht;rw[zZ,QQ h.len]at this;omega
theorem Nt (h:fA U F p c ps ss){R:Sl->Hp->Prop}
 (hR:∀o σ',Ext F U σ'->bR o 2 (iJ c (Qb ss)) σ' (λb=>U.size<=b)->fA σ' (Cut F U) p c (iW ps ss) (cF ss)->R o σ'):XL.c (aW p) U R:=by
 refine XL.o ?_;unfold XL.v;have h:=fA.loc.cut h;obtain⟨sl,a,B,w,S,cs,N⟩:=h.mK;refine VH h (cB rfl (nw (cs:=[.slice none 0 0]) λW L e1 G=>aG ((e1.bT a id).rS rfl ?_)));refine Oa h e1 B (zD _) N ⟨⟨none,0,0⟩,G,bR.nil _ _ _ _⟩ λV mK e2 ⟨o,y,C⟩ r=>aG ?_;have K:=a.lt;have e:=h.nd;have d:=PT (Bj (ps:=ps) (ss:=ss));simp only[zr]at e;refine(e2.bT (e1.bT a id) λD=>by rcases D with h|h;exact h.2.1 rfl;omega).s1 aA λv3 o3 H=>?_;have u:=Ws o3 y (by have:=y.lt;omega);refine u.tY rfl (hR o v3 ?_ (aI.bS (aI.mono C λb _ a=>O) o3.ext λb _ a g=>O) ?_)
 ·refine(e1.to.dT e2 λb a=>?_).dT o3.ext λb a=>?_
  ·rcases a with h|h
   ·exact .inl h.1.1
   ·exact .inr h
  ·subst a;exact .inl h.fp.1
 ·have A:∀b,b∈dY ps->b<U.size->¬(Cut F U b/\b≠p/\b∉dY ps\/U.size<=b):=λb a P D=>by
   rcases D with h|h
   ·exact h.2.2 a
   ·omega
  refine⟨⟨mK,H,?_⟩,λi x s Q M=>?_,h.fp,λb a=>h.fb b (d.subset a),?_,HA h.len,h.ok,h.pM.sublist rW⟩
  ·rcases r with⟨rfl,_,q2,q3,ex⟩|hr
   ·rw[q2,q3];exact aI.bS (aI.bS (aI.bO w e1) ex λb _ a g=>by have:=a.1.2;omega) o3.ext λb _ a g=>a.2.1 g
   ·exact aI.bS (aI.mono hr λb _ a=>⟨a.1,a.2.1,λm=>a.2.2 (d.subset m)⟩) o3.ext λb _ a g=>a.2.1 g
  ·obtain⟨j,z,E⟩:=FR h.len Q M;have J:=h.sp j x s z E;have m:=Qd z;have B:=J.lt;exact((J.bO e1).bS e2 (A _ m.1 B.1) (A _ m.2 B.2)).bS o3.ext (λg=>e.1 (g▸m.1)) (λg=>e.1 (g▸m.2))
  ·simp only[zr];exact⟨λm=>e.1 (d.subset m),e.2.sublist d⟩
theorem O5 {x:Int}{k i:Nat}{s:cG}(hc:0<c.size)(hk:kE c ss x=some k)(hs:ss[k]?=some s)(v:Bool)(y:Int):kE c (ss.set k (s.put i v)) y=kE c ss y:=by
 have b:∀t:cG,∀j w z,idx c (t.put j w) z=idx c t z:=λt j w z=>by unfold idx cG.put;simp only[nQ]
 unfold kE;have a:=(cW.1 hs).1;have:(ss.set k (s.put i v)).map (λs=>(idx c s y).isSome)=ss.map (λs=>(idx c s y).isSome):=by
  apply zo;intro j;simp only[zd];by_cases hjk:j=k
  ·subst hjk;rw[zL a,hs];simp[b]
  ·rw[zk (Ne.symm hjk)]
 have d:∀l:List cG,l.findIdx? (λs=>(idx c s y).isSome)=(l.map λs=>(idx c s y).isSome).findIdx? id:=λl=>by rw[List.findIdx?_map];rfl
 rw[d,d,this]
def kq (c:bZ)(ss:List cG)(xs:List Int):Prop:=(∀x∈xs,dX c ss x=some true)/\xs.Nodup
theorem Gk {x:Int}{b:Bool}(h:dX c ss x=some b):∃k s i,kE c ss x=some k/\ss[k]?=some s/\obj c s x=some i/\s.is i=b:=by
 unfold dX at h;split at h
 ·rename_i k hk;split at h
  ·rename_i s hs;cases ho:obj c s x with
   | none=>rw[ho]at h;cases h
   | some i=>rw[ho]at h;exact⟨k,s,i,hk,hs,ho,by simpa[cG.is]using h⟩
  ·cases h
 ·cases h
theorem xB {x:Int}{k i:Nat}{s:cG}(hk:kE c ss x=some k)(hs:ss[k]?=some s)(ho:obj c s x=some i):fD c ss x=ss.set k (s.put i false):=by
 simp[fD,hk,hs,ho]
theorem NW {x y:Int}(hc:0<c.size)(hx:dX c ss x=some true)(hne:y≠x):dX c (fD c ss x) y=dX c ss y:=by
 obtain⟨k,s,i,u,d,A,_⟩:=Gk hx;rw[xB u d A];have g:=(cW.1 d).1;have a:=O5 hc u d false (i:=i) y;have p:∀t:cG,∀j w z,obj c (t.put j w) z=obj c t z:=λt j w z=>by unfold obj idx at_ cG.put;simp only[nQ]
 cases hy:kE c ss y with
 | none=>rw[AM (a.trans hy),AM hy]
 | some m=>
  by_cases hmk:m=k
  ·subst hmk;rw[Vu (a.trans hy) (zL g),Vu hy d,p];cases hoy:obj c s y with
   | none=>rfl
   | some j=>
    simp only[zX,Option.some.injEq];have r:i≠j:=λe=>by
     subst e;exact hne (((Up hc).1 hoy).1.trans ((Up hc).1 A).1.symm)
    simp[cG.is,cG.put,zP,zk r]
  ·have b:m<ss.length:=(nk.1 hy).1;rw[Vu (a.trans hy) ((zk (Ne.symm hmk)).trans (cV b)),Vu hy (cV b)]
theorem kq.next {x:Int}{xs:List Int}(hc:0<c.size)(h:kq c ss (x::xs)):kq c (fD c ss x) xs:=by
 have b:=zr.1 h.2;refine⟨λy a=>?_,b.2⟩;rw[NW hc (h.1 x aA) λe=>b.1 (e▸a)];exact h.1 y (by simp[a])
theorem D4 {xs:List Int}(h:iB c ss xs=0):kq c ss xs:=by
 unfold iB at h;split at h
 ·cases h
 ·rename_i h1;split at h
  ·cases h
  ·rename_i h2;simp only[nj,not_or,qk,mA,Bool.not_eq_false',zU,zT]at h1 h2;refine⟨λx d=>?_,h2.2⟩;have a:=h1 x d;have b:=h2.1 x d;cases ht:dX c ss x with
   | none=>rw[ht]at a;simp at a
   | some v=>
    cases v
    ·rw[ht]at b;exact absurd rfl b
    ·rfl
theorem JU {sl:Sl}{xs:List Int}{X:Rg}(h:fA U F p c ps ss)(hs:cU sl 1 (xs.map (Value.int .i64)) U X)(hX:∀b,X b->¬F b)(hi:∀x∈xs,iD x)(hA:kq c ss xs)(hl:xs.length<=1000000){K:aP}
 (hK:∀σ',Ext F U σ'->fA σ' F p c ps (xs.foldl (fD c) ss)->K σ') :
 Yo [bN] (λI1=>I1 0 U) λJ3 (t49:Int) v6=>If (decide (t49<((sl.len:Nat):Int))) (Ix sl.a sl.len t49 1 λa51=>gp .i64 a51 v6 λaddr1=>
  XD.c (aW p) addr1 v6 λvx v7=>bU vx λa57=>fT (a57.add 2) v7 λt59=>Zo.c t59 addr1 v7 λt61 v8=>bU vx λa63=>gp .i64 ((a63.add 0).add 0) v8 λt66=>
  Ar .i64 (t66-1) λt67=>bU vx λa68=>dW ((a68.add 0).add 0) (.int .i64 t67) v8 λv9=>Ar .i64 (t49+1) λt71=>J3 t71 v9) (K v6):=by
 have hlen:sl.len=xs.length:=by have:=hs.1;simp at this;omega
 have B:0<c.size:=by have:=h.ok.1;omega
 refine ZY (a:=bN) (λ(t:Int) M=>∃(i:Nat) (u:List cG),t=(i:Int)/\i<=xs.length/\Ext F U M/\fA M F p c ps u/\kq c u (xs.drop i)/\(xs.drop i).foldl (fD c) u=xs.foldl (fD c) ss) (λt _=>xs.length-t.toNat) ⟨0,ss,rfl,O,Ext.refl _ _,h,by simpa using hA,by simp⟩ ?_;rintro t M ⟨i,u,rfl,hil,e,N,y,C⟩;refine cQ (λhlt=>?_) λhge=>?_
 ·have w:i<xs.length:=by omega
  have hx:xs[i]?=some xs[i]:=cV w;have hd:xs.drop i=xs[i]::xs.drop (i+1):=u6 w;rw[hd]at y C;refine(aH.bS hs e λb _ V hF=>hX b V hF).mY hx ?_;obtain⟨k,s,j,L,d,J,A⟩:=Gk (y.1 xs[i] pd);have z:=hi xs[i] (j4 w);refine B6 N xs[i] z (λhn=>by rw[L]at hn;cases hn) λk' mK rb cs G R V E=>aG ?_;rw[L]at G;cases G;obtain⟨Q,s',Z,D,P⟩:=N.jA R;rw[d]at D;cases D;have eg:=QB Z d;have hj:=((Up B).1 J).2;refine E.bT.rP (x:=some ⟨Q.1,0,none⟩) (E.get eg.2.2) ?_;refine Me P z J A λv8 e8 W=>aG ?_;have H:=Qd Z;have S:¬(rb=Q.1\/rb=Q.2):=λhh=>E.fr.2.2 (by rcases hh with h|h<;>rw[h];exact H.1;exact H.2)
  have hml:=Bn s;have g:=H7 hj false;rw[A]at g;have hsl:=P.len;have hnl:=P.ok.j9;have r:((s.put j false).many:Int)=s.many-1:=by simp at g;omega
  refine(e8.bT E.bT S).eY (E.get eg.1) (ar O O (aG ?_));simp only[add_lit,j0];rw[←r];refine N.oL (s':=s.put j false) Z d rfl e8 W V E λv9 e9 Y=>?_;refine cP (m:=i+1) O O ⟨⟨i+1,_,rfl,O,e.trans e9,Y,?_,?_⟩,O⟩
  ·have:=kq.next B y
   rwa [xB L d J]at this
  ·rw[pS,xB L d J]at C;exact C
 ·have:i=xs.length:=by omega
  subst this;rw[List.drop_length,List.foldl_nil]at C;subst C;exact hK M e N
theorem LK (h:fA U F p c ps ss){sl:Sl}{xs:List Int}{X:Rg}(hs:cU sl 1 (xs.map (Value.int .i64)) U X)(hX:∀b,X b->¬F b)(hi:∀x∈xs,iD x)(hl:xs.length<=1000000)(hcap:sl.len<=sl.cap){R:Sl->Int->Hp->Prop}
 (h0:iB c ss xs≠0->R ⟨none,0,0⟩ (iB c ss xs) U)
 (h1:iB c ss xs=0->∀o σ',Ext F U σ'->bR o 2 (iJ c (Qb (xs.foldl (fD c) ss))) σ' (λb=>U.size<=b)->fA σ' (Cut F U) p c (iW ps (xs.foldl (fD c) ss)) (cF (xs.foldl (fD c) ss))->R o 0 σ') :
 YI.c (aW p) sl U R:=by
 refine YI.o ?_;unfold YI.v;have hlen:sl.len=xs.length:=by have:=hs.1;simp at this;omega
 refine VH h (cB rfl ?_);have tw:∀i,(xs.take i).any (λx=>dX c ss x==some false)=true\/¬(xs.take i).Nodup->(∀x∈xs,(dX c ss x).isSome=true)->iB c ss xs=9:=by
  intro i d hall;unfold iB;rw[zB,zC]
  ·rcases d with d|d
   ·rw[kb]at d;obtain⟨x,u,Y⟩:=d;have:xs.any (λx=>dX c ss x==some false)=true:=kb.2 ⟨x,vp u,Y⟩;rw[this];rfl
   ·have:¬xs.Nodup:=λE=>d (E.sublist (B2 _ _));simp[this]
  ·simp only[qk,mA];intro x u;have:=hall x u;cases ht:dX c ss x
   ·rw[ht]at this;cases this
   ·simp
 refine UC (a:=.b) (bb:=bN) (λ(tw:Bool) (t:Int) B=>∃i:Nat,t=(i:Int)/\i<=xs.length/\B=U/\(∀x∈xs.take i,(dX c ss x).isSome=true)/\(tw=true↔(xs.take i).any (λx=>dX c ss x==some false)=true\/¬(xs.take i).Nodup)) (λ_ t _=>xs.length-t.toNat)
  ⟨0,rfl,O,rfl,by simp,by simp⟩ ?_
 rintro w t B ⟨i,rfl,hil,rfl,g,C⟩;refine cQ (λhlt=>?_) λhge=>?_
 ·have D:i<xs.length:=by omega
  have u:xs[i]?=some xs[i]:=cV D;have ab:=hi xs[i] (j4 D);have G:xs.take (i+1)=xs.take i++[xs[i]]:=by rw[k7,u];rfl
  refine hs.mY u (CO h xs[i] ab (λb d=>cB rfl ?_) λE=>cE rfl ?_)
  ·have A:∀x∈xs.take (i+1),(dX c ss x).isSome=true:=by
    rw[G];intro x u;rcases zK.1 u with h1|h1
    ·exact g x h1
    ·simp at h1;subst h1;rw[d];rfl
   have fin:∀L:Bool,(L=true↔(xs.take (i+1)).any (λx=>dX c ss x==some false)=true\/¬(xs.take (i+1)).Nodup)->Ar .i64 ((i:Int)+1) λs=>
    (∃j:Nat,s=(j:Int)/\j<=xs.length/\B=B/\(∀x∈xs.take j,(dX c ss x).isSome=true)/\(L=true↔(xs.take j).any (λx=>dX c ss x==some false)=true\/¬(xs.take j).Nodup))/\xs.length-s.toNat<xs.length-(i:Int).toNat:=
    λL W=>cP (m:=i+1) O O ⟨⟨i+1,rfl,O,rfl,A,W⟩,O⟩
   have S:∀y:Int,(xs.take i++[y]).Nodup↔(xs.take i).Nodup/\y∉xs.take i:=λy=>by
    rw[nK];constructor
    ·exact λh=>⟨h.1,λM=>h.2.2 y M y aA rfl⟩
    ·exact λh=>⟨h.1,by simp,λa ha z hz e=>by simp at hz;subst hz;exact h.2 (e▸ha)⟩
   have ex:(xs.take (i+1)).any (λx=>dX c ss x==some false)=true\/¬(xs.take (i+1)).Nodup↔(w=true\/b=false)\/xs[i]∈xs.take i:=by
    rw[G,S,List.any_append,C];simp only[List.any_cons,List.any_nil,Bool.or_false,nj,d];have P:((some b==some false)=true)↔b=false:=by cases b<;>simp
    rw[P];constructor
    ·rintro((h|h)|h)
     ·exact .inl (.inl (.inl h))
     ·exact .inl (.inr h)
     ·by_cases E:(xs.take i).Nodup
      ·by_cases M:xs[i]∈xs.take i
       ·exact .inr M
       ·exact absurd ⟨E,M⟩ h
      ·exact .inl (.inl (.inr E))
    ·rintro(((h|h)|h)|h)
     ·exact .inl (.inl h)
     ·exact .inr λH=>h H.1
     ·exact .inl (.inr h)
     ·exact .inr λH=>H.2 h
   have J1:∀r:Bool,(r=true↔w=true\/b=false)->bW (λL v4=>Ar .i64 ((i:Int)+1) λs=>
    (∃j:Nat,s=(j:Int)/\j<=xs.length/\v4=B/\(∀x∈xs.take j,(dX c ss x).isSome=true)/\(L=true↔(xs.take j).any (λx=>dX c ss x==some false)=true\/¬(xs.take j).Nodup))/\xs.length-s.toNat<xs.length-(i:Int).toNat) λJ2=>
    If r (J2 true B) (eX sl 1 0 (i:Int) (sl.cap:Nat) λac=>Wp.c ac xs[i] B λZ v5=>J2 Z v5):=by
    intro r hr;refine bW.intro ?_;cases r
    ·refine cB rfl ?_;refine iR (lo:=0) O O O ?_;have J:cU ⟨if sl.cap=0 then sl.a else sl.a.map (·.add (0*1)),i-0,sl.cap-0⟩ 1 ((xs.take i).map (Value.int .i64)) B X:=by
      refine⟨by simp;omega,?_⟩;rcases hs.2 with h0|⟨b',o',cs',hf',ha',hb',hc'⟩
      ·left;have:xs=[]:=by simpa using h0
       simp[this]
      ·refine .inr ⟨b',o',cs',hf',?_,hb',λj hj=>?_⟩
       ·rw[zB O,ha'];simp[add_lit]
       ·simp only[zl,zZ]at hj;rw[hc' j aE,List.map_take,zj,zC O]
     refine Iq J aE _ (fin _ ?_);rw[ex,←hr];simp
    ·refine cE rfl (fin true ?_);rw[ex,←hr];simp
   refine bW.intro ?_;cases w
   ·refine cB rfl (J1 _ ?_);cases b<;>simp
   ·exact cE rfl (J1 _ aA)
  ·have:iB c ss xs=8:=by
    unfold iB;rw[zC];exact kb.2 ⟨xs[i],j4 D,by rw[E];rfl⟩
   have h0:=h0 (by rw[this];decide);rw[this]at h0;exact h0
 ·have:i=xs.length:=by omega
  subst this;rw[mV]at *;cases w
  ·refine cB rfl ?_;have hE:iB c ss xs=0:=by
    unfold iB;have V:¬(xs.any (λx=>dX c ss x==some false)=true\/¬xs.Nodup):=λH=>by have:=C.2 H;cases this
    rw[zB,zB]
    ·simp only[not_or,qk,Decidable.not_not]at V;rw[V.1];simp[V.2]
    ·simp only[qk,mA];intro x u;have:=g x u;cases ht:dX c ss x
     ·rw[ht]at this;cases this
     ·simp
   refine JU (fA.loc.cut h) hs (λb d hf=>hX b d hf.1) hi (D4 hE) hl λv6 e6 aa=>?_;refine Nt aa λo N e10 Q K=>?_;exact h1 hE o N ((e6.trans e10).sub λb d=>d.1) (aI.mono Q λb _ d=>zh e6.1 d) (fA.loc.mono K λb _ d=>d.1)
  ·refine cE rfl ?_;have h9:=tw xs.length (by rw[mV];exact C.1 rfl) g;have h0:=h0 (by rw[h9];decide);rw[h9]at h0;exact h0
theorem Jb {x y:Sl}{a o b o':Nat}{cs ds:List Value}(hx:x.a=some ⟨a,o,none⟩)(hy:y.a=some ⟨b,o',none⟩)(ha:bY U a cs)(hb:bY U b ds)(hne:a≠b)(hd:ds≠[]){K:aO}(hK:K false U) :
 td Tryz.prog 288 [.slice x.a x.len x.cap,.slice y.a y.len y.cap] U K:=by
 rintro w rfl;obtain⟨d,ha⟩:=ha;obtain⟨g,hb⟩:=hb;refine⟨false,w,?_,.refl _,hK⟩;rw[hx,hy,run_callFunc_extern Tryz.func288 (by kernel_rfl) (by kernel_rfl) (by kernel_rfl) (e:=Extern.SlicesOverlaps.overlaps #[255,255] #[4]) (by kernel_rfl)];have:=Lib.run_overlaps_apart (P:=Tryz.prog) w 255 4 262 Tryz.underlying255 3 Tryz.sizeOf262
  ⟨a,o,none⟩ ⟨b,o',none⟩ x.len x.cap y.len y.cap hne d g cs.length ds.length (by simp[World.shape?,ha]) (by simp[World.shape?,hb]) (by simpa using hd) (by simp[World.frozen?,ha]) (by simp[World.frozen?,ha])
 rw[this];rfl
theorem RV {Q:Rg}{s:Sl}{xs:List Value}{i m vb:Nat}{x y z:Value}(h:bR s 3 xs U Q)(hlen:s.len=m)(hm:m<=2000)(hi:i<=m)(hv:bY U vb [x,y,z])(hvb:¬Q vb)(h1:∀v∈xs,dQ v=true)(h2:dQ x=true/\dQ y=true/\dQ z=true)
 {R:Sl->Hp->Prop} (hR:∀s' σ',Ext Q U σ'->bR s' 3 (xs.take (3*i)++[x,y,z]++xs.drop (3*i)) σ' (Grow Q U)->R s' σ') :
 Wg.c s (i:Int) ⟨some ⟨vb,0,none⟩,1,1⟩ U R:=by
 refine Wg.o ?_;unfold Wg.v;have hxl:=h.1;have hcap:s.len<=s.cap:=by
  rcases h.2 with⟨h0,h0'⟩|⟨b,cs,_,_,_,J,_⟩
  ·omega
  ·exact J
 have ad:Rd U (some ⟨vb,0,none⟩) [x,y,z]:=by
  intro j u hu;rw[add_lit,zH,hv.cell];exact hu
 have Y:∀v∈[x,y,z],dQ v=true:=by simp[h2]
 refine iR O O O (cB rfl (cO (λZ=>?_) λZ=>?_))
 ·have ag:i=m:=by
   have:(i:Int)=((s.len:Nat):Int):=by simpa using Z
   omega
  refine h.app (ys:=[x,y,z]) rfl rfl ad Y aD aD mO λs' h' hl' e' V=>hR s' h' e' ?_
  rw[mT O,List.drop_of_length_le O,kX];exact V
 ·have ag:i<m:=by
   have:¬(i:Int)=((s.len:Nat):Int):=by simpa using Z
   omega
  obtain⟨b,cs,S,W,E,J,K,ht⟩:∃b cs,Q b/\s.a=some ⟨b,0,none⟩/\bY U b cs/\s.len<=s.cap/\cs.length=s.cap*3/\cs.take xs.length=xs:=by
   rcases h.2 with⟨h0,_⟩|h
   ·omega
   ·exact h
  have M:vb≠b:=λe=>hvb (e▸S);have w:∀j v,xs[j]?=some v->cs[j]?=some v:=λj v p=>by
   rw[←ht,zj]at p;split at p
   ·exact p
   ·cases p
  refine cP (m:=m+1) aD O (cQ (λhgt=>?_) λhle2=>?_)
  ·-- no room: a new row
   refine iR (lo:=0) O O O (cP (m:=m+1) aD O (cP (m:=m+1-i) O O ?_))
   have B:¬s.cap=0:=by omega
   rw[zB B];simp only[W,zX,add_lit,uf,j0,Nat.sub_zero];refine⟨O,xs.take (3*i),by rw[zZ];simp only;omega,?_,by simp[dQ],by simp only;omega,by simp only;omega,O,λae=>by simp only at ae;omega,λ_ cc N=>?_⟩
   ·intro j v p;rw[add_lit,zH,E.cell];rw[zj]at p;split at p
    ·exact w j v p
    ·cases p
   simp only[dE]at N ⊢;have ab:i+(m+1-i)=m+1:=by omega
   rw[ab]at N ⊢;refine nw λv2 hz2 e2 aa=>?_;have A:∀k,(List.replicate k [Value.int .i64 0,.int .i64 0,.pointer none]).flatten.length=3*k:=λk=>by
    rw[wh,uv,uY];simp;omega
   have g:(xs.take (3*i)).length=3*i:=by rw[zZ];omega
   refine iR aD aD aD ?_
   have X:=e2.bT hv id;have n1:(if cc=i then(some ⟨U.size,0,none⟩:Option Addr)else(some ⟨U.size,0,none⟩:Option Addr).map (·.add (i*3)))=some ⟨U.size,i*3,none⟩:=by
    have:¬cc=i:=by omega
    rw[zB this];simp[add_lit]
   rw[n1];refine⟨[x,y,z],by simp only;rw[pz O];rfl,?_,Y,?_⟩
   ·intro j u hu;rw[add_lit,zH,X.cell];exact hu
   simp only;refine VS (o:=i*3) (i:=0) aa (by simp only[zO,g,A,zY,lN];omega) λv3 o3 P=>?_;refine cP (m:=i+1) aD O (iR aD aD aD (iR O O O ?_))
   have G:bY v3 b cs:=Ws o3 (e2.bT E id) (by have:=E.lt;omega);have d:(xs.drop (3*i)).length=3*(m-i):=by rw[j2];omega
   refine⟨xs.drop (3*i),by simp only;rw[pz O,d];omega,?_,λv hv=>h1 v (sv hv),?_⟩
   ·have r:¬s.cap=i:=by omega
    rw[zB r];simp only[W,zX,add_lit];intro j v p;rw[add_lit,G.cell];rw[kO]at p;have:=w _ _ p;rw[show 0+i*3+j=3*i+j by omega];exact this
   have hbig:(xs.take (3*i)++(List.replicate (m+1-i) [Value.int .i64 0,.int .i64 0,.pointer none]).flatten++(List.replicate (cc-(m+1)) [Value.int .i64 0,.int .i64 0,.pointer none]).flatten).length=3*cc:=by
    simp only[zO,g,A];omega
   have tk:∀L:List Value,((xs.take (3*i)++(List.replicate (m+1-i) [Value.int .i64 0,.int .i64 0,.pointer none]).flatten++(List.replicate (cc-(m+1)) [Value.int .i64 0,.int .i64 0,.pointer none]).flatten).take (3*i))=xs.take (3*i):=λ_=>by
    rw[j3,oD O,mT O]
   have fin:∀v4,Qm v3 v4 U.size->bY v4 U.size ((xs.take (3*i)++[x,y,z])++xs.drop (3*i)++((xs.take (3*i)++(List.replicate (m+1-i) [Value.int .i64 0,.int .i64 0,.pointer none]).flatten++(List.replicate (cc-(m+1)) [Value.int .i64 0,.int .i64 0,.pointer none]).flatten).drop (3*i+3)).drop (3*(m-i)))->R ⟨some ⟨U.size,0,none⟩,m+1,cc⟩ v4:=by
    intro v4 o4 b4;refine hR _ v4 ?_ ⟨?_,.inr ⟨U.size,_,.inr (zD _),rfl,b4,by simp only;omega,?_,?_⟩⟩
    ·exact((e2.to.dT o3.ext λi hi=>by subst hi;exact .inr (zD _)).dT o4.ext λi hi=>by subst hi;exact .inr (zD _))
    ·simp only[zO,g,d,zY,lN];omega
    ·simp only[zO,g,d,zY,lN,j2,A];omega
    ·rw[j3 (xs.take (3*i)++[x,y,z]),←j3,yn];rfl
   have e3:(xs.take (3*i)++(List.replicate (m+1-i) [Value.int .i64 0,.int .i64 0,.pointer none]).flatten++(List.replicate (cc-(m+1)) [Value.int .i64 0,.int .i64 0,.pointer none]).flatten).take (i*3+0)=xs.take (3*i):=by
    rw[show i*3+0=3*i by omega];exact tk []
   rw[e3]at P;have C:(xs.take (3*i)++[x,y,z]++(xs.take (3*i)++(List.replicate (m+1-i) [Value.int .i64 0,.int .i64 0,.pointer none]).flatten++(List.replicate (cc-(m+1)) [Value.int .i64 0,.int .i64 0,.pointer none]).flatten).drop (i*3+0 + [x,y,z].length)).length=3*cc:=by
    simp only[zO,j2,g,A,zY,lN];omega
   by_cases r:cc=i+1
   ·exfalso;omega
   ·rw[zB r];simp only[zX,add_lit,zH];refine VS (o:=(i+1)*3) (i:=0) P (by rw[C,d];omega) λv4 o4 b4=>fin v4 o4 ?_;have q1:(i+1)*3+0=(xs.take (3*i)++[x,y,z]).length:=by rw[zO,g];simp;omega
    have q2:(i+1)*3+0+(xs.drop (3*i)).length=(xs.take (3*i)++[x,y,z]).length+3*(m-i):=by rw[d,q1]
    rw[q2,q1,yn,List.drop_append]at b4
    ·rw[List.drop_of_length_le (show(xs.take (3*i)++[x,y,z]).length<=(xs.take (3*i)++[x,y,z]).length+3*(m-i) by omega),sK]at b4;have q3:i*3+0 + [x,y,z].length=3*i+3:=by simp;omega
     rw[q3]at b4;have q4:(xs.take (3*i)++[x,y,z]).length+3*(m-i)-(xs.take (3*i)++[x,y,z]).length=3*(m-i):=by omega
     rw[q4]at b4;exact b4
    ·rfl
  ·-- room: the rest moves
   have hle3:m+1<=s.cap:=by omega
   have B:¬s.cap=0:=by omega
   have r:¬s.cap=i:=by omega
   refine cP (m:=m+1) aD O (iR (lo:=0) O O O ?_)
   rw[zB B];simp only[W,zX,add_lit,uf,j0,Nat.sub_zero];refine cP (m:=i+1) aD O (iR aD aD aD ?_)
   have D:cs.take (3*m)=xs:=by rw[←hlen,show 3*s.len=xs.length by omega];exact ht
   have na:∃o',(if s.cap=i+1 then(some ⟨b,0,none⟩:Option Addr)else(some ⟨b,0,none⟩:Option Addr).map (·.add ((i+1)*3)))=some ⟨b,o',none⟩:=by
    split
    ·exact⟨0,rfl⟩
    ·exact⟨_,by simp[add_lit];rfl⟩
   obtain⟨o',na⟩:=na;refine Jb (x:=⟨some ⟨vb,0,none⟩,1,1⟩) (a:=vb) (o:=0) (b:=b) rfl na hv E M (λe=>by rw[e]at K;simp at K;omega) (cE rfl ?_);refine cP (m:=i+1) aD O (iR aD aD aD (iR aD aD aD ?_))
   have H:¬s.cap=i+1:=by omega
   rw[zB H,zB r];simp only[zX,add_lit,zH];have d:(xs.drop (3*i)).length=3*(m-i):=by rw[j2];omega
   refine⟨xs.drop (3*i),by simp only;rw[Nat.min_eq_right O,d];omega,?_,λv hv=>h1 v (sv hv),?_⟩
   ·intro j v p;rw[add_lit,E.cell];rw[kO]at p;have:=w _ _ p;rw[show i*3+j=3*i+j by omega];exact this
   refine VS (o:=(i+1)*3) (i:=0) E (by rw[d];omega) λv3 o3 P=>?_;refine iR aD aD aD ?_
   rw[zB r];simp only[zX,add_lit,zH];have af:=Ws o3 hv M;refine⟨[x,y,z],by simp only;rw[pz O];rfl,?_,Y,?_⟩
   ·intro j u hu;rw[add_lit,zH,af.cell];exact hu
   have ac:(cs.take ((i+1)*3+0)++xs.drop (3*i)++cs.drop ((i+1)*3+0+(xs.drop (3*i)).length)).length=cs.length:=by
    simp only[zO,zZ,j2,d];omega
   refine VS (o:=i*3) (i:=0) P (by rw[ac];simp;omega) λv4 o4 b4=>?_;have a1:(cs.take ((i+1)*3+0)).length=3*i+3:=by rw[zZ];omega
   have g:(xs.take (3*i)).length=3*i:=by rw[zZ];omega
   have p1:(cs.take ((i+1)*3+0)++xs.drop (3*i)++cs.drop ((i+1)*3+0+(xs.drop (3*i)).length)).take (i*3+0)=xs.take (3*i):=by
    rw[j3,oD O,xI,pz O,←D,xI,pz O]
    congr 1;omega
   have p2:(cs.take ((i+1)*3+0)++xs.drop (3*i)++cs.drop ((i+1)*3+0+(xs.drop (3*i)).length)).drop (i*3+0 + [x,y,z].length)=xs.drop (3*i)++cs.drop ((i+1)*3+0+(xs.drop (3*i)).length):=by
    rw[j3,List.drop_left'];rw[a1];simp;omega
   rw[p1,p2,←j3]at b4;refine hR _ v4 ((Ext.eI (F:=Q) o3 S).trans (Ext.eI o4 S)) ⟨?_,.inr ⟨b,_,.inl S,rfl,b4,aD,?_,?_⟩⟩
   ·simp only[zO,g,zY,lN,d];omega
   ·simp only[zO,g,j2,zY,lN,d];omega
   ·rw[yn];rfl
def Ze (ss:List cG)(st:Nat):Nat:=(ss.takeWhile (λs=>s.st<st)).length
theorem Hs (l:List cG)(P:cG->Bool):l.takeWhile P=l.take (l.takeWhile P).length/\l.dropWhile P=l.drop (l.takeWhile P).length:=by
 induction l with
 | nil=>simp
 | cons x l ih=>
  simp only[List.takeWhile_cons,List.dropWhile_cons];cases P x
  ·simp
  ·simp only[zR,zY,uE,xY];exact⟨by rw[←ih.1],ih.2⟩
theorem GE (c:bZ)(ss:List cG)(st:Nat):ig c ss st=ss.take (Ze ss st)++⟨st,List.replicate c.n false⟩::ss.drop (Ze ss st):=by
 have:=Hs ss (λs=>decide (s.st<st));unfold ig Ze;rw[this.2,←this.1]
theorem Hk (hs:ss.Pairwise (λa b=>a.st<b.st))(st:Nat):Ze ss st<=ss.length/\∀(i:Nat) s,ss[i]?=some s->(s.st<st↔i<Ze ss st):=by
 unfold Ze
 induction ss with
 | nil=>simp
 | cons x ss ih=>
  have e:=qR.1 hs;obtain⟨j,g⟩:=ih e.2;simp only[List.takeWhile_cons];by_cases hx:x.st<st
  ·simp only[hx,decide_true,zR,zY];refine⟨O,λi s d=>?_⟩;cases i with
   | zero=>simp at d;subst d;simp[hx]
   | succ i=>have:=g i s (by simpa using d);omega
  ·simp only[hx,decide_false,zc,zz,lN,Nat.zero_le,Nat.not_lt_zero,iff_false,sS];intro i s d;cases i with
   | zero=>simp at d;subst d;exact hx
   | succ i=>
    have:=e.1 s (zG (i:=i) (by simpa using d));omega
theorem IA (h:fA U F p c ps ss){σ1:Hp}(e1:bK U σ1){sl:Sl}{rb:Nat}{cs:List Value}(hl:sl.len=ss.length)(hE:ss≠[]->rR U F p ps ss sl rb cs)(st:Nat)(hst:st<=1024){R:Int->Bool->Hp->Prop}(hR:∀σ' b,bK σ1 σ'->R (Ze ss st:Int) b σ') :
 Wb.c sl (st:Int) ⟨259,#[],#[]⟩ σ1 R:=by
 refine Wb.o ?_;unfold Wb.v;have P:=h.pt;obtain⟨M,kD⟩:=Hk h.pM st;have z:∀(k:Nat) (x:Nat×Nat) s (v:Hp) (K:aN),ps[k]?=some x->ss[k]?=some s->bK σ1 v->(∀D,bK v D->K ((s.st:Int)-(st:Int)) D) →
  VF Tryz.prog ⟨259,#[],#[]⟩ [.agg #[.int .i64 (s.many:Int),.int .i64 (s.st:Int),.pointer (some ⟨x.1,0,none⟩)],.int .i64 (st:Int)] [.one bN] v K:=by
  intro k x s v K w g ev hK;refine pE (all := #[.agg #[.int .i64 (s.many:Int),.int .i64 (s.st:Int),.pointer (some ⟨x.1,0,none⟩)],.int .i64 (st:Int)]) (by kernel_rfl) aA ?_;refine Yt.o ?_;unfold Yt.v;have hf:=(h.sp k x s w g).fit;refine nw (cs:=[.int .i64 (s.many:Int),.int .i64 (s.st:Int),.pointer (some ⟨x.1,0,none⟩)]) λv1 hz e L=>L.eY rfl (ar O O (hK v1 e))
 refine UC (a:=bN) (bb:=bN) (λ(i j:Int) v=>∃a b:Nat,i=(a:Int)/\j=(b:Int)/\a<=Ze ss st/\Ze ss st<=b/\b<=ss.length/\bK σ1 v) (λi j _=>j.toNat-i.toNat) ⟨0,ss.length,rfl,by rw[hl],O,M,O,Ext.refl _ _⟩ ?_;rintro i j v ⟨a,b,rfl,rfl,Y,L,B,ev⟩;have C:bK U v:=e1.trans ev;refine cQ (λaa=>?_) λZ=>?_
 ·have u:ss≠[]:=by rintro rfl;simp at B;omega
  have E:=hE u;refine cP (m:=a+b) O O ?_;have X:IntKind.u64.wrap ((a+b:Nat):Int)=((a+b:Nat):Int):=by
   unfold IntKind.wrap;simp[IntKind.bits,IntKind.signed];omega
  refine yo ?_;rw[X];refine nn O ?_;have J:min (1:Int).toNat IntKind.u64.bits=1:=by decide
  rw[J,CP];have A:(((a+b:Nat):Int)/2^1)=(((a+b)/2:Nat):Int):=by omega
  refine cP (m:=(a+b)/2) A O ?_;have d:(a+b)/2<ss.length:=by omega
  obtain⟨x,s,w,g,W⟩:=h.jA d;have y:=QB w g;rw[E.a];refine ix O O ?_;rw[add_lit,show 0+(((a+b)/2:Nat):Int).toNat*3=3*((a+b)/2) by omega];refine wS (e:=0) (C.bT E.bT id) (E.get y.1) (E.get y.2.1) (E.get y.2.2) (z _ x s v _ w g ev λD G=>?_);have r:=kD _ s g;show If (decide (((s.st:Int)-(st:Int))<0)) _ _;refine cQ (λQ=>?_) λV=>?_
  ·exact cP (m:=(a+b)/2+1) O O ⟨⟨_,b,rfl,rfl,by have:=r.1 O;omega,L,B,ev.trans G⟩,O⟩
  ·exact⟨⟨a,_,rfl,rfl,Y,by
    apply Classical.byContradiction;intro hc;have:=r.2 O;omega,O,ev.trans G⟩,O⟩
 ·have H:a=Ze ss st:=by omega
  subst H;refine bW.intro (cQ (λS=>?_) λN=>hR v _ ev);have d:Ze ss st<ss.length:=by omega
  have u:ss≠[]:=by rintro rfl;simp at d
  have E:=hE u;obtain⟨x,s,w,g,W⟩:=h.jA d;have y:=QB w g;rw[E.a];refine ix O O ?_;rw[add_lit,show 0+(Ze ss st:Int).toNat*3=3*Ze ss st by omega];refine wS (e:=0) (C.bT E.bT id) (E.get y.1) (E.get y.2.1) (E.get y.2.2) (z _ x s v _ w g ev λD G=>hR D _ (ev.trans G))
theorem MM (h:fA U F p c ps ss){st:Nat}(hf:st+c.aF<=1024){R:aN}(h9:HY c ss st=9->∀σ',bK U σ'->R 9 σ')
 (h0:HY c ss st=0->∀σ' ps',Ext F U σ'->fA σ' (Grow F U) p c ps' (ig c ss st)->R 0 σ'):YO.c (aW p) (st:Int) U R:=by
 refine YO.o ?_;unfold YO.v;have h:=fA.loc.cut h;obtain⟨sl,d,hl,aa,rb,cs,hE⟩:=h.mK;have hfew:=h.pt;have hc:=h.ok;have hck:=hc;unfold bZ.ok at hck;refine VH h (cB rfl (aG (d.eY rfl (d.eY rfl (d.eY rfl ?_)))));refine LO hc hf λv1 B K e1 hpn hqn S=>cB rfl (aG ((e1.bT d id).rS rfl ?_));have hplt:=d.lt;refine ZY (a:=bN) (λ(t:Int) v=>∃i:Nat,t=(i:Int)/\i<=ss.length/\bK v1 v/\∀(j:Nat) s,j<i->ss[j]?=some s->¬max s.st st-min s.st st<c.aF) (λt _=>ss.length-t.toNat) ⟨0,rfl,O,Ext.refl _ _,λj s y=>O⟩ ?_;rintro t v ⟨i,rfl,Z,ev,Y⟩;have r:=e1.trans ev;refine cQ (λaf=>?_) λhge=>?_
 ·simp only at af;have ae:i<ss.length:=by omega
  obtain⟨E,hcap,hcl⟩:=hE (by rintro rfl;simp at ae);obtain⟨x,s,z,g,hS⟩:=h.jA ae;have eg:=QB z g;have hsf:=hS.fit;rw[E.a];refine ix O O ?_;rw[add_lit,show 0+(i:Int).toNat*3=3*i by omega];refine wS (e:=0) (r.bT E.bT id) (E.get eg.1) (E.get eg.2.1) (E.get eg.2.2) (EM λv6 e6 b6=>b6.eY rfl (b6.eY rfl ?_));have hd:(if(st:Int)>(s.st:Int)then(st:Int)else(s.st:Int))-(if(st:Int)<(s.st:Int)then(st:Int)else(s.st:Int))=((max s.st st-min s.st st:Nat):Int):=by
   split<;>split<;>omega
  refine cP (m:=max s.st st-min s.st st) hd O (aG (((r.trans e6).bT d id).eY rfl ?_));refine cQ (λhlt2=>h9 ?_ _ (r.trans e6)) λhge2=>?_
  ·unfold HY;rw[zC];exact kb.2 ⟨s,zG g,by simpa using(by omega:max s.st st-min s.st st<c.aF)⟩
  ·refine cP (m:=i+1) O O ⟨⟨i+1,rfl,O,ev.trans e6,λj s' y X=>?_⟩,O⟩;by_cases e:j=i
   ·subst e;rw[g]at X;cases X;omega
   ·exact Y j s' O X
 ·have hii:i=ss.length:=by simp only at hge;omega
  subst hii;have hE0:HY c ss st=0:=by
   unfold HY;rw[zB];simp only[qk,mA,zU];intro s g;obtain⟨j,y⟩:=zQ g;exact Y j s (cW.1 y).1 y
  refine aG ((r.bT d id).rS rfl ?_);refine IA h r hl (λQ=>(hE Q).1) st O λv7 bb e7=>aG (((r.trans e7).bT d id).rS rfl ?_);have ab:=r.trans e7;obtain⟨hp1,kD⟩:=Hk h.pM st;refine nw (cs:=[.int .i64 0,.int .i64 st,.pointer (some ⟨B,0,none⟩)]) λv8 hz8 e8 hb8=>?_;have H:=ab.trans e8;have V:=aI.bO aa H;have hsz7:=ab.1;refine RV V hl O hp1 hb8 (λu=>by have:=u.1.2;omega) EF ⟨rfl,rfl,rfl⟩ λs' v9 e9 hr9=>aG ?_;have hb9:=e9.bT (H.bT d id) λu=>u.2.1 rfl;refine hb9.s1 aA λW gQ hb10=>?_;have J:=h.len;have A:=h.nd;simp only[zr]at A;have af:=S.lt;have hsz1:=(ev.trans e7).trans e8 |>.1;have D:∀b∈dY ps,b<U.size:=λb d=>(h.fb b d).2;have ag:∀{a b s'},gW v8 a b c s'->¬(Cut F U a/\a≠p/\a∉dY ps)->¬(Cut F U b/\b≠p/\b∉dY ps)->a≠p->b≠p->gW W a b c s':=λhS n1 n2 m1 m2=>(hS.bS e9 n1 n2).bS gQ.ext m1 m2;have hnew:=((S.bO ev).bO e7).bO e8;have ad:dP (ps.take (Ze ss st)++(B,K)::ps.drop (Ze ss st)) (ss.take (Ze ss st)++⟨st,List.replicate c.n false⟩::ss.drop (Ze ss st)) =
   (dP ps ss).take (3*Ze ss st)++[.int .i64 0,.int .i64 st,.pointer (some ⟨B,0,none⟩)]++(dP ps ss).drop (3*Ze ss st):=by
   rw[KX (by simp[J])];have w:dP ps ss=dP (ps.take (Ze ss st)) (ss.take (Ze ss st))++dP (ps.drop (Ze ss st)) (ss.drop (Ze ss st)):=by
    rw[←KX (by simp[J]),nH,nH]
   have h2:(dP (ps.take (Ze ss st)) (ss.take (Ze ss st))).length=3*Ze ss st:=by rw[QQ (by simp[J]),zZ];omega
   rw[w,yn h2,List.drop_left' h2,j3];have:cG.many ⟨st,List.replicate c.n false⟩=0:=by simp[cG.many,xf]
   simp[dP,this]
  refine h0 hE0 W (ps.take (Ze ss st)++(B,K)::ps.drop (Ze ss st)) ?_ ?_
  ·refine(((bK.to H).trans (e9.sub λb d=>d.1.1))).trans (gQ.ext.sub λb d=>d▸h.fp.1)
  ·have C:(dY (ps.take (Ze ss st)++(B,K)::ps.drop (Ze ss st))).Perm (B::K::dY ps):=by
    have:dY ps=dY (ps.take (Ze ss st))++dY (ps.drop (Ze ss st)):=by
     conv=>lhs;rw[←nH (Ze ss st) ps]
     simp only[dY,List.flatMap_append]
    rw[this];have h3:dY (ps.take (Ze ss st)++(B,K)::ps.drop (Ze ss st))=dY (ps.take (Ze ss st))++B::K::dY (ps.drop (Ze ss st)):=by simp[dY]
    rw[h3];exact List.perm_middle.trans ((List.perm_middle).cons B)
   have P:∀b,b∈dY (ps.take (Ze ss st)++(B,K)::ps.drop (Ze ss st))↔b=B\/b=K\/b∈dY ps:=by
    intro b;rw[C.mem_iff];simp
   refine⟨⟨s',hb10,?_⟩,λi x s z g=>?_,.inl h.fp.1,λb d=>?_,?_,?_,hc,?_⟩
   ·rw[GE,ad];refine aI.bS (aI.mono hr9 λb _ d=>?_) gQ.ext λb _ d he=>d.2.1 he;rw[P];rcases d with d|d
    ·exact⟨.inl d.1.1,d.2.1,λu=>by
      rcases u with h|h|h
      ·have:=d.1.2;omega
      ·have:=d.1.2;omega
      ·exact d.2.2 h⟩
    ·exact⟨.inr O,O,λu=>by
      rcases u with h|h|h
      ·omega
      ·omega
      ·have:=D b h;omega⟩
   ·rw[GE]at g;have M:(ps.take (Ze ss st)).length=Ze ss st:=by rw[zZ];omega
    have L:(ss.take (Ze ss st)).length=Ze ss st:=by rw[zZ];omega
    have ac:∀j:Nat,ps[j]?=some x->ss[j]?=some s->gW W x.1 x.2 c s:=λj w h2=>by
     have G:=Qd w;exact ag ((h.sp j x s w h2).bO H) (λu=>u.2.2 G.1) (λu=>u.2.2 G.2) (λe=>A.1 (e▸G.1)) (λe=>A.1 (e▸G.2))
    rcases px i (Ze ss st)with hlt'|heq|hgt
    ·rw[ze O,zj,zC hlt']at z g;exact ac i z g
    ·rw[zp O]at z g;rw[M,heq,qt]at z;rw[L,heq,qt]at g;simp at z g;subst z;subst g;exact ag hnew (λu=>by have:=u.1.2;simp only at this;omega) (λu=>by have:=u.1.2;simp only at this;omega) aC aC
    ·rw[zp O]at z g;rw[M]at z;rw[L]at g;obtain⟨k,hk⟩:∃k,i-Ze ss st=k+1:=⟨i-Ze ss st-1,O⟩;rw[hk,BX,kO]at z g;exact ac _ z g
   ·rcases(P b).1 d with w|w|w
    ·subst w;exact .inr hpn
    ·subst w;exact .inr hqn
    ·exact .inl (h.fb b w).1
   ·simp only[zr];refine⟨λG=>?_,?_⟩
    ·rcases(P p).1 G with w|w|w
     ·omega
     ·omega
     ·exact A.1 w
    ·rw[C.nodup_iff];simp only[zr,zW,not_or];have Q:=S.ne;exact⟨⟨Q,λG=>by have:=D _ G;omega⟩,λG=>by have:=D _ G;omega,A.2⟩
   ·rw[GE];simp[J]
   ·rw[GE];rw[pA];have N:=h.pM;refine⟨N.sublist (B2 _ _),qR.2 ⟨λs g=>?_,N.sublist (List.drop_sublist _ _)⟩,λa ha b d=>?_⟩
    ·obtain⟨j,y⟩:=zQ g;rw[kO]at y;have w:=kD _ s y;have h2:s.st≠st:=λe=>by
      have:=Y (Ze ss st+j) s (cW.1 y).1 y;rw[e]at this;simp at this;omega
     show st<s.st;omega
    ·obtain⟨i,Z⟩:=zQ ha;rw[zj]at Z;split at Z
     ·rename_i hlt';have hat:=(kD i a Z).2 hlt';rcases zW.1 d with rfl|d
      ·exact hat
      ·obtain⟨j,y⟩:=zQ d;rw[kO]at y;obtain⟨hi1,hi2⟩:=cW.1 Z;obtain⟨hj1,hj2⟩:=cW.1 y;have:=mg.1 N i (Ze ss st+j) hi1 hj1 O;rw[hi2,hj2]at this;exact this
     ·cases Z
end Go.Ar
namespace Go.Proofs
open Go.Vc
set_option maxRecDepth 100000
def Xc.h:Hn:=.q .o1 (.q (.cR (.seq [.op,.op,.op,.cX true 5 (RI.ops 5),.op])) .l)
def Xc.v (a:R2)(b:Hp)(c:aO):Prop:=bW (λd e=>c d e) λf=>If (!a.isNone) (bD a 0 b λh=>f (decide (h>0)) b) (f false b)
theorem Xc.o {a b c}(d:Xc.v a b c):Xc.c a b c:=Wa Tryz.func180 (x:=Xc.h) (R0 d)
def ZG.h:Hn:=.q .o2 (.q (.q (.cR (.seq [.op,.op,.op,.cX false 2 [.op,.op],.op,.cX false 2 [.op,.op],.op,.cX false 2 [.op,.op]])) .aJ) (.q .o6 .l))
def ZG.v (a b:Int)(c:Hp)(d:Option Addr->Int->Hp->Prop):Prop:=bW (λe f=>bW (λg h=>bW (λi j=>If i (d none 1 j) (aV #[.I a,.I b,.I 0,.slice none 0 0] 266 j λk l=>d (some k) 0 l)) λm=>If g (m true h) (m (decide (b>8)) h)) λn=>If e (n true f) (n (decide (b<0)) f)) λo=>If (a<1) (o true c) (o (decide (a>32)) c)
theorem ZG.o {a b c d}(e:ZG.v a b c d):ZG.c a b c d:=Wa Tryz.func200 (x:=ZG.h) (R0 e)
def WA.h:Hn:=.q .o2 (.q (.k (.q .o4 (.c .aL (.q .o7 .aJ)))) (.q .o7 (.q .o8 (.q .gQ (.q .gQ (.q .o3 .l))))))
def WA.v (a:R2)(b:Hp)(c:Sl->Int->Hp->Prop):Prop:=Xc.c a b λd e=>If (!d) (c ⟨none,0,0⟩ 5 e) (bE a 3 e λg=>If (((g.len:Nat):Int)==0) (c ⟨none,0,0⟩ 4 e) (bE a 3 e λi=>bL (((i.len:Nat):Int)-1) λj=>bE a 3 e λl=>Ix l.a l.len j 1 λm=>jr m e λn=>bE a 3 e λp=>eX p 1 0 j (p.cap:Nat) λq=>bU a λr=>aR r 3 (.slice q.a q.len q.cap) e λs=>bD a 2 s λu=>bU a λv=>aR v 2 (.I (if j<u then j else u)) s λw=>c n 0 w))
theorem WA.o {a b c}(d:WA.v a b c):WA.c a b c:=Wa Tryz.func207 (x:=WA.h) (R0 d)
def WY.h:Hn:=.q .o2 (.q (.k (.q .o4 (.c .aL (.q .o8 (.c .aL (.q (.oq 11) .aJ)))))) (.q (.cR (.held true [8,11] (.tk [0,1,2,3,4,5] (.all [(6,.all [(7,.all [(8,.take 9 (.take 10 (.all [(11,.done)])))])])])))) .aL))
def WY.v (a:R2)(b:Sl)(c:Hp)(d:Bool->Int->Hp->Prop):Prop:=Xc.c a c λe f=>If (!e) (d false 5 f) (bD a 0 f λh=>If (((b.len:Nat):Int) != h) (d false 1 f) (bE a 3 f λj=>bD a 1 f λl=>If (((j.len:Nat):Int)≥l) (d false 0 f) (eL f λm=>bU a λn=>aT m n 3 λo=>WC.c b f λp q=>And (m q) <| aV #[.slice p.a p.len p.cap] 34 q λr s=>And (m s) <| App o 1 24 34 [.slice none 0 0] ⟨some r,1,1⟩ s λt u=>bU a λv=>aR v 3 (.slice t.a t.len t.cap) u λw=>d true 0 w)))
theorem WY.o {a b c d}(e:WY.v a b c d):WY.c a b c d:=Wa Tryz.func266 (x:=WY.h) (R0 e)
end Go.Proofs
namespace Go.Ar
open Go Go.Vc Go.Proofs
variable {U:Hp}{F:Rg}{p batch room:Nat}{t:gD}
def pw (s:Sl):Value:=.slice s.a s.len s.cap
def Wo (xs:List Int):List Value:=xs.map (Value.int .i64)
theorem Vv {l:List Int}:∀v∈Wo l,dQ v=true:=by
 intro v hv;simp only[Wo,zE]at hv;obtain⟨x,_,rfl⟩:=hv;rfl
def qJ (sls:List Sl)(bs:List (List Int))(U:Hp)(D:Rg):Prop:=sls.length=bs.length/\∀(i:Nat) s xs,sls[i]?=some s->bs[i]?=some xs->cU s 1 (Wo xs) U D/\s.len<=s.cap
theorem qJ.loc (sls:List Sl)(bs:List (List Int)):dL (qJ sls bs):=λU j F G h e g=>⟨h.1,λi s d a b=>⟨cU.loc _ _ _ _ _ _ _ (h.2 i s d a b).1 e g,(h.2 i s d a b).2⟩⟩
def Dj (sls:List Sl):Prop:=sls.Pairwise λs t=>∀a a',s.a=some a->t.a=some a'->a.block≠a'.block
def kC (s:Sl)(b:Nat):Prop:=∃a,s.a=some a/\a.block=b
theorem _root_.Go.Vc.cU.lF {s:Sl}{sz:Nat}{xs:List Value}{D:Rg}(h:cU s sz xs U D):cU s sz xs U λb=>D b/\kC s b:=
 ⟨h.1,h.2.imp id λ⟨b,o,e,d,a,r⟩=>⟨b,o,e,⟨d,_,a,rfl⟩,a,r⟩⟩
theorem _root_.Go.Vc.cU.bT {s:Sl}{sz:Nat}{xs:List Value}{D:Rg}(h:cU s sz xs U D)(hx:xs≠[]){b:Nat}(hb:kC s b):D b/\b<U.size:=by
 rcases h.2 with h0|⟨b',o,cs,hq,ha,hc,_⟩
 ·exact absurd h0 hx
 ·obtain⟨a,d,rfl⟩:=hb;rw[ha]at d;cases d;exact⟨hq,hc.lt⟩
theorem Dj.snoc {sls:List Sl}{bs:List (List Int)}{D:Rg}{z:Nat}{s':Sl}{xs:List Value}{v:Hp}(h:Dj sls)(hB:qJ sls bs U D)(hne:∀xs∈bs,xs≠[])(hz:∀b,D b->b<z)(hs:bR s' 1 xs v λb=>z<=b)(hx:xs≠[]):Dj (sls++[s']):=by
 refine pA.2 ⟨h,List.pairwise_singleton _ _,λs e u m a w p x=>?_⟩;rw[zN]at m;subst m;obtain⟨i,j⟩:=zQ e;have g:=(cW.1 j).1;have d:bs[i]?=some (bs[i]'(by rw[←hB.1];exact g)):=cV _;have r:=((hB.2 i s _ j d).1.bT (by simp only[Wo,ne_eq,xF];exact hne _ (zG d)) ⟨a,p,rfl⟩).1;have y:=(hs.gZ.bT hx ⟨w,x,rfl⟩).1;have:=hz _ r;omega
structure jl (U:Hp) (F:Rg) (p batch room:Nat) (t:gD):Prop where
 mem:∃(sl:Sl) (sls:List Sl) (D:Rg),bY U p [.int .i64 (batch:Int),.int .i64 (room:Int),.int .i64 (t.low:Int),.slice sl.a sl.len sl.cap]/\bR sl 1 (sls.map pw) U (λb=>F b/\b≠p/\¬D b)/\qJ sls t.bs U D/\(∀b,D b->F b/\b≠p)/\Dj sls
 fp:F p
 b1:1<=batch/\batch<=32
 r1:room<=8
 pt:t.bs.length<=room
 low:t.low<=t.bs.length
 all:∀xs∈t.bs,xs.length=batch
theorem jl.loc:dL λU F=>jl U F p batch room t:=λU x F G h m d=>by
 obtain⟨sl,j,D,a,s,w,i,u⟩:=h.mem;refine⟨⟨sl,j,λb=>D b/\b<U.size,?_,?_,?_,λb a=>⟨(d b a.2 (i b a.1).1).1,(i b a.1).2⟩,u⟩,(d p a.lt h.fp).1,h.b1,h.r1,h.pt,h.low,h.all⟩
 ·obtain⟨e,r⟩:=a;exact⟨e,(d p (bY.lt ⟨e,r⟩) h.fp).2.trans r⟩
 ·exact bR.loc _ _ _ _ _ _ _ s m λb a g=>⟨⟨(d b a g.1).1,g.2.1,λhd=>g.2.2 hd.1⟩,(d b a g.1).2⟩
 ·exact qJ.loc _ _ _ _ _ _ w m λb a hd=>⟨⟨hd,a⟩,(d b a (i b hd).1).2⟩
theorem yP (h:jl U F p batch room t){R:aO}(hR:R true U):Xc.c (aW p) U R:=by
 refine Xc.o ?_;unfold Xc.v;obtain⟨sl,b,D,a,_⟩:=h.mem;have:=h.b1;refine bW.intro (cE rfl (aG (a.rI rfl ?_)));rw[zJ O];exact hR
theorem _root_.Go.Vc.cU.OJ {s:Sl}{F:Rg}{sls:List Sl}(h:cU s 1 (sls.map pw) U F){i:Nat}{x:Sl}(hx:sls[i]?=some x){K:Sl->Prop}(hK:K x):Ix s.a s.len (i:Int) 1 λa=>jr a U K:=by
 have m:=(cW.1 hx).1;obtain⟨b,o,e,g⟩:=h.cell (j:=i) (v:=pw x) (by simp[hx]);have d:=h.1;rw[zl]at d;rw[e];refine ix O O ?_;rw[add_lit];exact nO (by simpa[pw]using g) hK
theorem Lq (h1:1<=batch)(h2:batch<=32)(h3:room<=8){R:Option Addr->Int->Hp->Prop}(hR:∀σ' p,bK U σ'->U.size<=p->p<σ'.size->jl σ' (· = p) p batch room ⟨0,[]⟩->R (some ⟨p,0,none⟩) 0 σ'):ZG.c batch room U R:=by
 refine ZG.o ?_;unfold ZG.v;refine bW.intro (fR O (bW.intro (fR O (bW.intro (fR O (fR O ?_))))));refine nw (cs:=[.int .i64 batch,.int .i64 room,.int .i64 0,.slice none 0 0]) λv d e a=>?_;exact hR v _ e (zD _) O ⟨⟨⟨none,0,0⟩,[],λ_=>False,a,bR.nil _ _ _ _,⟨rfl,λi s g h=>by simp at h⟩,λb h=>h.elim,List.Pairwise.nil⟩,rfl,⟨h1,h2⟩,h3,by simp,by simp,by simp⟩
theorem Ly (h:jl U F p batch room t){sl:Sl}{xs:List Int}{X:Rg}(hs:cU sl 1 (Wo xs) U X)(hl:xs.length<=1000000){R:Bool->Int->Hp->Prop}(h1:xs.length≠batch->R false 1 U)(h2:xs.length=batch->room<=t.bs.length->R false 0 U)
 (h3:xs.length=batch->t.bs.length<room->∀σ',Ext F U σ'->jl σ' (Grow F U) p batch room {t with bs:=t.bs++[xs]}->R true 0 σ'):WY.c (aW p) sl U R:=by
 refine WY.o ?_;unfold WY.v;have h:=jl.loc.cut h;obtain⟨C,A,D,d,hr,B,K,hJ⟩:=h.mem;have r:sl.len=xs.length:=by have:=hs.1;simp[Wo]at this;omega
 have hso:C.len=t.bs.length:=by have:=hr.1;rw[zl,B.1]at this;omega
 have hr8:=h.r1;have hb1:=h.b1;refine yP h (cB rfl (aG (d.rI rfl ?_)));rw[pR];refine cO (λw=>h1 (by rw[←r];simpa using w)) λQ=>?_;have g:xs.length=batch:=by rw[←r];simpa using Q
 refine aG (d.rS rfl (aG (d.rI rfl (cQ (λP=>h2 g (by simp only at P;omega)) λW=>?_))));simp only at W;refine⟨λh'=>bY h' p [.int .i64 (batch:Int),.int .i64 (room:Int),.int .i64 (t.low:Int),.slice C.a C.len C.cap],d,aG ⟨C,λh' L=>by rw[add_lit,L.cell];rfl,?_⟩⟩;refine UX hs Vv O λz v1 hl1 e1 y=>⟨e1.bT d id,?_⟩;refine nw (cs:=[.slice z.a z.len z.cap]) λv2 hz2 e2 V=>⟨(e1.trans e2).bT d id,?_⟩;have N:=aI.bO (aI.bO hr e1) e2;refine N.app (ys:=[pw z]) rfl rfl ?_ (by simp[dQ,pw]) ?_ ?_ mO λs2 v3 hl3 Y M=>aG ?_
 ·intro j u hu;rw[add_lit,zH,V.cell];exact hu
 ·simp only;have:(C.len+1)*24<=9*24:=lW O O;omega
 ·simp only;omega
 ·have Z:=Y.bT ((e1.trans e2).bT d id) λE=>E.2.1 rfl;have hplt:=d.lt;have hs1:=e1.1;refine Z.s1 aA λv4 o4 aa=>h3 g O v4 ?_ ?_
  ·exact((bK.to (e1.trans e2)).trans (Y.sub λb d=>d.1.1)).trans (o4.ext.sub λb d=>d▸h.fp.1)
  ·refine⟨⟨s2,A++[z],λb=>D b/\b<U.size\/U.size<=b/\b<v1.size,aa,?_,⟨by simp[B.1],λi s ys x m=>?_⟩,λb d=>?_,?_⟩,.inl h.fp.1,h.b1,h.r1,by simp;omega,by have:=h.low;simp;omega,λys m=>?_⟩
   ·rw[jY];refine aI.bS (aI.mono M λb _ d=>?_) o4.ext λb _ d S=>d.2.1 S;rcases d with d|d
    ·exact⟨.inl d.1.1,d.2.1,λhd=>by
      rcases hd with hd|hd
      ·exact d.2.2 hd.1
      ·have:=d.1.2;omega⟩
    ·exact⟨.inr O,O,λhd=>by rcases hd with hd|hd<;>omega⟩
   ·have mv:∀{s:Sl} {ys:List Int} {G:Rg},cU s 1 (Wo ys) v2 G->(∀b,G b->b≠p/\¬(Cut F U b/\b≠p/\¬D b))->cU s 1 (Wo ys) v4 G:=λL hn=>
     aH.bS (aH.bS L Y λb _ d=>(hn b d).2) o4.ext λb _ d S=>(hn b d).1 S
    rcases kr i A.length with hi'|hi'
    ·rw[ze hi']at x;rw[ze (by rw[←B.1];exact hi')]at m;obtain⟨k1,k2⟩:=B.2 i s ys x m;refine⟨aH.mono (mv (aH.bO (aH.bO (aH.mono k1 (G:=λb=>D b/\b<U.size) λb d hd=>⟨hd,d⟩) e1) e2) λb hd=>⟨(K b hd.1).2,λE=>E.2.2 hd.1⟩) λb _ hd=>.inl hd,k2⟩
    ·rw[zp hi']at x;rw[zp (by rw[←B.1];exact hi')]at m;have H:i-A.length=0:=by
      have:=(cW.1 x).1;simp at this;omega
     rw[H]at x;rw[show i-t.bs.length=0 by rw[←B.1];exact H]at m;simp at x m;subst x;subst m;have J:z.len<=z.cap:=by
      rcases y.2 with⟨q1,q2⟩|⟨_,_,_,_,_,q,_⟩
      ·omega
      ·exact q
     refine⟨aH.mono (mv (aH.bO (aH.mono y.gZ (G:=λb=>U.size<=b/\b<v1.size) λb d hd=>⟨hd,d⟩) e2) λb hd=>⟨O,λE=>by have:=E.1.2;omega⟩) λb _ hd=>.inr hd,J⟩
   ·rcases d with hd|hd
    ·exact⟨.inl (K b hd.1).1.1,(K b hd.1).2⟩
    ·exact⟨.inr hd.1,O⟩
   ·have w:∀ys∈t.bs,ys≠[]:=λys m e=>by have:=jl.all ‹_› ys m;rw[e]at this;simp at this;omega
    exact hJ.snoc B w (λb hd=>(K b hd).1.2) y (by simp only[Wo,ne_eq,xF];intro e;rw[e]at g;simp at g;omega)
   ·rcases zK.1 m with h|h
    ·exact jl.all ‹_› ys h
    ·simp at h;subst h;exact g
theorem N3 (h:jl U F p batch room t)(h0:t.bs=[]){R:Sl->Int->Hp->Prop}(hR:R ⟨none,0,0⟩ 4 U):WA.c (aW p) U R:=by
 refine WA.o ?_;unfold WA.v;obtain⟨b,e,D,d,g,i,m,j⟩:=h.mem;have a:b.len=t.bs.length:=by have:=g.1;rw[zl,i.1]at this;omega
 refine yP h (cB rfl (aG (d.rS rfl (cE ?_ hR))));simp[a,h0]
theorem Lg (h:jl U F p batch room t)(h0:t.bs≠[]){R:Sl->Int->Hp->Prop}(hR:∀out σ',Ext F U σ'->(∀b,kC out b->F b)->cU out 1 (Wo (t.bs.getLast?.getD [])) σ' (kC out)->out.len<=out.cap->jl σ' (λb=>F b/\¬kC out b) p batch room t.rem->R out 0 σ'):WA.c (aW p) U R:=by
 refine WA.o ?_;unfold WA.v;obtain⟨M,g,D,d,J,z,B,Y⟩:=h.mem;have hso:M.len=t.bs.length:=by have:=J.1;rw[zl,z.1]at this;omega
 have aa:=pI.2 h0;have hr8:=h.r1;have ac:=h.pt;have X:=h.low;have N:t.bs.length-1<g.length:=by rw[z.1];omega
 obtain⟨o,P⟩:∃o,g[t.bs.length-1]?=some o:=⟨_,cV N⟩;have j:t.bs[t.bs.length-1]?=some (t.bs.getLast?.getD []):=by
  rw[List.getLast?_eq_getElem?,cV O];rfl
 obtain⟨Z,k2⟩:=z.2 _ o _ P j;refine yP h (cB rfl (aG (d.rS rfl (cB ?_ ?_))))
 ·simp only[mj];omega
 refine aG (d.rS rfl (cP (m:=t.bs.length-1) aC O (aG (d.rS rfl ?_))));refine J.gZ.OJ P (aG (d.rS rfl ?_));have ab:M.len<=M.cap:=by
  rcases J.2 with⟨q1,q2⟩|⟨_,_,_,_,_,q,_⟩
  ·omega
  ·exact q
 refine iR (lo:=0) O aD aD (aG (d.s1 aA λv1 o1 E=>aG (E.rI rfl (aG ?_))))
 refine E.s1 aA λv2 o2 u=>?_;have r:Ext (· = p) U v2:=o1.ext.trans o2.ext;have C:(if((t.bs.length-1:Nat):Int)<(t.low:Int)then((t.bs.length-1:Nat):Int)else(t.low:Int))=((min t.low (t.bs.length-1):Nat):Int):=by split<;>omega
 rw[C]at u;have K:∀A∈t.bs,A≠[]:=λA w e=>by have W:=h.all A w;have h2:=h.b1;rw[e]at W;simp at W;omega
 have y:∀b,kC o b->D b:=λb d=>(Z.bT (by simp only[Wo,ne_eq,xF];exact K _ (zG j)) d).1;refine hR o v2 (r.sub λb d=>d▸h.fp) (λb d=>(B b (y b d)).1) (aH.mono (aH.bS Z r λb _ d G=>(B b d).2 G).lF λb _ hd=>hd.2) k2 ⟨⟨_,g.dropLast,λb=>D b/\¬kC o b,u,?_,⟨by simp[z.1,gD.rem],λi s A H w=>?_⟩,λb hd=>⟨⟨(B b hd.1).1,hd.2⟩,(B b hd.1).2⟩,List.Pairwise.sublist (List.dropLast_sublist _) Y⟩,⟨h.fp,λd=>(B p (y p d)).2 rfl⟩,h.b1,h.r1,by simp[gD.rem];omega,by simp[gD.rem];omega,λA w=>h.all A (List.dropLast_subset _ w)⟩
 ·refine aI.bS ?_ r λb _ d G=>d.2.1 G;refine⟨by simp[z.1],?_⟩;rcases J.2 with⟨q1,q2⟩|⟨b,cs,hq,L,hbb,hle,hcl,ht⟩
  ·omega
  ·refine .inr ⟨b,cs,⟨⟨hq.1,λd=>hq.2.2 (y b d)⟩,hq.2.1,λhd=>hq.2.2 hd.1⟩,?_,hbb,by simp only;omega,by simp only;omega,?_⟩
   ·simp only[L];split<;>simp[add_lit]
   ·simp only[zl]at ht ⊢;have hd:g.dropLast.map pw=(g.map pw).take (g.length-1):=by rw[xS,List.map_take]
    rw[hd,←ht,xI,BN]
    congr 1;omega
 ·have x:i<t.bs.length-1:=by
   have:=(cW.1 w).1;simpa[gD.rem]using this
  rw[xS,zj]at H;simp only[gD.rem,xS,zj]at w;rw[zC (by rw[z.1];exact x)]at H;rw[zC x]at w;obtain⟨m1,m2⟩:=z.2 i s A H w;refine⟨aH.mono (aH.bS m1 r λb _ d G=>(B b d).2 G).lF λb _ d=>⟨d.1,λu=>?_⟩,m2⟩;obtain⟨a,L,e1⟩:=d.2;obtain⟨a',S,e2⟩:=u;obtain⟨Q,rfl⟩:=cW.1 H;obtain⟨V,rfl⟩:=cW.1 P;exact mg.1 Y i _ Q V x a a' L S (e1.trans e2.symm)
def wk (out:Sl)(bs:List (List Int))(U:Hp)(G:Rg):Prop:=∃sls:List Sl,cU out 1 (sls.map pw) U G/\qJ sls bs U G
theorem wk.loc (out:Sl)(bs:List (List Int)):dL (wk out bs):=λU i F G ⟨a,e,g⟩ b d=>⟨a,cU.loc _ _ _ _ _ _ _ e b d,qJ.loc _ _ _ _ _ _ g b d⟩
end Go.Ar
namespace Go.Ar
open Go Go.Vc Go.Proofs
open Go.Bu (Za)
variable {U:Hp}{F:Rg}{p:Nat}{ow:Nat->Nat}
def uu (ow:Nat->Nat)(x:Nat)(l:List (Nat×Nat×Nat)):Prop:=
 l.length<=x/\(∀r∈l,1<=r.2.1/\r.1+r.2.1<=x/\∀y,r.1<=y->y<r.1+r.2.1->ow y=r.2.2)/\∀y,y<x->ow y≠0->∃r∈l,r.1<=y/\y<r.1+r.2.1
theorem uu.new {x:Nat}{l:List (Nat×Nat×Nat)}(h:uu ow x l):uu ow (x+1) (l++[(x,1,ow x)]):=by
 refine⟨by simp;exact h.1,λr b=>?_,λy g e=>?_⟩
 ·rcases zK.1 b with a|a
  ·exact⟨(h.2.1 r a).1,by have:=(h.2.1 r a).2.1;omega,(h.2.1 r a).2.2⟩
  ·simp at a;subst a;exact⟨zD _,zD _,λy a d=>by simp only at a d ⊢;rw[show y=x by omega]⟩
 ·rcases kr y x with a|a
  ·obtain⟨r,b,d⟩:=h.2.2 y a e;exact⟨r,kv _ b,d⟩
  ·exact⟨(x,1,ow x),by simp,by simp only;omega⟩
theorem uu.more {x a m no:Nat}{l:List (Nat×Nat×Nat)}(h:uu ow x (l++[(a,m,no)]))(he:a+m=x)(hno:ow x=no):uu ow (x+1) (l++[(a,m+1,no)]):=by
 refine⟨by have:=h.1;simp at this ⊢;omega,λr e=>?_,λy i g=>?_⟩
 ·rcases zK.1 e with b|b
  ·have:=h.2.1 r (kv _ b);exact⟨this.1,O,this.2.2⟩
  ·simp at b;subst b;have:=h.2.1 (a,m,no) aA;refine⟨by simp only;omega,by simp only;omega,λy b d=>?_⟩;simp only at b d ⊢;rcases kr y (a+m)with h3|h3
   ·exact this.2.2 y b h3
   ·rw[show y=x by omega];exact hno
 ·rcases kr y x with b|b
  ·obtain⟨r,e,d⟩:=h.2.2 y b g;rcases zK.1 e with h3|h3
   ·exact⟨r,kv _ h3,d⟩
   ·simp at h3;subst h3;exact⟨(a,m+1,no),by simp,by simp only at d ⊢;omega⟩
  ·exact⟨(a,m+1,no),by simp,by simp only;have:=h.2.1 (a,m,no) aA;simp only at this;omega⟩
end Go.Ar
namespace Go.Proofs
open Go.Vc
set_option maxRecDepth 100000
def Yf.h:Hn:=.q .o1 (.q (.q .o4 (.q .o2 .aJ)) (.q .o5 .aM))
def Yf.v (a:R2)(b c:Int)(d:Hp)(e:aN):Prop:=Xm.c a b 1 d λf g=>If (f != 0) (e f g) (Nz 8<|bL (b.tdiv 8) λh=>YS.c a h c g λi=>e 0 i)
theorem Yf.o {a b c d e}(f:Yf.v a b c d e):Yf.c a b c d e:=Wa Tryz.func62 (x:=Yf.h) (R0 f)
def YA.h:Hn:=.q .o2 (.q (.q .o4 (.q .o2 (.c (.q .o3 .l) .l))) (.q .o6 .l))
def YA.v (a:R2)(b:Int)(c:Hp)(d:Int->Int->Hp->Prop):Prop:=Xm.c a b 1 c λe f=>If (e != 0) (d 0 e f) (Nz 8<|bL (b.tdiv 8) λg=>YY.c a g f λh i=>d h 0 i)
theorem YA.o {a b c d}(e:YA.v a b c d):YA.c a b c d:=Wa Tryz.func83 (x:=YA.h) (R0 e)
def Xm.h:Hn:=.q .o1 (.q (.k (.q .o4 (.c .aM (.q .o3 (.c .aM (.q (.cR (.seq [.op,.op,.op,.cX false 3 (RI.ops 3),.op])) .aK)))))) (.q .gQ (.q (.q (.cR (.hO true [] [(50,.one .b)] (.tk [0,1,2,3,4,5,6,7] (.split 39 (.tk [8,9,10,11,12,13,14,15,16,17,18] (.done)) (.tk [8,9,10,11,12,13,14,15,16] (.all [(17,.take 18 (.done))])))))) .aK) .aM)))
def Xm.v (a:R2)(b c:Int)(d:Hp)(e:aN):Prop:=Xv.c a d λf g=>If (!f) (e 5 g) (If (c==0) (e 0 g) (bW (λh i=>If h (e 7 i) (Nz 256<|bL (b.tdiv 256) λj=>Nz 8<|bL (b.tdiv 8) λk=>bL (k+c) λl=>bL (l-1) λm=>Nz 32<|bL (m.tdiv 32) λn=>Jn [.b] (λ(o:Bool) p=>If o (e 7 p) (e 0 p)) λq=>eL i λr=>bU a λs=>aT r s 0 λt=>If (n≥((t.len:Nat):Int)) (q true i) (bU a λu=>aT r u 0 λv=>bL (n+1) λw=>eX v 2 j w (v.cap:Nat) λx=>gC r .b ((Addr.mk 0 0 none).add 0) λ(y:Bool)=>gC r .b ((Addr.mk 0 0 none).add 1) λ(z:Bool)=>Wj.c x y z i λaa ab=>And (r ab) <| q aa ab))) λac=>If (b<0) (ac true g) (Nz 8 <| ac ((b.tmod 8) != 0) g)))
theorem Xm.o {a b c d e}(f:Xm.v a b c d e):Xm.c a b c d e:=Wa Tryz.func88 (x:=Xm.h) (R0 f)
def YS.h:Hn:=.q .o3 (.ka [] (.q (.oq 9) (.c (.q (.cR (.tail 7 (RI.ops 7) [.op])) (.q (.cR (.held true [6] (.tk [0,1,2,3,4] (.all [(5,.all [(6,.done)])])))) (.cR (.tail 13 (RI.ops 13) [.op])))) .l)) (.o 11))
def YS.v (a:R2)(b c:Int)(d:Hp)(e:aP):Prop:=Nz 32<|bL (b.tdiv 32) λf=>Jn [] (λg=>bI a 1 g λi=>Lk .i64 .s i f g λj=>Nz 32 <| Ix (j.getD ⟨none,0,0⟩).a (j.getD ⟨none,0,0⟩).len (b.tmod 32) 1 λk=>dW k (.I c) g λl=>e l) λm=>bE a 0 d λo=>Ix o.a o.len f 2 λp=>aZ p 0 d λq=>aZ p 1 d λr=>lC ((Addr.mk 1 0 none).add 0) d λs=>lC ((Addr.mk 1 0 none).add 1) d λt=>If (!((q==s)&&((r==t)&&true))) (bE a 0 d λv=>lC ((Addr.mk 1 0 none).add 0) d λw=>lC ((Addr.mk 1 0 none).add 1) d λx=>Ix v.a v.len f 2 λy=>aR y 0 (.bool w) d λz=>aR y 1 (.bool x) z λaa=>eL aa λab=>bU a λac=>gC ab .m (ac.add 1) λ(ad:Option Nat)=>Mk 32 32 8 3 [.I 0] aa λae af=>And (ab af) <| ke .i64 .s ad f ae af λag=>bD a 2 ag λai=>bI a 1 ag λak=>qG .i64 .s ak ag λal=>bU a λam=>aR am 2 (.I (if al>ai then al else ai)) ag λan=>m an) (m d)
theorem YS.o {a b c d e}(f:YS.v a b c d e):YS.c a b c d e:=Wa Tryz.func89 (x:=YS.h) (R0 f)
def XA.h:Hn:=.q .o1 (.q (.q .o3 .aK) (.q .o6 .l))
def XA.v (a:R2)(b:Hp)(c:aN):Prop:=Xv.c a b λd e=>If (!d) (c 0 e) (bE a 0 e λg=>c ((g.len:Nat):Int) e)
theorem XA.o {a b c}(d:XA.v a b c):XA.c a b c:=Wa Tryz.func108 (x:=XA.h) (R0 d)
def Xv.h:Hn:=.q .o1 (.q (.cR (.seq [.op,.op,.op,.cX true 6 (RI.ops 6),.op])) .l)
def Xv.v (a:R2)(b:Hp)(c:aO):Prop:=bW (λd e=>c d e) λf=>If (!a.isNone) (bE a 0 b λh=>f (decide (((h.len:Nat):Int)>0)) b) (f false b)
theorem Xv.o {a b c}(d:Xv.v a b c):Xv.c a b c:=Wa Tryz.func109 (x:=Xv.h) (R0 d)
def YY.h:Hn:=.q .o1 (.q (.q (.o 12) (.q .o1 (.c (.q .o6 .l) .l))) .aM)
def YY.v (a:R2)(b:Int)(c:Hp)(d:aN):Prop:=bI a 1 c λf=>Nz 32<|bL (b.tdiv 32) λg=>Lk .i64 .s f g c λh=>If h.isSome (Nz 32 <| Ix (h.getD ⟨none,0,0⟩).a (h.getD ⟨none,0,0⟩).len (b.tmod 32) 1 λi=>bM i c λj=>d j c) (d 0 c)
theorem YY.o {a b c d}(e:YY.v a b c d):YY.c a b c d:=Wa Tryz.func117 (x:=YY.h) (R0 e)
def QM.h:Hn:=.q .o2 (.q (.q (.cR (.seq [.op,.op,.op,.cX false 2 [.op,.op]])) .aJ) (.q .o7 .l))
def QM.v (a:Int)(b:Hp)(c:Option Addr->Int->Hp->Prop):Prop:=bW (λd e=>If d (c none 1 e) (Mk a a 2 161 [.bool false,.bool false] e λf g=>Nw (.map #[] 0) g λh i=>aV #[.slice f.a f.len f.cap,.map (some h.block),.I 0] 165 i λj k=>c (some j) 0 k)) λl=>If (a<1) (l true b) (l (decide (a>1024)) b)
theorem QM.o {a b c}(d:QM.v a b c):QM.c a b c:=Wa Tryz.func142 (x:=QM.h) (R0 d)
def Y1.h:Hn:=.q .o2 (.q (.k (.q .o4 (.c .aL (.q (.cR (.seq [.op,.op,.op,.cX false 2 [.op,.op],.op,.cX false 7 (RI.ops 7),.op,.cX false 9 (RI.ops 9),.op])) .aJ)))) (.q (.o 11) .l))
def Y1.v (a:R2)(b c:Int)(d:Hp)(e:Sl->Int->Hp->Prop):Prop:=Xv.c a d λf g=>If (!f) (e ⟨none,0,0⟩ 5 g) (bW (λh i=>bW (λj k=>bW (λl m=>If l (e ⟨none,0,0⟩ 1 m) (bE a 0 m λo=>bL (b+c) λp=>eX o 2 b p (o.cap:Nat) λq=>e q 0 m)) λr=>If j (r true k) (bE a 0 k λt=>bL (((t.len:Nat):Int)-b) λu=>r (decide (c>u)) k)) λv=>If h (v true i) (bE a 0 i λx=>v (decide (b>((x.len:Nat):Int))) i)) λy=>If (b<0) (y true g) (y (decide (c<1)) g))
theorem Y1.o {a b c d e}(f:Y1.v a b c d e):Y1.c a b c d e:=Wa Tryz.func273 (x:=Y1.h) (R0 f)
def YU.h:Hn:=.q .o1 (.q .o2 (.k (.loop [(8,.I)] (.q (.q .o5 (.c .l .l)) (.q (.k (.q (.cR (.tail 7 (RI.ops 7) [.op])) .o6)) .o3)))))
def YU.v (a:R2)(b c:Int)(d e:Bool)(f:Hp)(g:aP):Prop:=aV #[.bool d,.bool e] 161 f λh i=>Yo [bN] (λj=>j b i) λk (l:Int) m=>bL (b+c) λn=>If (l<n) (bE a 0 m λp=>aZ h 0 m λq=>aZ h 1 m λr=>Ix p.a p.len l 2 λs=>aR s 0 (.bool q) m λt=>aR s 1 (.bool r) t λu=>bI a 1 u λw=>ld .i64 .s w l u λx=>bL (l+1) λy=>k y x) (g m)
theorem YU.o {a b c d e f g}(h:YU.v a b c d e f g):YU.c a b c d e f g:=Wa Tryz.func274 (x:=YU.h) (R0 h)
def YV.h:Hn:=.q .o1 (.q .o9 (.q (.k (.q .o3 (.c .aL (.q .o3 .aK)))) (.q .o5 .aM)))
def YV.v (a:R2)(b c:Int)(d:Hp)(e:aN):Prop:=Y1.c a b c d λf g h=>If (g != 0) (e g h) (Wf.c f ⟨309,#[],#[]⟩ h λi j=>If i (e 5 j) (lC ((Addr.mk 2 0 none).add 0) j λk=>lC ((Addr.mk 2 0 none).add 1) j λl=>YU.c a b c k l j λm=>e 0 m))
theorem YV.o {a b c d e}(f:YV.v a b c d e):YV.c a b c d e:=Wa Tryz.func286 (x:=YV.h) (R0 f)
def Yp.h:Hn:=.q .o2 (.q .o4 .l)
def Yp.v (a b:Bool)(c:Hp)(d:aO):Prop:=aV #[.bool a,.bool b] 161 c λe f=>aZ e 0 f λg=>aZ e 1 f λh=>lC ((Addr.mk 0 0 none).add 0) f λi=>lC ((Addr.mk 0 0 none).add 1) f λj=>d (!((g==i)&&((h==j)&&true))) f
theorem Yp.o {a b c d}(e:Yp.v a b c d):Yp.c a b c d:=Wa Tryz.func309 (x:=Yp.h) (R0 e)
end Go.Proofs
namespace Go.Ar
open Go Go.Vc Go.Proofs
open Go.Bu (Za)
variable {U:Hp}{F:Rg}{p q r:Nat}{sp:Sp}
structure Gl (U:Hp):Prop where
 c0:cell U ⟨2,0,none⟩=some (.bool true)
 c1:cell U ⟨2,1,none⟩=some (.bool false)
 u0:cell U ⟨0,0,none⟩=some (.bool false)
 u1:cell U ⟨0,1,none⟩=some (.bool false)
structure Gc (U:Hp):Prop where
 d0:cell U ⟨1,0,none⟩=some (.bool true)
 d1:cell U ⟨1,1,none⟩=some (.bool true)
structure Gd (U:Hp):Prop where
 lt:1<U.size
def iN (F:Rg):Prop:=∀b,F b->b≠2/\b≠0
theorem Q6 {h:Hp}{b o:Nat}{v:Value}(hc:cell h ⟨b,o,none⟩=some v):b<h.size:=(E6 hc).1
theorem Gl.bS {σ':Hp}(g:Gl U)(e:Ext F U σ')(hF:iN F):Gl σ':=by
 have b:¬F 2:=λh=>(hF _ h).1 rfl;have a:¬F 0:=λh=>(hF _ h).2 rfl;exact⟨(QP e (Q6 g.c0) b).trans g.c0,(QP e (Q6 g.c1) b).trans g.c1,(QP e (Q6 g.u0) a).trans g.u0,(QP e (Q6 g.u1) a).trans g.u1⟩
theorem Gc.bS {σ':Hp}(g:Gc U)(e:Ext F U σ')(hF:¬F 1):Gc σ':=⟨(QP e (Q6 g.d0) hF).trans g.d0,(QP e (Q6 g.d1) hF).trans g.d1⟩
theorem Gc.bO {σ':Hp}(g:Gc U)(e:bK U σ'):Gc σ':=g.bS e id
theorem Gd.bS {σ':Hp}(g:Gd U)(e:Ext F U σ')(hF:¬F 1):Gd σ':=⟨uC g.lt e.1⟩
theorem Gd.bO {σ':Hp}(g:Gd U)(e:bK U σ'):Gd σ':=g.bS e id
theorem Gc.gd (g:Gc U):Gd U:=⟨Q6 g.d0⟩
theorem Gl.bO {σ':Hp}(g:Gl U)(e:bK U σ'):Gl σ':=g.bS e λ_ h=>h.elim
theorem iN.grow (hF:iN F)(g:Gl U):iN (Grow F U):=λb a=>by
 rcases a with h|h
 ·exact hF b h
 ·have e:=Q6 g.c0;have d:=Q6 g.u0;exact⟨O,O⟩
theorem iN.sub {G:Rg}(hF:iN F)(h:∀b,G b->F b):iN G:=λb a=>hF b (h b a)
def fV:Nat->Bool×Bool
 | 0=>(false,false)
 | 1=>(true,false)
 | _=>(true,true)
def gK (st:List Nat):List Value:=st.flatMap λx=>[.bool (fV x).1,.bool (fV x).2]
theorem Vl (l:List Nat):(gK l).length=2*l.length:=by
 induction l with
 | nil=>rfl
 | cons x l ih=>simp only[gK,oY,zO,zY,lN]at *;omega
theorem Fa {l:List Nat}{i x:Nat}(h:l[i]?=some x):(gK l)[2*i]?=some (.bool (fV x).1)/\(gK l)[2*i+1]?=some (.bool (fV x).2):=by
 induction l generalizing i with
 | nil=>simp at h
 | cons y l ih=>
  have e:gK (y::l)=[.bool (fV y).1,.bool (fV y).2]++gK l:=by simp[gK]
  rw[e];cases i with
  | zero=>simp at h;subst h;simp
  | succ i=>
   have:=ih (i:=i) (by simpa using h);rw[show 2*(i+1)=2*i+2 by omega];simpa using this
theorem DM {l:List Nat}{i v:Nat}(h:i<l.length)(rest:List Value):((gK l++rest).set (2*i) (.bool (fV v).1)).set (2*i+1) (.bool (fV v).2)=gK (l.set i v)++rest:=by
 induction l generalizing i with
 | nil=>simp at h
 | cons y l ih=>
  have e:∀z m,gK (z::m)=.bool (fV z).1 :: .bool (fV z).2::gK m:=λz m=>by simp[gK]
  cases i with
  | zero=>simp[e]
  | succ i=>
   have:=ih (i:=i) (by simpa using h);rw[rF,e,e,show 2*(i+1)=2*i+1+1 by omega];simp only[kZ,rF];rw[this]
theorem yB {x y:Nat}(hx:x<=2)(hy:y<=2):(((fV x).1==(fV y).1)&&(((fV x).2==(fV y).2)&&true))=(x==y):=by
 match x,y,hx,hy with
 | 0,0,_,_=>rfl
 | 1,1,_,_=>rfl
 | 2,2,_,_=>rfl
 | 0,1,_,_=>rfl
 | 0,2,_,_=>rfl
 | 1,0,_,_=>rfl
 | 1,2,_,_=>rfl
 | 2,0,_,_=>rfl
 | 2,1,_,_=>rfl
theorem Q0 {α:Type}(x:Int×α)(l:List (Int×α))(k:Int):bV (x::l) k=if x.1=k then some x.2 else bV l k:=by
 unfold bV;rw[uy];by_cases h:x.1=k
 ·simp[h]
 ·have:(x.1==k)=false:=by simpa using h
  rw[this,zB h]
theorem Np {α:Type}(l:List (Int×α))(n k:Int)(v:α):bV (l.map λx=>if x.1==n then(n,v)else x) k=if k=n then(if l.any (λx=>x.1==n)then some v else none)else bV l k:=by
 induction l with
 | nil=>simp[bV]
 | cons x l ih=>
  rw[zS,Q0,ih,Q0,List.any_cons];by_cases hx:x.1=n
  ·by_cases hk:k=n
   ·subst hk;simp[hx]
   ·have:¬n=k:=λe=>hk e.symm;simp[hx,hk,this]
  ·have a:(x.1==n)=false:=by simpa using hx
   simp only[a,zc,zz,yr];by_cases hk:k=n
   ·subst hk;simp[hx]
   ·simp[hk]
theorem Mt {α:Type}(l:List (Int×α))(n k:Int)(v:α)(h:l.any (λx=>x.1==n)=false):bV (l++[(n,v)]) k=if k=n then some v else bV l k:=by
 induction l with
 | nil=>
  rw[sK,Q0];by_cases hk:k=n
  ·simp[hk]
  ·have:¬n=k:=λe=>hk e.symm;simp[hk,this,bV]
 | cons x l ih=>
  rw[List.any_cons,Bool.or_eq_false_iff]at h;rw[kZ,Q0,ih h.2,Q0];have a:¬x.1=n:=by simpa using h.1
  by_cases hk:k=n
  ·subst hk;simp[a]
  ·simp[hk]
theorem V9 {α:Type}(l:List (Int×α))(n k:Int)(v:α):bV (dB l n v) k=if k=n then some v else bV l k:=by
 unfold dB;cases h:l.any (λx=>x.1==n)
 ·rw[zB aA,Mt l n k v h]
 ·rw[zC rfl,Np,h];simp
theorem BO {α:Type}(l:List (Int×α))(n k:Int):bV (cT l n) k=if k=n then none else bV l k:=by
 unfold cT
 induction l with
 | nil=>simp[bV]
 | cons x l ih=>
  rw[tB,Q0];by_cases hx:x.1=n
  ·have:(!(x.1==n))=false:=by simp[hx]
   rw[this];simp only[zc,zz,ih];by_cases hk:k=n
   ·simp[hk]
   ·have:¬x.1=k:=λe=>hk (e.symm.trans hx);simp[hk,this]
  ·have:(!(x.1==n))=true:=by simpa using hx
   rw[this,zC rfl,Q0,ih];by_cases hk:k=n
   ·subst hk;simp[hx]
   ·simp[hk]
theorem Vh {α:Type}{l:List (Int×α)}{k:Int}{v:α}(h:bV l k=some v):(k,v)∈l:=by
 unfold bV at h;cases hf:l.find? (λx=>x.1==k)with
 | none=>rw[hf]at h;cases h
 | some x=>
  rw[hf]at h;have a:=sP hf;have d:=tj hf;have b:x.1=k:=by simpa using a
  have e:x.2=v:=by simpa using h
  rw[←b,←e];exact d
theorem PZ {α:Type}{l:List (Int×α)}{k:Int}:(bV l k).isSome=true↔k∈l.map (·.1):=by
 unfold bV;rw[Option.isSome_map,As];simp
def ED (U:Hp)(s:Sl)(b:Nat)(f:Nat->Int):Prop:=s.a=some ⟨b,0,none⟩/\s.len=32/\32<=s.cap/\∃cs,bY U b cs/\32<=cs.length/\∀j,j<32->cs[j]?=some (.int .i64 (f j))
structure fC (U:Hp) (F:Rg) (p q r:Nat) (l:List (Int×Sl)) (B:Nat->Nat) (sp:Sp):Prop where
 hd:∃cap,sp.st.length<=cap/\bY U p [.slice (some ⟨q,0,none⟩) sp.st.length cap,.map (some r),.int .i64 (sp.pk:Int)]
 row:∃rest,bY U q (gK sp.st++rest)
 map:dH U r .i64 .s l
 keys:∀x:Int,(bV l x).isSome=true↔∃k:Nat,x=k/\sp.st[k]?=some 2
 wd:∀(k:Nat) s,bV l (k:Int)=some s->ED U s (B k) λj=>sp.wd (32*k+j)
 inj:∀k k':Nat,sp.st[k]?=some 2->sp.st[k']?=some 2->B k=B k'->k=k'
 out:∀k:Nat,sp.st[k]?=some 2->F (B k)/\B k≠p/\B k≠q/\B k≠r
 fs:F p/\F q/\F r/\p≠q/\p≠r/\q≠r
 zero:∀w:Nat,sp.st[w/32]?≠some 2->sp.wd w=0
 n1:1<=sp.st.length
 n2:sp.st.length<=1024
 rG:∀x∈sp.st,x<=2
 pk:sp.pk<=1024
def dK (U:Hp)(F:Rg)(p:Nat)(sp:Sp):Prop:=∃q r l B,fC U F p q r l B sp
theorem fC.entry {l:List (Int×Sl)}{B:Nat->Nat}(h:fC U F p q r l B sp){k:Nat}(hk:sp.st[k]?=some 2):∃s,bV l (k:Int)=some s/\ED U s (B k) λj=>sp.wd (32*k+j):=by
 have:=(h.keys (k:Int)).2 ⟨k,rfl,hk⟩;obtain⟨s,a⟩:=pq.1 this;exact⟨s,a,h.wd k s a⟩
theorem fC.lO {l:List (Int×Sl)}{B:Nat->Nat}(h:fC U F p q r l B sp){k:Nat}{s:Sl}(hs:bV l (k:Int)=some s):sp.st[k]?=some 2:=by
 obtain⟨k',e,a⟩:=(h.keys (k:Int)).1 (by rw[hs];rfl);have:k=k':=by omega
 subst this;exact a
theorem dK.loc:dL λU F=>dK U F p sp:=λU J F G ⟨q,r,l,B,h⟩ P x=>by
 have g:∀{b:Nat} {i:List Value},bY U b i->F b->bY J b i/\G b:=by
  rintro b i ⟨e,D⟩ K;have:=x b (bY.lt ⟨e,D⟩) K;exact⟨⟨e,this.2.trans D⟩,this.1⟩
 obtain⟨c,M,hd⟩:=h.hd;obtain⟨m,a⟩:=h.row;obtain⟨L,w,E,N⟩:=h.map;have j:=x r (zt.1 E).1 h.fs.2.2.1;refine⟨q,r,l,B,⟨c,M,(g hd h.fs.1).1⟩,⟨m,(g a h.fs.2.1).1⟩,⟨L,w,j.2.trans E,N⟩,h.keys,λk s d=>?_,h.inj,λk d=>?_,⟨(g hd h.fs.1).2,(g a h.fs.2.1).2,j.1,h.fs.2.2.2⟩,h.zero,h.n1,h.n2,h.rG,h.pk⟩
 ·obtain⟨C,y,z,i,u,A⟩:=h.wd k s d;exact⟨C,y,z,i,(g u (h.out k (h.lO d)).1).1,A⟩
 ·obtain⟨s,H,C,y,z,i,u,A⟩:=h.entry d;exact⟨(g u (h.out k d).1).2,(h.out k d).2⟩
theorem dK.bO {σ':Hp}(h:dK U F p sp)(e:bK U σ'):dK σ' F p sp:=dL.bO dK.loc h e
variable {l:List (Int×Sl)}{B:Nat->Nat}
theorem fC.rS (h:fC U F p q r l B sp){K:Sl->Prop}(hK:∀cap,sp.st.length<=cap->K ⟨some ⟨q,0,none⟩,sp.st.length,cap⟩):jr (Addr.add ⟨p,0,none⟩ 0) U K:=by
 obtain⟨c,a,hd⟩:=h.hd;exact hd.rS rfl (hK c a)
theorem fC.rM (h:fC U F p q r l B sp){K:Option Nat->Prop}(hK:K (some r)):k8 (Addr.add ⟨p,0,none⟩ 1) U K:=by
 obtain⟨c,a,hd⟩:=h.hd;exact hd.rM rfl hK
theorem fC.xV (h:fC U F p q r l B sp){i x:Nat}(hx:sp.st[i]?=some x){K:Bool->Bool->Prop}(hK:K (fV x).1 (fV x).2):lC (Addr.add ⟨q,2*i,none⟩ 0) U λa=>lC (Addr.add ⟨q,2*i,none⟩ 1) U λb=>K a b:=by
 obtain⟨g,d⟩:=h.row;have j:=(cW.1 hx).1;have e:=Fa hx;refine d.rB (x:=(fV x).1) ?_ (d.rB (x:=(fV x).2) ?_ hK)
 ·rw[j0,ze (by rw[Vl];omega)];exact e.1
 ·rw[ze (by rw[Vl];omega)];exact e.2
theorem GG (h:dK U F p sp){R:aO}(hR:R true U):Xv.c (aW p) U R:=by
 refine Xv.o ?_;unfold Xv.v;obtain⟨q,r,l,B,h⟩:=h;have:=h.n1;refine bW.intro (cE rfl (aG (h.rS λcap _=>?_)));rw[zJ aC];exact hR
theorem E4 (h:dK U F p sp){R:aN}(hR:R (sp.st.length:Int) U):XA.c (aW p) U R:=by
 refine XA.o ?_;unfold XA.v;have a:=h;obtain⟨q,r,l,B,h⟩:=h;exact GG a (cB rfl (aG (h.rS λcap _=>hR)))
theorem fC.wF (h:fC U F p q r l B sp):l.length=sp.st.count 2:=by
 have m:=h.map.nodup;have j:(l.map (·.1)).Perm (((List.range sp.st.length).filter λk=>sp.st[k]?==some 2).map λk=>((k:Nat):Int)):=by
  rw[Ac m]
  ·intro x;rw[←PZ,h.keys];simp only[zE,zI,zg,zT];constructor
   ·rintro⟨k,rfl,hk⟩;exact⟨k,⟨(cW.1 hk).1,hk⟩,rfl⟩
   ·rintro⟨k,⟨_,hk⟩,rfl⟩;exact⟨k,rfl,hk⟩
  ·have g:((List.range sp.st.length).filter λk=>sp.st[k]?==some 2).Pairwise (· ≠ ·):=List.Pairwise.sublist rW List.nodup_range;exact List.Pairwise.map _ (λa b (d:a≠b) e=>d (by exact_mod_cast e)) g
 have i:=j.length_eq;simp only[zl]at i;rw[i,←ym];have key:∀st:List Nat,(List.range st.length).countP (λk=>st[k]?==some 2)=st.count 2:=by
  intro st
  induction st with
  | nil=>rfl
  | cons x st ih=>
   rw[zY,List.range_succ_eq_map,wB,List.countP_map,List.count_cons,←ih]
   congr 1
 exact key sp.st
end Go.Ar
namespace Go.Ar
open Go Go.Vc Go.Proofs
open Go.Bu (Za)
variable {U:Hp}{F:Rg}{p q r:Nat}{sp:Sp}{l:List (Int×Sl)}{B:Nat->Nat}
theorem MY (l:List Nat)(n:Nat):gK (l.take n)=(gK l).take (2*n):=by
 induction l generalizing n with
 | nil=>simp[gK]
 | cons y l ih=>
  have e:∀z m,gK (z::m)=.bool (fV z).1 :: .bool (fV z).2::gK m:=λz m=>by simp[gK]
  cases n with
  | zero=>simp[gK]
  | succ n=>
   rw[uE,e,e,ih,show 2*(n+1)=2*n+1+1 by omega];simp
theorem Pv (l:List Nat)(n:Nat):gK (l.drop n)=(gK l).drop (2*n):=by
 induction l generalizing n with
 | nil=>simp[gK]
 | cons y l ih=>
  have e:∀z m,gK (z::m)=.bool (fV z).1 :: .bool (fV z).2::gK m:=λz m=>by simp[gK]
  cases n with
  | zero=>simp[gK]
  | succ n=>
   rw[xY,e,ih,show 2*(n+1)=2*n+1+1 by omega];simp
theorem NY (n v:Nat):gK (List.replicate n v)=(List.replicate n [Value.bool (fV v).1,.bool (fV v).2]).flatten:=by
 induction n with
 | zero=>rfl
 | succ n ih=>rw[wE,wE,wg,←ih];simp[gK]
theorem _root_.Go.Vc.cU.xV {s:Sl}{l:List Nat}(h:cU s 2 (gK l) U F){i x:Nat}(hx:l[i]?=some x){K:Bool->Bool->Prop}(hK:K (fV x).1 (fV x).2) :
 Ix s.a s.len (i:Int) 2 λa=>lC (a.add 0) U λu=>lC (a.add 1) U λw=>K u w:=by
 have r:=(cW.1 hx).1;have g:=Fa hx;obtain⟨b,o,j,m⟩:=h.cell g.1;obtain⟨y,o1,d,e⟩:=h.cell g.2;rw[j]at d;cases d;have p:=h.1;rw[Vl]at p;rw[j];refine ix O O ?_;rw[add_lit];refine m7 ?_ (m7 ?_ hK)<;>rw[add_lit]
 ·rw[show o+(i:Int).toNat*2+0=o+2*i by omega];exact m
 ·rw[show o+(i:Int).toNat*2+1=o+(2*i+1) by omega];exact e
theorem _root_.Go.Vc.cU.vH {s:Sl}{l:List Nat}(h:cU s 2 (gK l) U F):s.len=l.length:=by
 have:=h.1;rw[Vl]at this;omega
theorem Mx {s:Sl}{xs:List Nat}(h:cU s 2 (gK xs) U F)(hl:xs.length<=1000000)(h2:∀x∈xs,x<=2){v:Nat}(hv:v<=2){R:aN}
 (hR:∀(t:Int) σ',bK U σ'->decide (t≥0)=xs.contains v->R t σ'):Wn.c s (fV v).1 (fV v).2 U R:=by
 refine Wn.o ?_;unfold Wn.v;have y:=h.vH;refine nw (cs:=[.bool (fV v).1,.bool (fV v).2]) λw E e A=>?_;have h:=aH.bO h e;refine ZY (a:=bN) (λ(t:Int) u=>∃i:Nat,t=(i:Int)/\i<=xs.length/\u=w/\∀j,j<i->xs[j]?≠some v) (λt _=>xs.length-t.toNat) ⟨0,rfl,O,rfl,λj g=>O⟩ ?_;rintro t u ⟨i,rfl,G,rfl,d⟩;refine cQ (λB=>?_) λC=>?_
 ·have b:i<xs.length:=by omega
  have z:xs[i]?=some xs[i]:=cV b;refine A.rB rfl (A.rB rfl (h.xV z ?_));rw[yB hv (h2 _ (j4 b))];refine cO (λr=>?_) λr=>?_
  ·have:v=xs[i]:=by simpa using r
   refine hR _ _ e ?_;have D:xs.contains v=true:=by rw[this];simp
   rw[D,zJ O]
  ·have p:¬v=xs[i]:=by simpa using r
   refine cP (m:=i+1) O O ⟨⟨i+1,rfl,O,rfl,λj g=>?_⟩,O⟩;by_cases e:j=i
   ·subst e;rw[z];intro e2;cases e2;exact p rfl
   ·exact d j O
 ·refine hR _ _ e ?_;have:xs.contains v=false:=by
   simp only[rJ,decide_eq_false_iff_not];intro hm;obtain⟨j,g⟩:=zQ hm;have:=(cW.1 g).1;exact d j O g
  rw[this];rfl
theorem J7 {s:Sl}{xs:List Nat}(h:cU s 2 (gK xs) U F)(hl:xs.length<=1000000)(h2:∀x∈xs,x<=2){v:Nat}(hv:v<=2){R:aO}
 (hR:∀σ',bK U σ'->R (xs.contains v) σ'):Wj.c s (fV v).1 (fV v).2 U R:=by
 refine Wj.o ?_;unfold Wj.v;refine nw (cs:=[.bool (fV v).1,.bool (fV v).2]) λw g e a=>a.rB rfl (a.rB rfl ?_);refine Mx (aH.bO h e) hl h2 hv λt σ' d b=>?_;rw[b];exact hR σ' (Ext.trans e d)
theorem PK (g:Gl U){x:Nat}(hx:x<=2){R:aO}(hR:∀σ',bK U σ'->R (x != 0) σ'):Yp.c (fV x).1 (fV x).2 U R:=by
 refine Yp.o ?_;unfold Yp.v;refine nw (cs:=[.bool (fV x).1,.bool (fV x).2]) λv d e a=>a.rB rfl (a.rB rfl ?_);have g:=g.bO e;refine m7 (by rw[←g.u0];rfl) (m7 (by rw[←g.u1];rfl) ?_);have b:(((fV x).1==false)&&(((fV x).2==false)&&true))=(x==0):=yB hx (y:=0) O;rw[b];exact hR v e
theorem JX {s:Sl}{xs:List Nat}(h:cU s 2 (gK xs) U F)(g:Gl U)(hl:xs.length<=1000000)(h2:∀x∈xs,x<=2){R:aO}
 (hR:∀σ',bK U σ'->R (xs.any (· != 0)) σ'):Wf.c s ⟨309,#[],#[]⟩ U R:=by
 refine Wf.o ?_;unfold Wf.v;refine Wm.o ?_;unfold Wm.v;have z:=h.vH;refine ZY (a:=bN) (λ(t:Int) D=>∃i:Nat,t=(i:Int)/\i<=xs.length/\bK U D/\∀(j x:Nat),j<i->xs[j]?=some x->x=0) (λt _=>xs.length-t.toNat) ⟨0,rfl,O,Ext.refl _ _,λj x r=>O⟩ ?_;rintro t w ⟨i,rfl,H,e,p⟩;refine cQ (λE=>?_) λG=>?_
 ·have b:i<xs.length:=by omega
  have A:xs[i]?=some xs[i]:=cV b;refine(aH.bO h e).xV A ?_;refine pE (all := #[.agg #[.bool (fV xs[i]).1,.bool (fV xs[i]).2]]) (by kernel_rfl) aA ?_;refine PK (g.bO e) (h2 _ (j4 b)) λC B=>?_;refine cO (λy=>?_) λy=>?_
  ·have:xs.any (· != 0)=true:=kb.2 ⟨_,j4 b,y⟩;have:=hR C (Ext.trans e B);rw[‹xs.any (· != 0)=true›]at this;show R (decide ((i:Int)≥0)) _;rw[zJ O];exact this
  ·have u:xs[i]=0:=by simpa using y
   refine cP (m:=i+1) O O ⟨⟨i+1,rfl,O,Ext.trans e B,λj x r d=>?_⟩,O⟩;by_cases e:j=i
   ·subst e;rw[A]at d;cases d;exact u
   ·exact p j x O d
 ·have:xs.any (· != 0)=false:=by
   rw[mA];intro x hm;obtain⟨j,r⟩:=zQ hm;have:=(cW.1 r).1;simpa using p j x O r
  have:=hR w e;rw[‹xs.any (· != 0)=false›]at this;exact this
theorem fC.part (h:fC U F p q r l B sp){x y c:Nat}(hl:x+y<=sp.st.length):cU ⟨some ⟨q,2*x,none⟩,y,c⟩ 2 (gK ((sp.st.drop x).take y)) U F:=by
 obtain⟨d,b⟩:=h.row;have a:(gK ((sp.st.drop x).take y)).length=y*2:=by rw[Vl,zZ,j2];omega
 refine⟨a,.inr ⟨q,2*x,_,h.fs.2.1,rfl,b.q,λj e=>?_⟩⟩;rw[a]at e;rw[ze (by rw[Vl];omega),MY,Pv,zj,zC O,kO]
theorem Iw (h:dK U F p sp)(a m:Int){R:Sl->Int->Hp->Prop}(h0:Za sp.st.length a m=false->R ⟨none,0,0⟩ 1 U)
 (h1:∀(x y:Nat) s,a=x->m=y->1<=y->x+y<=sp.st.length->cU s 2 (gK ((sp.st.drop x).take y)) U F->R s 0 U):Y1.c (aW p) a m U R:=by
 refine Y1.o ?_;unfold Y1.v;have g:=h;obtain⟨q,r,l,B,h⟩:=h;have n2:=h.n2;have b:¬(0<=a/\1<=m/\m<=sp.st.length-a)->R ⟨none,0,0⟩ 1 U:=λA=>h0 (by simp only[Za,←uq];exact zM A);refine GG g (cB rfl (bW.intro (cQ (λw=>bW.intro (cE rfl (bW.intro (cE rfl (cE rfl (b O)))))) λw=>?_)));refine bW.intro (cQ (λi=>bW.intro (cE rfl (cE rfl (b O)))) λi=>aG (h.rS λcap d=>?_));simp only;refine bW.intro (cQ (λz=>cE rfl (b O)) λz=>?_);refine aG (h.rS λcap d=>ar aC aC ?_);simp only;refine cQ (λj=>b O) λj=>?_;obtain⟨x,rfl⟩:=za (show 0<=a by omega);obtain⟨y,rfl⟩:=za (show 0<=m by omega);refine aG (h.rS λcap d=>cP (m:=x+y) O O ?_);refine iR O aC (zD _) ?_;simp only;rw[zB O];refine h1 x y _ rfl rfl O O ?_;have:=h.part (x:=x) (y:=y) (c:=cap-x) O;have e:(Option.map (λ(u:Addr)=>u.add (x*2)) (some (⟨q,0,none⟩:Addr)))=some ⟨q,2*x,none⟩:=by
  simp only[zX,add_lit];congr 2;omega
 rw[e,Ay];exact this
def Sp.jN (s:Sp)(k v:Nat):Sp:={s with st:=s.st.set k v,wd:=λw=>if k*32<=w/\w<(k+1)*32 then 0 else s.wd w}
theorem Da {st:List Nat}(h:∀x∈st,x<=2){k v:Nat}(hv:v<=2):∀x∈st.set k v,x<=2:=by
 intro x hx;rcases yu hx with h1|h1
 ·exact h x h1
 ·omega
theorem fC.jN (h:fC U F p q r l B sp){k v:Nat}(hk:k<sp.st.length)(hv:v<=1){σ':Hp}(e:Ext (λb=>b=q\/b=r) U σ'){rest:List Value}
 (hb:bY σ' q (gK (sp.st.set k v)++rest)) (hm:dH σ' r .i64 .s (cT l (k:Int))):fC σ' F p q r (cT l (k:Int)) B (sp.jN k v):=by
 have d:∀j:Nat,(sp.st.set k v)[j]?=some 2↔j≠k/\sp.st[j]?=some 2:=λj=>by
  rw[mJ];by_cases hjk:k=j
  ·subst hjk;rw[zC rfl,zC hk];constructor
   ·intro h;have:v=2:=by simpa using h
    omega
   ·intro h;exact absurd rfl h.1
  ·rw[zB hjk];exact⟨λh=>⟨λe=>hjk e.symm,h⟩,λh=>h.2⟩
 obtain⟨c,J,hd⟩:=h.hd;have D:¬(p=q\/p=r):=by have:=h.fs;omega
 refine⟨⟨c,by simpa[Sp.jN]using J,by simpa[Sp.jN]using e.bT hd D⟩,⟨rest,hb⟩,hm,λx=>?_,λj s g=>?_,λj u A m=>?_,λj a=>?_,h.fs,λw y=>?_,by simpa[Sp.jN]using h.n1,by simpa[Sp.jN]using h.n2,Da h.rG O,h.pk⟩
 ·rw[BO];by_cases hx:x=(k:Int)
  ·rw[zC hx];constructor
   ·intro h;cases h
   ·rintro⟨j,rfl,a⟩;have:=(d j).1 a;omega
  ·rw[zB hx,h.keys];constructor
   ·rintro⟨j,rfl,a⟩;exact⟨j,rfl,(d j).2 ⟨O,a⟩⟩
   ·rintro⟨j,rfl,a⟩;exact⟨j,rfl,((d j).1 a).2⟩
 ·rw[BO]at g;by_cases hx:(j:Int)=(k:Int)
  ·rw[zC hx]at g;cases g
  ·rw[zB hx]at g;obtain⟨M,E,G,K,z,H,L⟩:=h.wd j s g;have N:=h.out j (h.lO g);refine⟨M,E,G,K,e.bT z O,H,λi C=>?_⟩;rw[L i C];simp only[Sp.jN];rw[zB O]
 ·exact h.inj j u ((d j).1 A).2 ((d u).1 m).2
 ·exact h.out j ((d j).1 a).2
 ·simp only[Sp.jN]at y ⊢;by_cases hin:k*32<=w/\w<(k+1)*32
  ·rw[zC hin]
  ·rw[zB hin];refine h.zero w λm=>y ((d _).2 ⟨O,m⟩)
theorem Sp.oU (s:Sp)(a v:Nat):s.set a 0 v=s:=by
 have b:gg s.st a (a+0) v=s.st:=by
  apply zo;intro i;rw[UL];cases s.st[i]? with
  | none=>rfl
  | some x=>simp only[zX];rw[zB O]
 have d:(λw=>if a*32<=w/\w<(a+0)*32 then 0 else s.wd w)=s.wd:=by
  funext w;rw[zB O]
 simp only[Sp.set,b,d]
theorem Sp.oE (s:Sp)(a m v:Nat)(h:a+m<s.st.length):(s.set a m v).jN (a+m) v=s.set a (m+1) v:=by
 have b:(gg s.st a (a+m) v).set (a+m) v=gg s.st a (a+(m+1)) v:=by
  apply zo;intro i;rw[mJ,UL,UL,Ku];by_cases hi:a+m=i
  ·subst hi;rw[zC rfl,zC h,cV h,zX,zC O]
  ·rw[zB hi];cases s.st[i]? with
   | none=>rfl
   | some x=>
    simp only[zX];by_cases hin:a<=i/\i<a+m
    ·rw[zC hin,zC O]
    ·rw[zB hin,zB O]
 have d:(λw=>if(a+m)*32<=w/\w<(a+m+1)*32 then 0 else(if a*32<=w/\w<(a+m)*32 then 0 else s.wd w))=λw=>if a*32<=w/\w<(a+(m+1))*32 then 0 else s.wd w:=by
  funext w
  by_cases b:(a+m)*32<=w/\w<(a+m+1)*32
  ·rw[zC b,zC O]
  ·rw[zB b];by_cases d:a*32<=w/\w<(a+m)*32
   ·rw[zC d,zC O]
   ·rw[zB d,zB O]
 simp only[Sp.set,Sp.jN,b,d]
theorem MN (h:dK U F p sp){x y v:Nat}(hl:x+y<=sp.st.length)(hv:v<=1){R:aP}(hR:∀σ',Ext F U σ'->dK σ' F p (sp.set x y v)->R σ') :
 YU.c (aW p) x y (fV v).1 (fV v).2 U R:=by
 refine YU.o ?_;unfold YU.v;have W:sp.st.length<=1024:=by obtain⟨q,r,l,B,h⟩:=h;exact h.n2
 have z:dK U (Cut F U) p sp:=dL.cut dK.loc h;refine nw (cs:=[.bool (fV v).1,.bool (fV v).2]) λu hz e g=>?_;have Z:=z.bO e;refine ZY (a:=bN) (λ(t:Int) w=>∃i:Nat,t=((x+i:Nat):Int)/\i<=y/\Ext (Cut F U) u w/\bY w U.size [.bool (fV v).1,.bool (fV v).2]/\dK w (Cut F U) p (sp.set x i v)) (λt _=>x+y-t.toNat)
  ⟨0,rfl,O,Ext.refl _ _,g,by rw[Sp.oU];exact Z⟩ ?_
 rintro t w ⟨i,rfl,hi,J,j,q,r,l,B,d⟩;refine cP (m:=x+y) O O (cQ (λY=>?_) λS=>?_)
 ·have L:(sp.set x i v).st.length=sp.st.length:=Ku _ _ _ _;refine aG (d.rS λcap P=>j.rB rfl (j.rB rfl (ix O aC ?_)));rw[add_lit,show 0+((x+i:Nat):Int).toNat*2=2*(x+i) by omega];obtain⟨N,s⟩:=d.row;have H:x+i<(sp.set x i v).st.length:=by omega
  refine s.s1 (by rw[zO,Vl];omega) λw1 o1 X=>X.s1 (by rw[nQ,zO,Vl];omega) λw2 o2 E=>?_;rw[j0,DM H]at E;have e2:Ext (· = q) w w2:=o1.ext.trans o2.ext;obtain⟨c,Q,hd⟩:=d.hd;have A:=e2.bT hd d.fs.2.2.2.1;refine aG (A.rM rfl ⟨l,e2.fO d.map (λe=>d.fs.2.2.2.2.2 e.symm),λw3 C _ D=>?_⟩);have o3:=C r rfl;have M:Ext (λb=>b=q\/b=r) w w3:=(e2.sub λb g=>.inl g).trans (o3.ext.sub λb g=>.inr g);have G:=d.jN H hv M (Ws o3 E d.fs.2.2.2.2.2) D;rw[Sp.oE _ _ _ _ O]at G;have K:Ext (Cut F U) w w3:=M.sub λb g=>by
   rcases g with rfl|rfl
   ·exact d.fs.2.1
   ·exact d.fs.2.2.1
  refine cP (m:=x+(i+1)) O O ⟨⟨i+1,rfl,O,J.trans K,K.bT j λV=>by have:=V.2;omega,_,_,_,_,G⟩,O⟩
 ·have:i=y:=by omega
  subst this;refine hR w (Ext.cut (e.to.trans J)) (dL.mono dK.loc ⟨q,r,l,B,d⟩ λb _ g=>g.1)
theorem PB (h:dK U F p sp)(g:Gl U)(hF:iN F)(a m:Int){R:aN}(hR:∀σ',Ext F U σ'->dK σ' F p (fS sp a m)->R (eZ sp a m) σ') :
 YV.c (aW p) a m U R:=by
 refine YV.o ?_;unfold YV.v;have i:(∀x∈sp.st,x<=2)/\sp.st.length<=1024:=by obtain⟨q,r,l,B,h⟩:=h;exact⟨h.rG,h.n2⟩
 refine Iw h a m (λe=>?_) λx y s H J K A w=>?_
 ·have e1:eZ sp a m=1:=by unfold eZ;rw[e];rfl
  have e2:fS sp a m=sp:=by unfold fS;rw[e1];rfl
  have:=hR U (Ext.refl _ _);rw[e1,e2]at this;exact cE rfl (this h)
 ·subst H;subst J;have e:Za sp.st.length (x:Int) (y:Int)=true:=by simp only[Za,zF,zU];omega
  refine cB rfl (JX w g (by rw[zZ,j2];omega) (λz E=>i.1 z (sv (vp E))) λu e1=>?_);have d:eZ sp x y=if((sp.st.drop x).take y).any (· != 0)then 5 else 0:=by unfold eZ;rw[e];rfl
  refine cO (λb=>?_) λb=>?_
  ·rw[b]at d;have e2:fS sp x y=sp:=by unfold fS;rw[d];rfl
   have:=hR u (bK.to e1);rw[d,e2]at this;exact this (h.bO e1)
  ·rw[b]at d;have e2:fS sp x y=sp.set x y 1:=by unfold fS;rw[d];rfl
   have j:=g.bO e1;refine m7 (by rw[←j.c0];rfl) (m7 (by rw[←j.c1];rfl) ?_);refine MN (v:=1) (h.bO e1) A O λC G D=>?_;have:=hR C (Ext.trans (bK.to e1) G);rw[d,e2]at this;exact this D
theorem Ex (h:dK U F p sp)(g:Gl U)(x:Int)(hx:x<=9223372036854775807){R:aN}(hR:∀σ',bK U σ'->R (eP sp x) σ') :
 Xm.c (aW p) x 1 U R:=by
 refine Xm.o ?_;unfold Xm.v;have E:=h;obtain⟨q,r,l,B,h⟩:=h;have n2:=h.n2;have i:(x<0\/x%8≠0)->R 7 U:=λj=>by
  have:=hR U (Ext.refl _ _);unfold eP at this;rw[zC j]at this;exact this
 refine GG E (cB rfl (cB rfl (bW.intro (cQ (λC=>cE rfl (i (.inl C))) λC=>nz aB ?_))));obtain⟨y,rfl⟩:=za (show 0<=x by omega);refine cO (λd=>?_) λd=>?_
 ·refine i (.inr ?_);rw[Qz O]at d;simpa using d
 have K:y%8=0:=by
  rw[Qz O]at d;have:((y:Int)%8)=0:=by simpa using d
  omega
 have ok:¬((y:Int)<0\/(y:Int)%8≠0):=by omega
 refine nz aB (cP (m:=y/256) (by rw[Yq O];simp) O (nz aB (cP (m:=y/8) (by rw[Yq O];simp) O ?_)));refine cP (m:=y/8+1) O O (cP (m:=y/8) O O (nz aB (cP (m:=y/256) (by rw[Yq O];simp;omega) O ?_)));have fin:∀(b:Bool) σ',bK U σ'->(b=true↔sp.st.getD (y/256) 0=0)->If b (R 7 σ') (R 0 σ'):=λb σ' e j=>by
  have:=hR σ' e;unfold eP at this;rw[zB ok]at this;refine cO (λh=>?_) λh=>?_
  ·rw[zC (by simpa using j.1 h)]at this;exact this
  ·rw[zB (λH=>by rw[j.2 (by simpa using H)]at h;cases h)]at this;exact this
 obtain⟨c,J,hd⟩:=h.hd;refine Jn.intro ⟨λm=>bY m p [.slice (some ⟨q,0,none⟩) sp.st.length c,.map (some r),.int .i64 (sp.pk:Int)]/\Gl m,⟨hd,g⟩,?_⟩;refine aG ⟨⟨some ⟨q,0,none⟩,sp.st.length,c⟩,λm a=>by rw[add_lit,a.1.cell];rfl,?_⟩;refine cQ (λw=>?_) λw=>?_
 ·simp only at w;refine fin _ U (Ext.refl _ _) ⟨λ_=>?_,λ_=>rfl⟩;rw[zP,zV O];rfl
 simp only at w;refine aG ⟨⟨some ⟨q,0,none⟩,sp.st.length,c⟩,λm a=>by rw[add_lit,a.1.cell];rfl,?_⟩;refine cP (m:=y/256+1) O O (iR O aC (zD _) ?_);simp only;rw[zB O];refine⟨false,λm a=>a.2.u0,⟨false,λm a=>a.2.u1,?_⟩⟩;have e:(Option.map (λ(u:Addr)=>u.add (y/256*2)) (some (⟨q,0,none⟩:Addr)))=some ⟨q,2*(y/256),none⟩:=by
  simp only[zX,add_lit];congr 2;omega
 rw[e,Ay];have G:=h.part (x:=y/256) (y:=1) (c:=c-y/256) O;refine J7 (v:=0) G (by rw[zZ,j2];omega) (λz D=>h.rG z (sv (vp D))) O λσ' s=>?_;refine⟨⟨s.bT hd id,g.bO s⟩,fin _ σ' s ?_⟩;have A:y/256<sp.st.length:=by omega
 rw[zP,cV A,u6 A,uE,xy];simp[eq_comm]
theorem Jd (h:dK U F p sp){w:Nat}(hw:w<=2305843009213693952){R:aN}(hR:R (sp.wd w) U):YY.c (aW p) (w:Int) U R:=by
 refine YY.o ?_;unfold YY.v;obtain⟨q,r,l,B,h⟩:=h;refine aG (h.rM (nz aB (cP (m:=w/32) (by rw[Yq O];simp) O ⟨l,h.map,?_⟩)));cases hg:bV l ((w/32:Nat):Int)with
 | none=>
  refine cB rfl ?_;have:sp.st[w/32]?≠some 2:=λa=>by
   have:=(h.keys _).2 ⟨_,rfl,a⟩;rw[hg]at this;cases this
  rw[h.zero w this]at hR;exact hR
 | some s=>
  obtain⟨g,i,j,x,d,u,e⟩:=h.wd _ s hg;refine cE rfl (nz aB ?_);simp only[py];have b:((w:Int).tmod 32)=((w%32:Nat):Int):=by rw[Qz O];simp
  rw[g,b];refine ix O O ?_;rw[add_lit];refine d.ua ?_ hR;rw[show 0+((w%32:Nat):Int).toNat*1=w%32 by omega,e _ O];simp only;rw[show 32*(w/32)+w%32=w by omega]
theorem Nh (h:dK U F p sp)(g:Gl U)(x:Int)(hx:x<=9223372036854775807){R:Int->Int->Hp->Prop}(hR:∀σ',bK U σ'->R (if eP sp x=0 then sp.wd (x.toNat/8)else 0) (eP sp x) σ') :
 YA.c (aW p) x U R:=by
 refine YA.o ?_;unfold YA.v;refine Ex h g x hx λσ' e=>?_;have:=hR σ' e;refine cO (λi=>?_) λi=>?_
 ·have b:¬eP sp x=0:=by simpa using i
  rw[zB b]at this;exact this
 ·have a:eP sp x=0:=by simpa using i
  rw[zC a,a]at this;have d:0<=x:=by
   rcases(by omega:x<0\/0<=x)with hlt|hge
   ·unfold eP at a;rw[zC (.inl hlt)]at a;cases a
   ·exact hge
  obtain⟨y,rfl⟩:=za d;exact nz aB (cP (m:=y/8) (by rw[Yq O];simp) O (Jd (h.bO e) O this))
theorem fC.AN (h:fC U F p q r l B sp){k:Nat}(hk:k<sp.st.length)(hn:sp.st[k]?≠some 2){σ':Hp}{b:Nat}{s:Sl}{T:Rg}(e:Ext T U σ')(hT:∀i,i<U.size->T i->i=q\/i=r)(hz:U.size<=b){rest:List Value}
 (hb:bY σ' q (gK (sp.st.set k 2)++rest)) (hm:dH σ' r .i64 .s (dB l (k:Int) s)) (ha:s.a=some ⟨b,0,none⟩) (hl:s.len=32) (hc:s.cap=32) (hw:bY σ' b (List.replicate 32 (.int .i64 0))) :
 fC σ' (Grow F U) p q r (dB l (k:Int) s) (λj=>if j=k then b else B j) {sp with st:=sp.st.set k 2}:=by
 have u:∀j:Nat,(sp.st.set k 2)[j]?=some 2↔j=k\/sp.st[j]?=some 2:=λj=>by
  rw[mJ];by_cases hjk:k=j
  ·subst hjk;rw[zC rfl,zC hk];simp
  ·rw[zB hjk];exact⟨λh=>.inr h,λh=>h.resolve_left λe=>hjk e.symm⟩
 obtain⟨c,G,hd⟩:=h.hd;obtain⟨_,A⟩:=h.row;have X:=hd.lt;have V:=A.lt;have W:=h.map.lt;have S:=e.1;have g:=h.fs;have C:∀{j:Nat},sp.st[j]?=some 2->B j<U.size:=λ{j} d=>by
  obtain⟨t,_,_,_,_,cs,H,_⟩:=h.entry d;exact H.lt
 have cS:∀{i:Nat} {cs:List Value},bY U i cs->i≠q->i≠r->bY σ' i cs:=λ{i cs} E D y=>e.bT E λQ=>by
  rcases hT i E.lt Q with h|h
  ·exact D h
  ·exact y h
 refine⟨⟨c,by simpa using G,by simpa using cS hd g.2.2.2.1 g.2.2.2.2.1⟩,⟨rest,hb⟩,hm,λx=>?_,λj t d=>?_,λj z D y m=>?_,λj d=>?_,⟨.inl g.1,.inl g.2.1,.inl g.2.2.1,g.2.2.2⟩,λw J=>?_,by simpa using h.n1,by simpa using h.n2,Da h.rG O,h.pk⟩
 ·rw[V9];by_cases hx:x=(k:Int)
  ·rw[zC hx];subst hx;simp only[Option.isSome_some,true_iff];exact⟨k,rfl,(u k).2 (.inl rfl)⟩
  ·rw[zB hx,h.keys];constructor
   ·rintro⟨j,rfl,d⟩;exact⟨j,rfl,(u j).2 (.inr d)⟩
   ·rintro⟨j,rfl,d⟩;exact⟨j,rfl,((u j).1 d).resolve_left O⟩
 ·rw[V9]at d;by_cases hx:(j:Int)=(k:Int)
  ·have:j=k:=by omega
   subst this;rw[zC rfl]at d;cases d;rw[zC rfl];refine⟨ha,hl,O,_,hw,by simp,λi E=>?_⟩;rw[mc,zC E];simp only;rw[h.zero _ (by rw[show(32*j+i)/32=j by omega];exact hn)]
  ·rw[zB hx]at d;obtain⟨P,L,M,cs,H,N,R⟩:=h.wd j t d;have K:=h.out j (h.lO d);rw[zB O];exact⟨P,L,M,cs,cS H K.2.2.1 K.2.2.2,N,R⟩
 ·by_cases e1:j=k
  ·by_cases e2:z=k
   ·omega
   ·rw[zC e1,zB e2]at m;have:=C (((u z).1 y).resolve_left e2);omega
  ·rw[zB e1]at m;by_cases e2:z=k
   ·rw[zC e2]at m;have:=C (((u j).1 D).resolve_left e1);omega
   ·rw[zB e2]at m;exact h.inj j z (((u j).1 D).resolve_left e1) (((u z).1 y).resolve_left e2) m
 ·by_cases e1:j=k
  ·rw[zC e1];exact⟨.inr hz,O,O,O⟩
  ·rw[zB e1];have:=h.out j (((u j).1 d).resolve_left e1);exact⟨.inl this.1,this.2⟩
 ·refine h.zero w λy=>J ((u _).2 (.inr y))
theorem fC.A4 (h:fC U F p q r l B sp){σ':Hp}{n c:Nat}(hn:n<=1024)(ho:Qm U σ' p)(hc:sp.st.length<=c)(hb:bY σ' p [.slice (some ⟨q,0,none⟩) sp.st.length c,.map (some r),.int .i64 (n:Int)]):fC σ' F p q r l B {sp with pk:=n}:=by
 have d:=h.fs;obtain⟨a,b⟩:=h.row;refine⟨⟨c,hc,hb⟩,⟨a,Ws ho b O⟩,U7 ho h.map O,h.keys,λj t e=>?_,h.inj,h.out,d,h.zero,h.n1,h.n2,h.rG,hn⟩;obtain⟨w,g,i,s,m,x,u⟩:=h.wd j t e;exact⟨w,g,i,s,Ws ho m (h.out j (h.lO e)).2.1,x,u⟩
theorem fC.word (h:fC U F p q r l B sp){w:Nat}{v:Int}(hk:sp.st[w/32]?=some 2){σ':Hp}{cs:List Value}(h32:32<=cs.length)(ho:Qm U σ' (B (w/32)))(hcs:∀j,j<32->cs[j]?=some (.int .i64 (sp.wd (32*(w/32)+j))))
 (hb:bY σ' (B (w/32)) (cs.set (w%32) (.int .i64 v))):fC σ' F p q r l B {sp with wd:=λu=>if u=w then v else sp.wd u}:=by
 have s:=h.out _ hk;obtain⟨c,E,hd⟩:=h.hd;obtain⟨b,a⟩:=h.row;refine⟨⟨c,E,Ws ho hd O⟩,⟨b,Ws ho a O⟩,U7 ho h.map O,h.keys,λj t x=>?_,h.inj,h.out,h.fs,λu A=>?_,h.n1,h.n2,h.rG,h.pk⟩
 ·obtain⟨C,y,z,m,D,H,G⟩:=h.wd j t x;by_cases hjk:j=w/32
  ·subst hjk;refine⟨C,y,z,_,hb,by simpa using h32,λi g=>?_⟩;rw[mJ];by_cases hiw:w%32=i
   ·rw[zC hiw,zC O];simp only;rw[zC O]
   ·rw[zB hiw];simp only;rw[zB O];exact hcs i g
  ·have d:B j≠B (w/32):=λe=>hjk (h.inj _ _ (h.lO x) hk e);refine⟨C,y,z,m,Ws ho D d,H,λi g=>?_⟩;rw[G i g];simp only;rw[zB O]
 ·have:u≠w:=λe=>by subst e;exact A hk
  simp only;rw[zB this];exact h.zero u A
theorem Nq (h:dK U F p sp)(g:Gc U){w:Nat}(hw:w/32<sp.st.length)(v:Int){R:aP}(hR:∀σ',Ext F U σ'->dK σ' (Grow F U) p (m8 sp w v)->R σ') :
 YS.c (aW p) (w:Int) v U R:=by
 refine YS.o ?_;unfold YS.v;obtain⟨q,r,l,B,h⟩:=h;have V:=h.n2;have j:sp.st[w/32]?=some sp.st[w/32]:=cV hw;have tm:((w:Int).tmod 32)=((w%32:Nat):Int):=by rw[Qz O];simp
 have word:∀(u:Hp) (s':Sp) (l':List (Int×Sl)) (B':Nat->Nat),Ext F U u->fC u (Grow F U) p q r l' B' s'->s'.st[w/32]?=some 2->({s' with wd:=λz=>if z=w then v else s'.wd z}:Sp)=m8 sp w v →
  bU (some ⟨p,0,none⟩) λad=>k8 (ad.add 1) u λZ=>Lk .i64 .s Z ((w/32:Nat):Int) u λC=>Nz 32<|Ix (C.getD ⟨none,0,0⟩).a (C.getD ⟨none,0,0⟩).len ((w:Int).tmod 32) 1 λac=>dW ac (.int .i64 v) u λv1=>R v1:=by
  intro u s' l' B' eu hu A he;refine aG (hu.rM ⟨l',hu.map,nz aB ?_⟩);obtain⟨s,hs,w1,w2,w3,cs,w4,w5,w6⟩:=hu.entry A;rw[hs,tm];simp only[py];rw[w1];refine ix O O ?_;rw[add_lit,show 0+((w%32:Nat):Int).toNat*1=w%32 by omega];refine w4.s0 O λu2 o2 M=>?_;have h2:=hu.word (v:=v) A w5 o2 w6 M;rw[he]at h2;exact hR u2 (eu.dT o2.ext λb d=>by subst d;exact(hu.out _ A).1) ⟨_,_,_,_,h2⟩
 refine nz aB (cP (m:=w/32) (by rw[Yq O];simp) O (Jn.intro (aG (h.rS λcap G=>ix O aC ?_))));rw[add_lit,show 0+((w/32:Nat):Int).toNat*2=2*(w/32) by omega];refine h.xV j (m7 (n:=true) g.d0 (m7 (n:=true) g.d1 ?_));have e0:(((fV sp.st[w/32]).1==true)&&(((fV sp.st[w/32]).2==true)&&true))=(sp.st[w/32]==2):=yB (h.rG _ (j4 hw)) (y:=2) O;rw[e0];refine cO (λhd=>?_) λhd=>?_
 ·have H:sp.st[w/32]≠2:=by simpa using hd
  refine aG (h.rS λcap G=>m7 (n:=true) g.d0 (m7 (n:=true) g.d1 (ix O aC ?_)));rw[add_lit,show 0+((w/32:Nat):Int).toNat*2=2*(w/32) by omega];obtain⟨K,D⟩:=h.row;refine D.s1 (by rw[zO,Vl];omega) λu1 o1 b1=>b1.s1 (by rw[nQ,zO,Vl];omega) λu2 o2 M=>?_;rw[j0]at M;have W:bY u2 q (gK (sp.st.set (w/32) 2)++K):=by rw[←DM hw];exact M
  have e2:Ext (· = q) U u2:=o1.ext.trans o2.ext;obtain⟨c,hc,E⟩:=h.hd;have J:=e2.bT E h.fs.2.2.2.1;refine⟨λm=>bY m p [.slice (some ⟨q,0,none⟩) sp.st.length c,.map (some r),.int .i64 (sp.pk:Int)],J,aG ⟨some r,λm hm=>by rw[add_lit,hm.cell];rfl,?_⟩⟩;refine mk (n:=32) O O λu3 hz3 P b3=>⟨Ext.bT P J id,?_⟩;have X:bY u3 u2.size (List.replicate 32 (.int .i64 0)):=b3;have q3:=Ext.bT P W id;have S:=e2.fO h.map (λe=>h.fs.2.2.2.2.2 e.symm);refine⟨r,l,rfl,Ext.fO P S id,λu4 o4 aa=>?_⟩;have sz2:u2.size=U.size:=by rw[o2.1,o1.1]
  have hrlt:=h.map.lt;have ae:=E.lt;have e4:Ext (λb=>b=q\/b=r) U u4:=((e2.sub λb d=>.inl d).trans (bK.to P)).trans (o4.ext.sub λb d=>.inr d);have N:=h.AN hw (by rw[j];simpa using H) (s:=⟨some ⟨u2.size,0,none⟩,32,32⟩) (b:=u2.size) e4 (λi _ L=>L) O (Ws o4 q3 h.fs.2.2.2.2.2) aa rfl rfl rfl (Ws o4 X O);obtain⟨c4,ab,x⟩:=N.hd;refine aG (x.rI rfl (aG (x.rM rfl ⟨_,N.map,aG ?_⟩)));rw[N.wF];have hcl:(sp.st.set (w/32) 2).count 2<=1024:=zh List.count_le_length (by simpa using V);have hpk:=h.pk;have hv:(if((List.count 2 (sp.st.set (w/32) 2):Nat):Int)>(sp.pk:Int)then((List.count 2 (sp.st.set (w/32) 2):Nat):Int)else(sp.pk:Int))=((max sp.pk ((sp.st.set (w/32) 2).count 2):Nat):Int):=by
   by_cases hgt:((List.count 2 (sp.st.set (w/32) 2):Nat):Int)>(sp.pk:Int)
   ·rw[zC hgt];omega
   ·rw[zB hgt];omega
  simp only;rw[hv];refine x.s1 aA λu5 o5 b5=>?_;have h5:=N.A4 O o5 ab b5;have e5:Ext F U u5:=(e4.sub λb d=>by
   rcases d with rfl|rfl
   ·exact h.fs.2.1
   ·exact h.fs.2.2.1).trans (o5.ext.sub λb d=>by subst d;exact h.fs.1)
  refine word u5 _ _ _ e5 h5 (by simp only;rw[mJ,zC rfl,zC hw]) ?_;unfold m8;rw[zB (by rw[zP,j];exact H)]
 ·have Y:sp.st[w/32]=2:=by simpa using hd
  rw[Y]at j;have Q:fC U (Grow F U) p q r l B sp:={h with out:=λk A=>⟨.inl (h.out k A).1,(h.out k A).2⟩,fs:=⟨.inl h.fs.1,.inl h.fs.2.1,.inl h.fs.2.2.1,h.fs.2.2.2⟩};refine word U sp l B (Ext.refl _ _) Q j ?_;unfold m8;rw[zC (by rw[zP,j];rfl)];have:sp.st.set (w/32) 2=sp.st:=by
   apply zo;intro i;rw[mJ];by_cases L:w/32=i
   ·subst L;rw[zC rfl,zC hw,j]
   ·rw[zB L]
  rw[this]
theorem No (h:dK U F p sp)(g:Gl U)(gd:Gc U)(x:Int)(hx:x<=9223372036854775807)(v:Int){R:aN}(hR:∀σ',Ext F U σ'->dK σ' (Grow F U) p (ZU sp x v)->R (eP sp x) σ') :
 Yf.c (aW p) x v U R:=by
 refine Yf.o ?_;unfold Yf.v;have j:dK U (Cut F U) p sp:=dL.cut dK.loc h;refine Ex h g x hx λA e=>?_;have w:=j.bO e;have C:=g.bO e;refine cO (λs=>?_) λs=>?_
 ·have r:¬eP sp x=0:=by simpa using s
  refine hR A (bK.to e) ?_;unfold ZU;rw[zB r];exact dL.mono dK.loc w λb _ a=>.inl a.1
 ·have d:eP sp x=0:=by simpa using s
  have i:0<=x/\sp.st.getD (x.toNat/256) 0≠0:=by
   unfold eP at d;by_cases a:x<0\/x%8≠0
   ·rw[zC a]at d;cases d
   ·rw[zB a]at d;by_cases hz:sp.st.getD (x.toNat/256) 0=0
    ·rw[zC hz]at d;cases d
    ·exact⟨O,hz⟩
  obtain⟨y,rfl⟩:=za i.1;have u:y/8/32<sp.st.length:=by
   rcases kr (y/256) sp.st.length with h|h
   ·omega
   ·exact absurd (by rw[zP,zV (by simpa using h)];rfl) i.2
  refine nz aB (cP (m:=y/8) (by rw[Yq O];simp) O (Nq w (gd.bO e) u v λz e2 B=>?_));have:=hR z (Ext.cut ((bK.to e).trans e2)) ?_
  ·rw[d]at this;exact this
  ·unfold ZU;rw[zC d];exact dL.mono dK.loc B λb _ a=>by
    rcases a with a|a
    ·exact .inl a.1
    ·exact .inr (zh e.1 a)
def KZ (n:Nat):Sp:=⟨List.replicate n 0,λ_=>0,0⟩
theorem Rt {U:Hp}{F:Rg}{p q r n c:Nat}(h1:1<=n)(h2:n<=1024)(hc:n<=c)(hd:bY U p [.slice (some ⟨q,0,none⟩) n c,.map (some r),.int .i64 0])(hq:bY U q (gK (List.replicate n 0)))(hr:dH U r .i64 .s [])
 (hF:F p/\F q/\F r) (hne:p≠q/\p≠r/\q≠r):fC U F p q r [] (λ_=>0) (KZ n):=by
 have b:∀k:Nat,(List.replicate n 0)[k]?≠some 2:=λk a=>by
  rw[mc]at a;split at a<;>cases a
 refine⟨⟨c,by simpa[KZ]using hc,by simpa[KZ]using hd⟩,⟨[],by simpa[KZ]using hq⟩,hr,λx=>?_,λk s e=>(by cases e),λk g h1=>absurd h1 (b k),λk a=>absurd a (b k),⟨hF.1,hF.2.1,hF.2.2,hne⟩,λw _=>rfl,by simpa[KZ]using h1,by simpa[KZ]using h2,λx d=>?_,by simp[KZ]⟩
 ·constructor
  ·intro h;cases h
  ·rintro⟨k,_,a⟩;exact absurd a (b k)
 ·have:=y6 d;omega
theorem Jp {n:Nat}(h1:1<=n)(h2:n<=1024){R:Option Addr->Int->Hp->Prop}(hR:∀σ' p',bK U σ'->U.size<=p'->dK σ' (λb=>U.size<=b) p' (KZ n)->R (some ⟨p',0,none⟩) 0 σ'):QM.c (n:Int) U R:=by
 refine QM.o ?_;unfold QM.v;refine bW.intro (fR O ?_);rw[zM O];refine cB rfl (mk O O λd r e1 p=>sJ λw x e2 e=>nw (cs:=[.slice (some ⟨U.size,0,none⟩) n n,.map (some d.size),.int .i64 0]) λi u a g=>?_);have j:=Ext.bT a (Ext.bT e2 p id) id;have m:=Ext.fO a (e .i64 .s) id;refine hR i _ (Ext.trans (Ext.trans e1 e2) a) O ⟨U.size,d.size,[],_,Rt h1 h2 (zD _) g ?_ m ⟨O,O,O⟩ O⟩;rw[NY];exact j
end Go.Ar