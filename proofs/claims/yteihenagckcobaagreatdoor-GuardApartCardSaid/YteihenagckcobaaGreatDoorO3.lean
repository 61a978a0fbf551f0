/- Texts joined. -/
import Derived.Lib.Overlaps
import Derived.Laws.Externs
import Derived.Test.YteihenagckcobaaGreatDoorO2
set_option linter.unusedVariables false
set_option linter.unusedSimpArgs false
namespace Go.Proofs
open Go.Vc
set_option maxRecDepth 100000
def Zv.h:Hn:=.q .o1 (.q (.q (.cR (.seq [.op,.op,.op,.op,.cX false 3 (RI.ops 3)])) .aK) (.q (.q .o3 (.k (.loop [(15,.I)] (.q .o1 (.q (.c .l .l) (.q (.k (.q .o6 (.q (.cR (.gL true [1] [(37,.one .b)] (.take 0 (.all [(1,.take 2 (.take 3 (.split 23 (.take 4 (.take 5 (.take 6 (.take 7 (.take 8 (.take 9 (.take 10 (.take 11 (.take 12 (.take 13 (.take 14 (.take 15 (.take 16 (.take 17 (.done))))))))))))))) (.take 4 (.take 5 (.take 6 (.split 26 (.take 7 (.take 9 (.take 10 (.take 11 (.take 12 (.take 13 (.all [(8,.all [(14,.take 15 (.take 16 (.take 17 (.done))))]),(14,.all [(8,.take 15 (.take 16 (.take 17 (.done))))])]))))))) (.take 7 (.take 8 (.take 9 (.take 10 (.take 11 (.take 12 (.take 13 (.take 14 (.take 15 (.take 16 (.take 17 (.done)))))))))))))))))))])))) .aK))) .o2)))))) .aM))
def Zv.v (a:Sl)(b:Hp)(c:aO):Prop:=bV (λd e=>If d (c false e) (X9 [bN] (λf=>f 0 e) λg (h:Int) i=>If (h<((a.len:Nat):Int)) (Ix a.a a.len h 3 λj=>aQ j 0 i λk=>aQ j 1 i λl=>aQ j 2 i λm=>aV #[.I 0,.I 0,.I 0] 137 i λn o=>aR n 0 (.I k) o λp=>aR n 1 (.I l) p λq=>aR n 2 (.I m) q λr=>Jn [.b] (λ(s:Bool) t=>If s (c false t) (bL (h+1) λu=>g u t)) λv=>eI r λw=>aS w n 0 λx=>aS w n 1 λy=>aS w n 2 λz=>Qv.c x y z r λaa ab=>If (!aa) (v true ab) (If (h>0) (bL (h-1) λac=>Ix a.a a.len ac 3 λad=>(aQ n 0 ab λae=>aQ ad 0 ab λaf=>v (decide (ae<=af)) ab) ∧ (aQ ad 0 ab λag=>aQ n 0 ab λah=>v (decide (ah<=ag)) ab)) (v false ab))) (c true i))) λai=>If (((a.len:Nat):Int)<1) (ai true b) (ai (decide (((a.len:Nat):Int)>40)) b)
theorem Zv.o {a b c}(d:Zv.v a b c):Zv.c a b c:=Wa Tryz.func140 (x:=Zv.h) (R0 d)
def Z7.h:Hn:=.q .o4 (.q (.k (.q .o4 (.c .aL (.q (.cR (.gL true [] [(13,.one .b)] (.tk [0,1,2] (.split 16 (.tk [3,4,5,6,7,8,9,10,11,12,13,14,15,16] (.done)) (.tk [3,4,5,6] (.split 20 (.tk [7,8,9,10,11,12,13,14,15,16] (.done)) (.tk [7,8,9,10] (.split 24 (.tk [11,12,13,14,15,16] (.done)) (.take 11 (.take 13 (.all [(12,.take 14 (.take 15 (.take 16 (.done))))]))))))))))) .aJ)))) (.q .o4 (.q (.q .o2 .aJ) (.q .o3 .l))))
def Z7.v (a:Sl)(b c:Int)(d:Hp)(e:Int->Int->Hp->Prop):Prop:=aV #[.I b] 3 d λf g=>aV #[.I c] 3 g λh i=>Zv.c a i λj k=>If (!j) (e 0 2 k) (Jn [.b] (λ(l:Bool) m=>If l (e 0 1 m) (Wl.c a ⟨203,#[],#[.pointer (some f),.pointer (some h)]⟩ m λn o=>If (n<0) (e 0 4 o) (e n 0 o))) λp=>eI k λq=>gE q bN f λ(r:Int)=>If (r<1) (p true k) (gE q bN h λ(s:Int)=>If (s<1) (p true k) (gE q bN h λ(t:Int)=>If (t>256) (p true k) (gE q bN h λ(u:Int)=>gE q bN h λ(v:Int)=>Z4.c u k λw x=>And (q x) <| p (w != v) x))))
theorem Z7.o {a b c d e}(f:Z7.v a b c d e):Z7.c a b c d e:=Wa Tryz.func145 (x:=Z7.h) (R0 f)
def Qv.h:Hn:=.q .o2 (.q (.cR (.seq [.op,.op,.op,.op,.cX true 3 (RI.ops 3),.op,.cX true 4 (RI.ops 4),.op,.cX true 3 (RI.ops 3),.op,.cX true 3 (RI.ops 3),.op,.cX true 6 (RI.ops 6),.op,.cX true 3 (RI.ops 3),.op,.cX true 3 (RI.ops 3),.op])) .l)
def Qv.v (a b c:Int)(d:Hp)(e:aO):Prop:=aV #[.I a,.I b,.I c] 137 d λf g=>aQ f 0 g λh=>bV (λi j=>bV (λk l=>bV (λm n=>bV (λo p=>bV (λq r=>bV (λs t=>bV (λu v=>e u v) λw=>If s (aQ f 2 t λx=>w (decide (x<=32)) t) (w false t)) λy=>If q (aQ f 2 r λz=>y (decide (z≥1)) r) (y false r)) λaa=>If o (aQ f 1 p λab=>bL (ab*256) λac=>aQ f 0 p λad=>aa (decide (ac≥ad)) p) (aa false p)) λae=>If m (aQ f 1 n λaf=>ae (decide (af<=4)) n) (ae false n)) λag=>If k (aQ f 1 l λah=>ag (decide (ah≥1)) l) (ag false l)) λai=>If i (aQ f 0 j λaj=>Nz 8 <| ai ((aj.tmod 8)==0) j) (ai false j)) λak=>If (h≥8) (aQ f 0 g λal=>ak (decide (al<=512)) g) (ak false g)
theorem Qv.o {a b c d e}(f:Qv.v a b c d e):Qv.c a b c d e:=Wa Tryz.func176 (x:=Qv.h) (R0 f)
def Zz.h:Hn:=.q .o2 (.q .o7 .l)
def Zz.v (a b c:Int)(d:Hp)(e:aN):Prop:=aV #[.I a,.I b,.I c] 137 d λf g=>aQ f 1 g λh=>bL (h*256) λi=>aQ f 0 g λj=>Nz j<|bL (i.tdiv j) λk=>e k g
theorem Zz.o {a b c d e}(f:Zz.v a b c d e):Zz.c a b c d e:=Wa Tryz.func177 (x:=Zz.h) (R0 f)
def Z4.h:Hn:=.q .o1 (.q .o1 (.q (.q .o1 (.k (.loop [(3,.I),(4,.I)] (.q (.q .o3 (.c .l .l)) (.q (.k .o2) .o3))))) .aL))
def Z4.v (a:Int)(b:Hp)(c:aN):Prop:=X9 [bN,bN] (λd=>d 0 1 b) λe (f:Int) (g:Int) h=>If (g<=a) (bL (g*2) λi=>e g i h) (c f h)
theorem Z4.o {a b c}(d:Z4.v a b c):Z4.c a b c:=Wa Tryz.func201 (x:=Z4.h) (R0 d)
def ZN.h:Hn:=.q .o2 (.q (.cR (.seq [.op,.op,.op,.op,.op,.cX true 5 (RI.ops 5),.op])) .l)
def ZN.v (a b c:Int)(d e:Addr)(f:Hp)(g:aO):Prop:=aV #[.I a,.I b,.I c] 137 f λh i=>aQ h 0 i λj=>bM d i λk=>bV (λl m=>g l m) λn=>If (j≥k) (aQ h 0 i λo=>bM e i λp=>Nz p <| n ((o.tmod p)==0) i) (n false i)
theorem ZN.o {a b c d e f g}(h:ZN.v a b c d e f g):ZN.c a b c d e f g:=Wa Tryz.func203 (x:=ZN.h) (R0 h)
def Zq.h:Hn:=.q .o3 (.q (.q .o3 .aJ) (.q .o4 .l))
def Zq.v (a b c:Int)(d:Hp)(e:Int->Int->Hp->Prop):Prop:=aV #[.I a,.I b,.I c] 137 d λf g=>aQ f 0 g λh=>aQ f 1 g λi=>aQ f 2 g λj=>Qv.c h i j g λk l=>If (!k) (e 0 1 l) (aQ f 0 l λm=>aQ f 1 l λn=>aQ f 2 l λo=>Zz.c m n o l λp q=>e p 0 q)
theorem Zq.o {a b c d e}(f:Zq.v a b c d e):Zq.c a b c d e:=Wa Tryz.func247 (x:=Zq.h) (R0 f)
end Go.Proofs
namespace Go.Ar
open Go Go.Vc Go.Proofs
variable {U:Hp}
theorem E5 (x y z:Int){R:aO}(hR:∀σ',bK U σ'->R (Ug x y z) σ'):Qv.c x y z U R:=by
 refine Qv.o ?_;unfold Qv.v;refine nw (cs:=[.int .i64 x,.int .i64 y,.int .i64 z]) λh A e b=>?_;have p:Ug x y z=false->R false h:=λg=>g▸hR h e;have a:¬(8<=x/\x<=512/\x%8=0/\1<=y/\y<=4/\x<=y*256/\1<=z/\z<=32)->R false h:=λg=>p (by rw[←pS,UZ];exact g);refine b.rI rfl (bV.intro ?_);refine cQ (λm=>b.rI rfl (bV.intro ?_)) λm=>?_
 case refine_2=>
  iterate 6 refine bV.intro (cB rfl ?_)
  exact a O
 refine cQ (λu=>b.rI rfl (nz aB (bV.intro ?_))) λu=>?_
 case refine_2=>
  iterate 5 refine bV.intro (cB rfl ?_)
  exact a O
 rw[Qp O];refine cO (λd=>b.rI rfl (bV.intro ?_)) λd=>?_
 case refine_2=>
  have:¬x%8=0:=by simpa using d
  iterate 4 refine bV.intro (cB rfl ?_)
  exact a O
 have j:x%8=0:=by simpa using d
 refine cQ (λi=>b.rI rfl (bV.intro ?_)) λi=>?_
 case refine_2=>
  iterate 3 refine bV.intro (cB rfl ?_)
  exact a O
 refine cQ (λs=>b.rI rfl (ar O O (b.rI rfl (bV.intro ?_)))) λs=>?_
 case refine_2=>
  iterate 2 refine bV.intro (cB rfl ?_)
  exact a O
 refine cQ (λr=>b.rI rfl (bV.intro ?_)) λr=>?_
 case refine_2=>exact bV.intro (cB rfl (a O))
 refine cQ (λw=>b.rI rfl ?_) λw=>a O;have:decide (z<=32)=Ug x y z:=by
  rw[lZ,UZ];simp;omega
 rw[this];exact hR h e
theorem LL {c:bZ}(hc:c.ok){R:aN}(hR:∀σ',bK U σ'->R (c.n:Int) σ'):Zz.c c.size c.aF c.batch U R:=by
 refine Zz.o ?_;unfold Zz.v;have h:=hc;unfold bZ.ok at h;refine nw (cs:=[.int .i64 c.size,.int .i64 c.aF,.int .i64 c.batch]) λh b e a=>?_;refine a.rI rfl (cP (m:=c.aF*256) aA O (a.rI rfl (nz O ?_)));refine cP (m:=c.n) ?_ (by have:=hc.kx;omega) (hR _ e);rw[XO O];simp[bZ.n]
theorem F4 (x y z:Int){R:Int->Int->Hp->Prop}(h1:∀c:bZ,c.ok->x=c.size->y=c.aF->z=c.batch->∀σ',bK U σ'->R (c.n:Int) 0 σ')(h0:Ug x y z=false->∀σ',bK U σ'->R 0 1 σ'):Zq.c x y z U R:=by
 refine Zq.o ?_;unfold Zq.v;refine nw (cs:=[.int .i64 x,.int .i64 y,.int .i64 z]) λh i e b=>?_;refine b.rI rfl (b.rI rfl (b.rI rfl (E5 _ _ _ λj e2=>?_)));have a:=e2.bT b id;cases hk:Ug x y z
 ·exact cE rfl (h0 hk _ (e.trans e2))
 ·obtain⟨c,d,_,rfl,rfl,rfl⟩:=Gq hk;exact cB rfl (a.rI rfl (a.rI rfl (a.rI rfl (LL d λm g=>h1 c d rfl rfl rfl _ ((e.trans e2).trans g)))))
end Go.Ar
namespace Go.Proofs
open Go.Vc
set_option maxRecDepth 100000
def Xh.h:Hn:=.q .o1 (.q (.cR (.seq [.op,.op,.op,.cX true 6 (RI.ops 6),.op])) .l)
def Xh.v (a:R2)(b:Hp)(c:aO):Prop:=bV (λd e=>c d e) λf=>If (!a.isNone) (bE a 0 b λh=>f (decide (((h.len:Nat):Int)>0)) b) (f false b)
theorem Xh.o {a b c}(d:Xh.v a b c):Xh.c a b c:=Wa Tryz.func191 (x:=Xh.h) (R0 d)
def Kr.h:Hn:=.q .o2 (.q (.q (.cR (.seq [.op,.op,.op,.cX false 2 [.op,.op],.op,.cX false 3 (RI.ops 3)])) .aJ) (.q .o6 .l))
def Kr.v (a:Int)(b:Hp)(c:Option Addr->Int->Hp->Prop):Prop:=bV (λd e=>bV (λf g=>If f (c none 1 g) (Mk a a 8 3 [.I 0] g λh i=>aV #[.slice h.a h.len h.cap] 280 i λj k=>c (some j) 0 k)) λl=>If d (l true e) (Nz 16 <| l ((a.tmod 16) != 0) e)) λm=>If (a<16) (m true b) (m (decide (a>1024)) b)
theorem Kr.o {a b c}(d:Kr.v a b c):Kr.c a b c:=Wa Tryz.func198 (x:=Kr.h) (R0 d)
def Xo.h:Hn:=.q .o1 (.q .o6 .l)
def Xo.v (a:R2)(b c:Int)(d:Hp)(e:aN):Prop:=aV #[.I 1] 3 d λf g=>XE.c a b c 2 ⟨some f,1,1⟩ g λh i=>e h i
theorem Xo.o {a b c d e}(f:Xo.v a b c d e):Xo.c a b c d e:=Wa Tryz.func220 (x:=Xo.h) (R0 f)
def YA.h:Hn:=.q .o1 (.q .o7 .l)
def YA.v (a:R2)(b:Hp)(c:aN):Prop:=bE a 0 b λe=>Nz 16<|bL (((e.len:Nat):Int).tdiv 16) λf=>c f b
theorem YA.o {a b c}(d:YA.v a b c):YA.c a b c:=Wa Tryz.func224 (x:=YA.h) (R0 d)
def Y7.h:Hn:=.q .o1 (.q (.o 11) .l)
def Y7.v (a:R2)(b:Int)(c:Hp)(d:Sl->Hp->Prop):Prop:=bE a 0 c λf=>bL (b*16) λg=>bL (b+1) λh=>bL (h*16) λi=>eY f 1 g i (f.cap:Nat) λj=>d j c
theorem Y7.o {a b c d}(e:Y7.v a b c d):Y7.c a b c d:=Wa Tryz.func226 (x:=Y7.h) (R0 e)
def XE.h:Hn:=.q .o2 (.q (.k (.q .o4 (.c .aM (.q (.cR (.seq [.op,.op,.op,.cX false 2 [.op,.op],.op,.cX false 7 (RI.ops 7),.op,.cX false 9 (RI.ops 9),.op])) .aK)))) (.q .gT (.q (.q .o3 .aK) (.q .o3 .aM))))
def XE.v (a:R2)(b c d:Int)(e:Sl)(f:Hp)(g:aN):Prop:=aV #[.slice e.a e.len e.cap] 34 f λh i=>Xh.c a i λj k=>If (!j) (g 5 k) (bV (λl m=>bV (λn o=>bV (λp q=>If p (g 1 q) (bE a 0 q λs=>bL (b+c) λt=>eY s 1 b t (s.cap:Nat) λu=>Wx.c u ⟨271,#[],#[.pointer (some h)]⟩ q λv w=>If v (g 5 w) (Qh.c u d w λx=>g 0 x))) λy=>If n (y true o) (bE a 0 o λaa=>bL (((aa.len:Nat):Int)-b) λab=>y (decide (c>ab)) o)) λac=>If l (ac true m) (bE a 0 m λae=>ac (decide (b>((ae.len:Nat):Int))) m)) λaf=>If (b<0) (af true k) (af (decide (c<1)) k))
theorem XE.o {a b c d e f g}(h:XE.v a b c d e f g):XE.c a b c d e f g:=Wa Tryz.func230 (x:=XE.h) (R0 h)
def Yi.h:Hn:=.q .o2 (.q (.k (.q .o4 (.c .aL (.q (.cR (.seq [.op,.op,.op,.cX false 4 (RI.ops 4),.op])) .aJ)))) (.q .o5 .l))
def Yi.v (a:R2)(b:Int)(c:Hp)(d:Sl->Int->Hp->Prop):Prop:=Xh.c a c λe f=>If (!e) (d ⟨none,0,0⟩ 5 f) (bV (λg h=>If g (d ⟨none,0,0⟩ 1 h) (Y7.c a b h λi j=>d i 0 j)) λk=>If (b<0) (k true f) (YA.c a f λl m=>k (decide (b≥l)) m))
theorem Yi.o {a b c d}(e:Yi.v a b c d):Yi.c a b c d:=Wa Tryz.func233 (x:=Yi.h) (R0 e)
def Qh.h:Hn:=.q .o3 (.k (.loop [(7,.I)] (.q .o1 (.q (.c .l .l) (.q (.k (.q .o2 .o5)) .o2)))))
def Qh.v (a:Sl)(b:Int)(c:Hp)(d:aP):Prop:=X9 [bN] (λe=>e 0 c) λf (g:Int) h=>If (g<((a.len:Nat):Int)) (Ix a.a a.len g 1 λi=>dS i (.I b) h λj=>bL (g+1) λk=>f k j) (d h)
theorem Qh.o {a b c d}(e:Qh.v a b c d):Qh.c a b c d:=Wa Tryz.func235 (x:=Qh.h) (R0 e)
def Xv.h:Hn:=.q .o1 (.q .o6 .l)
def Xv.v (a:R2)(b c:Int)(d:Hp)(e:aN):Prop:=aV #[.I 2,.I 3] 3 d λf g=>XE.c a b c 1 ⟨some f,2,2⟩ g λh i=>e h i
theorem Xv.o {a b c d e}(f:Xv.v a b c d e):Xv.c a b c d e:=Wa Tryz.func255 (x:=Xv.h) (R0 f)
def Yo.h:Hn:=.q .o1 (.q .o5 .l)
def Yo.v (a:Int)(b:Addr)(c:Hp)(d:aO):Prop:=jj b c λe=>Wp.c e a c λf g=>d (!f) g
theorem Yo.o {a b c d}(e:Yo.v a b c d):Yo.c a b c d:=Wa Tryz.func271 (x:=Yo.h) (R0 e)
def XF.h:Hn:=.q .o1 (.q (.q (.cR (.seq [.op,.op,.op,.op,.cX false 2 [.op,.op],.op,.cX false 7 (RI.ops 7)])) .aK) (.q .o8 .l))
def XF.v (a:R2)(b:Int)(c:Hp)(d:aN):Prop:=Xh.c a c λe f=>bV (λg h=>bV (λi j=>If i (d (-1) j) (bE a 0 j λl=>Ix l.a l.len b 1 λm=>bM m j λn=>d n j)) λo=>If g (o true h) (bE a 0 h λq=>o (decide (b≥((q.len:Nat):Int))) h)) λr=>If (!e) (r true f) (r (decide (b<0)) f)
theorem XF.o {a b c d}(e:XF.v a b c d):XF.c a b c d:=Wa Tryz.func281 (x:=XF.h) (R0 e)
def X1.h:Hn:=.q .o1 (.q .o8 (.q (.k (.q .o3 (.c .aL (.q .o5 .aK)))) (.q .o2 .aM)))
def X1.v (a:R2)(b:Int)(c:Hp)(d:aN):Prop:=Yi.c a b c λe f g=>If (f != 0) (d f g) (Ix e.a e.len 0 1 λh=>bM h g λi=>If (i != 0) (d 5 g) (Qh.c e 3 g λj=>d 0 j))
theorem X1.o {a b c d}(e:X1.v a b c d):X1.c a b c d:=Wa Tryz.func287 (x:=X1.h) (R0 e)
end Go.Proofs
namespace Go.Ar
open Go Go.Vc Go.Proofs
open Go.Bu (Zc)
variable {U:Hp}{F:Rg}{p q:Nat}{st:List Nat}
structure ic (U:Hp) (p q:Nat) (st:List Nat):Prop where
 hd:∃cap,st.length<=cap/\bY U p [.slice (some ⟨q,0,none⟩) st.length cap]
 row:∃rest,bY U q (ints st++rest)
 ne:p≠q
 n1:16<=st.length
 n2:st.length<=1024
 n3:st.length%16=0
theorem ic.bS {σ':Hp}(h:ic U p q st)(e:Ext F U σ')(hp:¬F p)(hq:¬F q):ic σ' p q st:=
 ⟨by obtain⟨c,a,b⟩:=h.hd;exact⟨c,a,e.bT b hp⟩,by obtain⟨r,a⟩:=h.row;exact⟨r,e.bT a hq⟩,h.ne,h.n1,h.n2,h.n3⟩
theorem ic.bO {σ':Hp}(h:ic U p q st)(e:bK U σ'):ic σ' p q st:=h.bS e id id
theorem ic.lt (h:ic U p q st):p<U.size/\q<U.size:=by
 obtain⟨_,_,b⟩:=h.hd;obtain⟨_,a⟩:=h.row;exact⟨b.lt,a.lt⟩
theorem ic.rS (h:ic U p q st){K:Sl->Prop}(hK:∀cap,st.length<=cap->K ⟨some ⟨q,0,none⟩,st.length,cap⟩):jj (Addr.add ⟨p,0,none⟩ 0) U K:=by
 obtain⟨c,b,a⟩:=h.hd;exact a.rS rfl (hK c b)
theorem ic.part (h:ic U p q st){s:Sl}{a n:Nat}(ha:s.a=some ⟨q,a,none⟩)(hn:s.len=n)(hl:a+n<=st.length):cW s 1 (ints ((st.drop a).take n)) U (· = q):=by
 obtain⟨r,e⟩:=h.row;have b:((st.drop a).take n).length=n:=by simp;omega
 refine e.gF ha (by rw[QI,b,hn];simp) λj d=>?_;rw[QI,b]at d;rw[ze (by rw[QI];omega)];simp[ints,zj,d,kW]
theorem jF {b o n c:Nat}{cs:List Value}(hb:bY U b cs)(hl:o+n<=cs.length)(hn:n<=1000000)(v:Nat){R:aP}
 (hR:∀σ',Qo U σ' b->bY σ' b (cs.take o++List.replicate n (.int .i64 (v:Int))++cs.drop (o+n))->R σ'):Qh.c ⟨some ⟨b,o,none⟩,n,c⟩ v U R:=by
 refine Qh.o ?_;unfold Qh.v;refine ZX (a:=bN) (λ(t:Int) p=>∃i:Nat,t=(i:Int)/\i<=n/\Qo U p b/\bY p b (cs.take o++List.replicate i (.int .i64 (v:Int))++cs.drop (o+i))) (λt _=>n-t.toNat) ⟨0,rfl,O,⟨rfl,λ_ _=>rfl⟩,by simpa using hb⟩ ?_;rintro t p ⟨i,rfl,x,r,j⟩;refine cQ (λu=>?_) λs=>?_
 ·simp only at u;refine ix O aC ?_;rw[add_lit];refine j.s0 aE λy d g=>?_;refine cP (m:=i+1) O O ⟨⟨i+1,rfl,O,⟨d.1.trans r.1,λk w=>(d.2 k w).trans (r.2 k w)⟩,?_⟩,O⟩;have:(cs.take o++List.replicate i (Value.int .i64 (v:Int))++cs.drop (o+i)).set (o+(i:Int).toNat*1) (Value.int .i64 (v:Int))=cs.take o++List.replicate (i+1) (Value.int .i64 (v:Int))++cs.drop (o+(i+1)):=by
   rw[List.set_append_right _ _ aE];have e:o+(i:Int).toNat*1-(cs.take o++List.replicate i (Value.int .i64 (v:Int))).length=0:=by simp;omega
   rw[e,wQ O,List.set_cons_zero,B1];simp[ka,vR]
  rw[this]at g;exact g
 ·simp only at s;have:i=n:=by omega
  subst this;exact hR p r j
theorem ic.fill (h:ic U p q st){a n:Nat}{r:List Value}{σ':Hp}{v:Nat}(hrow:bY U q (ints st++r))(hl:a+n<=st.length)(ho:Qo U σ' q)
 (hb:bY σ' q ((ints st++r).take a++List.replicate n (.int .i64 (v:Int))++(ints st++r).drop (a+n))):ic σ' p q (gC st a (a+n) v):=by
 obtain⟨c,e,g⟩:=h.hd;have b:=Ku st a (a+n) v;refine⟨⟨c,by rw[b];exact e,?_⟩,⟨r,?_⟩,h.ne,by rw[b];exact h.n1,by rw[b];exact h.n2,by rw[b];exact h.n3⟩
 ·rw[b];exact Ws ho g h.ne
 ·rw[J7 O hl,UJ,UJ];have e1:(ints st++r).take a=ints (st.take a):=by
   rw[oT (by rw[QI];omega)];simp[ints]
  have e2:(ints st++r).drop (a+n)=ints (st.drop (a+n))++r:=by
   rw[List.drop_append_of_le_length (by rw[QI];omega)];simp[ints]
  have d:ints (List.replicate (a+n-a) v)=List.replicate n (.int .i64 (v:Int)):=by
   rw[Ah];simp[ints]
  rw[e1,e2]at hb;rw[d];simpa[ka]using hb
theorem ic.jF (h:ic U p q st){a n c:Nat}(hl:a+n<=st.length)(v:Nat){R:aP}(hR:∀σ',Ext (· = q) U σ'->ic σ' p q (gC st a (a+n) v)->R σ') :
 Qh.c ⟨some ⟨q,a,none⟩,n,c⟩ v U R:=by
 obtain⟨r,b⟩:=h.row;have:=h.n2;exact Ar.jF b (by simp[QI];omega) O v λσ' d e=>hR σ' d.ext (h.fill b hl d e)
theorem Bv (h:ic U p q st){R:aO}(hR:R true U):Xh.c (aW p) U R:=by
 refine Xh.o ?_;unfold Xh.v;refine bV.intro (cE rfl (aG (h.rS λcap _=>?_)));have:=h.n1;rw[zJ aC];exact hR
theorem JH (h:ic U p q st){R:aN}(hR:R ((st.length/16:Nat):Int) U):YA.c (aW p) U R:=by
 refine YA.o ?_;unfold YA.v;have:=h.n2;refine aG (h.rS λcap _=>nz aB ?_);refine cP (m:=st.length/16) ?_ O hR;rw[XO O];simp
theorem J9 (h:ic U p q st){k:Nat}(hk:16*k+16<=st.length){R:Sl->Hp->Prop}(hR:∀c,R ⟨some ⟨q,16*k,none⟩,16,c⟩ U):Y7.c (aW p) (k:Int) U R:=by
 refine Y7.o ?_;unfold Y7.v;have:=h.n2;refine aG (h.rS λcap a=>?_);refine cP (m:=16*k) O O (cP (m:=k+1) O O (cP (m:=16*k+16) O O ?_));refine iM O aC aC ?_;have e:16*k+16-16*k=16:=by omega
 rw[zB aC,e];simp only[zX,add_lit,m8,zH];exact hR _
theorem Jc (h:ic U p q st)(k:Int){R:Sl->Int->Hp->Prop}(h1:∀(x:Nat) c,k=(x:Int)->16*x+16<=st.length->R ⟨some ⟨q,16*x,none⟩,16,c⟩ 0 U)(h0:uo st.length k=false->R ⟨none,0,0⟩ 1 U) :
 Yi.c (aW p) k U R:=by
 refine Yi.o ?_;unfold Yi.v;have n3:=h.n3;refine Bv h (cB rfl (bV.intro (cQ (λa=>cE rfl (h0 ?_)) λa=>JH h ?_)))
 ·simp[uo];omega
 ·refine cQ (λb=>h0 ?_) λd=>?_
  ·simp[uo];omega
  ·obtain⟨x,rfl⟩:=zc (show 0<=k by omega);exact J9 h O λc=>h1 x c rfl O
theorem Cs {n x:Nat}(h:16*x+16<=n):uo n (x:Int)=true:=by simp[uo];omega
theorem ic.first (h:ic U p q st){x c:Nat}(hx:16*x+16<=st.length){K:Int->Prop}(hK:K ((st.getD (16*x) 0:Nat):Int)) :
 Ix (some ⟨q,16*x,none⟩) 16 0 1 λa=>gA .i64 a U K:=by
 have b:=h.part (s:=⟨some ⟨q,16*x,none⟩,16,c⟩) (n:=16) rfl rfl hx;refine b.re (i:=0) (x:=st.getD (16*x) 0) ?_ hK;simp[zj,kW,zP];rw[cU O];simp
theorem JA (h:ic U p q st)(k:Int){R:aN}(hR:∀σ',Ext (· = q) U σ'->ic σ' p q (iW st k)->R (kA st k) σ'):X1.c (aW p) k U R:=by
 refine X1.o ?_;unfold X1.v;refine Jc h k (λx c g i=>?_) λg=>?_
 ·subst g;have a:=Cs i;refine cB rfl (h.first (c:=c) i (cO (λd=>?_) λd=>?_))
  ·have e1:¬st.getD (16*x) 0=0:=by simpa using d
   have:kA st (x:Int)=5:=by simp only[kA,a,dE,zR,zB e1]
   have e2:iW st (x:Int)=st:=by simp[iW,this]
   have:=hR U (Ext.refl _ _);rw[e2]at this;simpa[*]using this h
  ·have e1:st.getD (16*x) 0=0:=by simpa using d
   have b:kA st (x:Int)=0:=by simp only[kA,a,dE,zR,e1]
   have e2:iW st (x:Int)=gC st (16*x) (16*x+16) 3:=by simp[iW,b]
   refine h.jF i 3 λσ' e j=>?_;have:=hR σ' e;rw[b,e2]at this;exact this j
 ·have b:kA st k=1:=by simp[kA,g]
  have e2:iW st k=st:=by simp[iW,b]
  refine cE rfl ?_;have:=hR U (Ext.refl _ _);rw[b,e2]at this;exact this h
theorem Cj {s:Sl}{xs:List Nat}(h:cW s 1 (ints xs) U F)(hl:xs.length<=1000000)(v:Nat){R:aN}(h1:∀i:Nat,xs[i]?=some v->(∀j:Nat,j<i->xs[j]?≠some v)->R (i:Int) U)(h0:v∉xs->R (-1) U) :
 WD.c s (v:Int) U R:=by
 refine WD.o ?_;unfold WD.v;have w:=h.oB;refine ZX (a:=bN) (λ(t:Int) x=>∃i:Nat,t=(i:Int)/\i<=xs.length/\x=U/\∀j,j<i->xs[j]?≠some v) (λt _=>xs.length-t.toNat) ⟨0,rfl,O,rfl,λj d=>O⟩ ?_;rintro t x ⟨i,rfl,B,rfl,b⟩;refine cQ (λz=>?_) λy=>?_
 ·have r:i<xs.length:=by omega
  have u:xs[i]?=some xs[i]:=cU r;refine h.re u ?_;rw[lE];refine cO (λg=>?_) λg=>?_
  ·have:v=xs[i]:=by simpa using g
   exact h1 i (by rw[u,this]) b
  ·have p:¬v=xs[i]:=by simpa using g
   refine cP (m:=i+1) O O ⟨⟨i+1,rfl,O,rfl,λj d=>?_⟩,O⟩;by_cases e:j=i
   ·subst e;rw[u];intro e2;cases e2;exact p rfl
   ·exact b j O
 ·refine h0 λA=>?_;obtain⟨j,d⟩:=zQ A;have:=(cV.1 d).1;exact b j O d
theorem NY {s:Sl}{xs:List Nat}(h:cW s 1 (ints xs) U F)(hl:xs.length<=1000000)(v:Nat){R:aO}(hR:R (xs.contains v) U):Wp.c s (v:Int) U R:=by
 refine Wp.o ?_;unfold Wp.v;refine Cj h hl v (λi b _=>?_) λa=>?_
 ·have:xs.contains v=true:=by simpa using zG b
  rw[this]at hR;rw[zJ O];exact hR
 ·have:xs.contains v=false:=by simpa using a
  rw[this]at hR;exact hR
theorem RD {s:Sl}{xs:List Int}(h:cW s 1 (xs.map (Value.int .i64)) U F)(hl:xs.length<=1000000000)(v:Int){R:aO}(hR:R (xs.contains v) U):Wp.c s v U R:=by
 refine Wp.o ?_;unfold Wp.v;refine WD.o ?_;unfold WD.v;have u:s.len=xs.length:=by have:=h.1;simp at this;omega
 refine ZX (a:=bN) (λ(t:Int) x=>∃i:Nat,t=(i:Int)/\i<=xs.length/\x=U/\∀j,j<i->xs[j]?≠some v) (λt _=>xs.length-t.toNat) ⟨0,rfl,O,rfl,λj d=>O⟩ ?_;rintro t x ⟨i,rfl,A,rfl,b⟩;refine cQ (λz=>?_) λy=>?_
 ·have r:i<xs.length:=by omega
  have w:xs[i]?=some xs[i]:=cU r;refine h.np w (cO (λg=>?_) λg=>?_)
  ·have e:v=xs[i]:=by simpa using g
   have:xs.contains v=true:=by rw[e];simp
   rw[this]at hR;show R (decide ((i:Int)≥0)) _;rw[zJ O];exact hR
  ·have p:¬v=xs[i]:=by simpa using g
   refine cP (m:=i+1) O O ⟨⟨i+1,rfl,O,rfl,λj d=>?_⟩,O⟩;by_cases e:j=i
   ·subst e;rw[w];intro e2;cases e2;exact p rfl
   ·exact b j O
 ·have:xs.contains v=false:=by
   simp only[q9,decide_eq_false_iff_not];intro hm;obtain⟨j,d⟩:=zQ hm;have:=(cV.1 d).1;exact b j O d
  rw[this]at hR;exact hR
def DN (f:Fv)(p:Nat->Bool)(U:Hp):Prop:=∀(x:Nat) (σ':Hp) (R:aO),bK U σ'->(∀σ'',bK σ' σ''->R (p x) σ'')->VM Tryz.prog f [.int .i64 (x:Int)] [.one .b] σ' R
theorem Rn {s:Sl}{xs:List Nat}(h:cW s 1 (ints xs) U F)(hl:xs.length<=1000000){f:Fv}{pr:Nat->Bool}(hf:DN f pr U){R:aO}(hR:∀σ',bK U σ'->R (xs.any pr) σ') :
 Wx.c s f U R:=by
 refine Wx.o ?_;unfold Wx.v;refine WQ.o ?_;unfold WQ.v;have u:=h.oB;refine ZX (a:=bN) (λ(t:Int) w=>∃i:Nat,t=(i:Int)/\i<=xs.length/\bK U w/\∀j x,j<i->xs[j]?=some x->pr x=false) (λt _=>xs.length-t.toNat) ⟨0,rfl,O,Ext.refl _ _,λj x p=>O⟩ ?_;rintro t w ⟨i,rfl,A,e,d⟩;refine cQ (λz=>?_) λy=>?_
 ·have g:i<xs.length:=by omega
  have r:xs[i]?=some xs[i]:=cU g;refine(aH.bO h e).re r (hf _ _ _ e λB e2=>?_);cases hp:pr xs[i]
  ·refine cB rfl (cP (m:=i+1) O O ⟨⟨i+1,rfl,O,e.trans e2,λj x p b=>?_⟩,O⟩);by_cases e3:j=i
   ·subst e3;rw[r]at b;cases b;exact hp
   ·exact d j x O b
  ·refine cE rfl ?_;have:xs.any pr=true:=kC.2 ⟨_,j3 g,hp⟩;show R (decide ((i:Int)≥0)) _;rw[zJ O,←this];exact hR _ (e.trans e2)
 ·have:xs.any pr=false:=by
   rw[mF];intro x r;obtain⟨j,p⟩:=zQ r;have:=(cV.1 p).1;simp[d j x O p]
  show R (decide ((-1:Int)≥0)) _;rw[show decide ((-1:Int)≥0)=false from rfl,←this];exact hR _ e
theorem J5 {c:Nat}{s:Sl}{fr:List Nat}{σ0:Hp}(hb:bY σ0 c [.slice s.a s.len s.cap])(hs:cW s 1 (ints fr) σ0 F)(hl:fr.length<=1000):DN ⟨271,#[],#[.pointer (some ⟨c,0,none⟩)]⟩ (λx=>!fr.contains x) σ0:=by
 intro x σ' R e hR;refine py (all := #[.int .i64 (x:Int),.pointer (some ⟨c,0,none⟩)]) (by kernel_rfl) aA ?_;refine Yo.o ?_;unfold Yo.v;refine(e.bT hb id).tO rfl ?_;exact NY (aH.bO hs e) O x (hR _ (Ext.refl _ _))
theorem Fa (h:ic U p q st)(a m:Int)(v:Nat){s:Sl}{fr:List Nat}(hs:cW s 1 (ints fr) U F)(hl:fr.length<=1000){R:aN}(hR:∀σ',Ext (· = q) U σ'->ic σ' p q (V7 st a m v fr)->R (GG st a m fr) σ') :
 XE.c (aW p) a m v s U R:=by
 refine XE.o ?_;unfold XE.v;have n2:=h.n2;have P:=h.lt.2;refine nw (cs:=[.slice s.a s.len s.cap]) λv1 N i D=>?_;have e:=h.bO i;have b:¬(0<=a/\1<=m/\m<=st.length-a)->R 1 v1:=λL=>by
  have d:Zc st.length a m=false:=by simp only[Zc,←uk];exact zK L
  have e1:GG st a m fr=1:=by simp[GG,d]
  have e2:V7 st a m v fr=st:=by simp[V7,e1]
  have:=hR v1 i.to;rw[e1,e2]at this;exact this e
 refine Bv e (cB rfl (bV.intro ?_));refine cQ (λK=>bV.intro (cE rfl (bV.intro (cE rfl (cE rfl (b O)))))) λK=>?_;refine bV.intro (cQ (λE=>bV.intro (cE rfl (cE rfl (b O)))) λE=>?_);refine aG (e.rS λcap u=>bV.intro (cQ (λB=>cE rfl (b (by simp only at *;omega))) λB=>?_));simp only at B;refine aG (e.rS λcap u=>ar aC aC (cQ (λw=>b (by simp only at *;omega)) λw=>?_));simp only at w;obtain⟨x,rfl⟩:=zc (show 0<=a by omega);obtain⟨y,rfl⟩:=zc (show 0<=m by omega);have j:x+y<=st.length:=by omega
 have d:Zc st.length (x:Int) (y:Int)=true:=by simp only[Zc,zF,zU];omega
 refine aG (e.rS λcap u=>cP (m:=x+y) O O (iM O aC aC ?_));rw[zB aC];simp only[zX,add_lit,m8,zH];have J:x+y-x=y:=by omega
 rw[J];have H:=e.part (s:=⟨some ⟨q,x,none⟩,y,cap-x⟩) (n:=y) rfl rfl j;refine Rn H aE (J5 (s:=s) D (aH.bO hs i) hl) λM e2=>?_;have A:=e.bO e2;have g:((st.drop x).take y).any (λz=>!fr.contains z) = !tQ st x y fr:=by
  rw[tQ,List.all_eq_not_any_not,Bool.not_not]
 rw[g];cases hA:tQ st x y fr
 ·have e1:GG st (x:Int) (y:Int) fr=5:=by simp[GG,d,hA]
  have r:V7 st (x:Int) (y:Int) v fr=st:=by simp[V7,e1]
  have:=hR M (i.to.trans e2.to);rw[e1,r]at this;exact cE rfl (this A)
 ·have e1:GG st (x:Int) (y:Int) fr=0:=by simp[GG,d,hA]
  have r:V7 st (x:Int) (y:Int) v fr=gC st x (x+y) v:=by simp[V7,e1]
  refine cB rfl (A.jF j v λv3 C G=>?_);have:=hR v3 (i.to.trans (e2.to.trans C));rw[e1,r]at this;exact this G
theorem xm {h:Hp}{b:Nat}{xs:List Nat}{n c:Nat}(hb:bY h b (ints xs))(hn:n=xs.length):cW ⟨some ⟨b,0,none⟩,n,c⟩ 1 (ints xs) h (· = b):=
 hb.gF (o:=0) rfl (by rw[QI];simp[hn]) λj _=>by rw[zH]
theorem Pb (h:ic U p q st)(a m:Int){R:aN}(hR:∀σ',Ext (· = q) U σ'->ic σ' p q (V7 st a m 1 [2,3])->R (GG st a m [2,3]) σ'):Xv.c (aW p) a m U R:=by
 refine Xv.o ?_;unfold Xv.v;refine nw (cs:=ints [2,3]) λv i e b=>?_;exact Fa (h.bO e) a m 1 (xm b rfl) aA λσ' d g=>hR σ' (e.to.trans d) g
theorem N9 (h:ic U p q st)(a m:Int){R:aN}(hR:∀σ',Ext (· = q) U σ'->ic σ' p q (V7 st a m 2 [1])->R (GG st a m [1]) σ'):Xo.c (aW p) a m U R:=by
 refine Xo.o ?_;unfold Xo.v;refine nw (cs:=ints [1]) λv i e b=>?_;exact Fa (h.bO e) a m 2 (xm b rfl) aA λσ' d g=>hR σ' (e.to.trans d) g
def xU (st:List Nat)(x:Int):Int:=if 0<=x/\x<st.length then((st.getD x.toNat 0:Nat):Int)else -1
theorem Lw (h:ic U p q st)(x:Int){R:aN}(hR:R (xU st x) U):XF.c (aW p) x U R:=by
 refine XF.o ?_;unfold XF.v;have n2:=h.n2;unfold xU at hR;refine Bv h (bV.intro (cB rfl (bV.intro (cQ (λi=>cE rfl ?_) λi=>aG (h.rS λcap g=>cQ (λb=>?_) λb=>?_)))))
 ·rw[zB O]at hR;exact hR
 ·simp only at b;rw[zB O]at hR;exact hR
 ·simp only at b;rw[zC O]at hR;obtain⟨y,rfl⟩:=zc (show 0<=x by omega);refine aG (h.rS λcap g=>?_);have d:=h.part (s:=⟨some ⟨q,0,none⟩,st.length,cap⟩) (a:=0) (n:=st.length) rfl rfl O;rw[List.drop_zero,mS]at d;have e:y<st.length:=by omega
  refine d.re (cU e) ?_;simpa[zP,cU e]using hR
theorem UR {s:Sl}{vs:List Value}(h:cW s 1 vs U F)(h1:∀v∈vs,dP v=true)(hl:s.len<=1000000){R:Sl->Hp->Prop}
 (hR:∀s' σ',s'.len=s.len->bK U σ'->bR s' 1 vs σ' (λb=>U.size<=b)->R s' σ'):WC.c s U R:=by
 refine WC.o ?_;unfold WC.v;exact FO h aB rfl h1 aB hl hR
theorem Ju {n:Nat}(h1:16<=n)(h2:n<=1024)(h3:n%16=0){R:Option Addr->Int->Hp->Prop}(hR:∀σ' p q,bK U σ'->U.size<=p->U.size<=q->ic σ' p q (List.replicate n 0)->R (some ⟨p,0,none⟩) 0 σ'):Kr.c (n:Int) U R:=by
 refine Kr.o ?_;unfold Kr.v;refine bV.intro (fR O (bV.intro (fR O (nz aB ?_))));rw[Qp O];have:(((n:Int)%16) != 0)=false:=by
  have:((n:Int)%16)=0:=by omega
  rw[this];rfl
 rw[this];refine cB rfl (mk O O λv i e b=>nw (cs:=[.slice (some ⟨U.size,0,none⟩) n n]) λj d e2 a=>?_);have g:(List.replicate n [Value.int .i64 0]).flatten=ints (List.replicate n 0):=by
  have:[Value.int .i64 0]=ints [0]:=rfl;rw[this];clear b hR
  induction n with
  | zero=>rfl
  | succ n ih=>simp[uZ,ints]
 rw[g]at b;refine hR _ _ _ (e.trans e2) O (zD _) ⟨⟨n,by simp,by simpa using a⟩,⟨[],by simpa using e2.bT b id⟩,O,by simpa using h1,by simpa using h2,by simpa using h3⟩
end Go.Ar
namespace Go.Proofs
open Go.Vc
set_option maxRecDepth 100000
def Zy.h:Hn:=.q .o1 (.q (.q .o3 .aJ) (.q (.cR (.tail 10 (RI.ops 10) [.op])) .l))
def Zy.v (a:R2)(b:Hp)(c:Int->Int->Hp->Prop):Prop:=aV #[.I 0,.I 0] 251 b λd e=>Yb.c a e λf g=>If (!f) (aR d 0 (.I 0) g λh=>aR d 1 (.I 0) h λi=>aQ d 0 i λj=>aQ d 1 i λk=>c j k i) (bD a 0 g λm=>bU a λn=>bM ((n.add 1).add 1) g λo=>aR d 0 (.I m) g λp=>aR d 1 (.I o) p λq=>aQ d 0 q λr=>aQ d 1 q λs=>c r s q)
theorem Zy.o {a b c}(d:Zy.v a b c):Zy.c a b c:=Wa Tryz.func179 (x:=Zy.h) (R0 d)
def Yk.h:Hn:=.q .o1 (.q (.q .o3 .aK) (.q .o6 .l))
def Yk.v (a:R2)(b:Hp)(c:aN):Prop:=Yb.c a b λd e=>If (!d) (c 0 e) (bE a 4 e λg=>c ((g.len:Nat):Int) e)
theorem Yk.o {a b c}(d:Yk.v a b c):Yk.c a b c:=Wa Tryz.func182 (x:=Yk.h) (R0 d)
def Yb.h:Hn:=.q .o1 (.q (.cR (.seq [.op,.op,.op,.cX true 6 (RI.ops 6),.op])) .l)
def Yb.v (a:R2)(b:Hp)(c:aO):Prop:=bV (λd e=>c d e) λf=>If (!a.isNone) (bE a 4 b λh=>f (decide (((h.len:Nat):Int)>0)) b) (f false b)
theorem Yb.o {a b c}(d:Yb.v a b c):Yb.c a b c:=Wa Tryz.func242 (x:=Yb.h) (R0 d)
def Kq.h:Hn:=.q .o3 (.q .o7 (.q (.q (.cR (.seq [.op,.op,.op,.cX false 2 [.op,.op],.op,.cX false 5 (RI.ops 5)])) .aJ) (.q (.cR (.held true [] (.tk [0,1,2] (.all [(3,.take 4 (.all [(5,.take 6 (.take 7 (.done)))]))])))) .l)))
def Kq.v (a b c d:Int)(e:Hp)(f:Option Addr->Int->Hp->Prop):Prop:=aV #[.I b,.I c,.I d] 137 e λg h=>aQ g 0 h λi=>aQ g 1 h λj=>aQ g 2 h λk=>Zq.c i j k h λl m n=>bV (λo p=>bV (λq r=>If q (f none 1 r) (eI r λs=>aS s g 0 λt=>aS s g 1 λu=>aS s g 2 λv=>Mk l l 8 3 [.I 0] r λw x=>And (s x) <| aV #[.I a,.I t,.I u,.I v,.slice w.a w.len w.cap,.I 0] 322 x λy z=>And (s z) <| f (some y) 0 z)) λaa=>If o (aa true p) (aQ g 1 p λab=>bL (1024-ab) λac=>aa (decide (a>ac)) p)) λad=>If (m != 0) (ad true n) (ad (decide (a<0)) n)
theorem Kq.o {a b c d e f}(g:Kq.v a b c d e f):Kq.c a b c d e f:=Wa Tryz.func257 (x:=Kq.h) (R0 g)
def Zo.h:Hn:=.q .o1 (.q .o8 (.q (.k (.q .o3 (.c .aL (.q .o9 .aK)))) (.q .o4 .aM)))
def Zo.v (a:R2)(b:Int)(c:Hp)(d:aN):Prop:=X0.c a b c λe f g=>If (f != 0) (d f g) (bE a 4 g λi=>Ix i.a i.len e 1 λj=>bM j g λk=>If (k==0) (d 9 g) (aV #[.I e] 3 g λl m=>Y8.c a 0 ⟨some l,1,1⟩ m λn=>d 0 n))
theorem Zo.o {a b c d}(e:Zo.v a b c d):Zo.c a b c d:=Wa Tryz.func278 (x:=Zo.h) (R0 e)
def Zi.h:Hn:=.q .o2 (.q (.q .o3 .aJ) (.q .o6 (.q (.q .o2 .aJ) (.q .o4 (.q .o5 .l)))))
def Zi.v (a:R2)(b:Hp)(c:Int->Int->Hp->Prop):Prop:=Yb.c a b λd e=>If (!d) (c 0 5 e) (bE a 4 e λg=>WD.c g 0 e λh i=>If (h<0) (c 0 6 i) (aV #[.I h] 3 i λj k=>Y8.c a 1 ⟨some j,1,1⟩ k λl=>Ym.c a h l λm n=>c m 0 n))
theorem Zi.o {a b c}(d:Zi.v a b c):Zi.c a b c:=Wa Tryz.func283 (x:=Zi.h) (R0 d)
def XW.h:Hn:=.q .o2 (.q (.q .o3 .aJ) (.q .o5 (.q (.q (.cR (.gL false [] [(32,.one .b)] (.take 0 (.take 1 (.all [(2,.take 3 (.take 4 (.split 18 (.take 5 (.take 6 (.take 7 (.take 8 (.take 9 (.take 10 (.take 11 (.take 12 (.take 13 (.take 14 (.take 15 (.take 16 (.take 17 (.take 18 (.done))))))))))))))) (.take 5 (.take 6 (.take 7 (.take 8 (.take 11 (.take 12 (.take 13 (.take 14 (.all [(9,.take 10 (.all [(15,.take 16 (.take 17 (.take 18 (.done))))])),(15,.all [(9,.take 10 (.take 16 (.take 17 (.take 18 (.done)))))])]))))))))))))]))))) .aJ) (.q .o9 .l))))
def XW.v (a:R2)(b:Int)(c:Hp)(d:Int->Int->Hp->Prop):Prop:=Yb.c a c λe f=>If (!e) (d 0 5 f) (Ym.c a 0 f λg h=>bL (b-g) λi=>Jn [.b] (λ(j:Bool) k=>If j (d 0 8 k) (bU a λl=>bM ((l.add 1).add 0) k λm=>Nz m<|bL (i.tdiv m) λn=>d n 0 k)) λo=>Ym.c a 0 h λp q=>If (b<p) (o true q) (bU a λr=>bU a λs=>(aX r 4 q λt=>bM ((s.add 1).add 0) q λu=>bL (((t.len:Nat):Int)*u) λv=>o (decide (i≥v)) q) ∧ (bM ((s.add 1).add 0) q λw=>aX r 4 q λx=>bL (((x.len:Nat):Int)*w) λy=>o (decide (i≥y)) q)))
theorem XW.o {a b c d}(e:XW.v a b c d):XW.c a b c d:=Wa Tryz.func290 (x:=XW.h) (R0 e)
def Yj.h:Hn:=.q .o2 (.q .o8 (.q (.q .o2 (.c (.q .o3 .l) .l)) (.q .gT .l)))
def Yj.v (a:R2)(b:Int)(c:Hp)(d:Bool->Int->Hp->Prop):Prop:=X0.c a b c λe f g=>If (f != 0) (d false f g) (bE a 4 g λi=>Ix i.a i.len e 1 λj=>bM j g λk=>d (k==1) 0 g)
theorem Yj.o {a b c d}(e:Yj.v a b c d):Yj.c a b c d:=Wa Tryz.func292 (x:=Yj.h) (R0 e)
def X0.h:Hn:=.q .o2 (.q .o8 (.q (.q (.cR (.seq [.op,.op,.op,.cX true 5 (RI.ops 5)])) .aJ) (.q .o4 .l)))
def X0.v (a:R2)(b:Int)(c:Hp)(d:Int->Int->Hp->Prop):Prop:=XW.c a b c λe f g=>bV (λh i=>If h (d 0 8 i) (d e f i)) λj=>If (f==0) (Ym.c a e g λk l=>j (k != b) l) (j false g)
theorem X0.o {a b c d}(e:X0.v a b c d):X0.c a b c d:=Wa Tryz.func304 (x:=X0.h) (R0 e)
def Y8.h:Hn:=.q .o3 (.k (.loop [(10,.I)] (.q .o1 (.q (.c .l .l) (.q (.k (.q .o3 (.q (.cR (.tail 16 (RI.ops 16) [.op])) .o8))) .o2)))))
def Y8.v (a:R2)(b:Int)(c:Sl)(d:Hp)(e:aP):Prop:=X9 [bN] (λf=>f 0 d) λg (h:Int) i=>If (h<((c.len:Nat):Int)) (Ix c.a c.len h 1 λj=>bM j i λk=>bD a 5 i λm=>bE a 4 i λo=>Ix o.a o.len k 1 λp=>bM p i λq=>bL (b-q) λr=>bL (m+r) λs=>bU a λt=>aR t 5 (.I s) i λu=>bE a 4 u λw=>Ix w.a w.len k 1 λx=>dS x (.I b) u λy=>bL (h+1) λz=>g z y) (e i)
theorem Y8.o {a b c d e}(f:Y8.v a b c d e):Y8.c a b c d e:=Wa Tryz.func305 (x:=Y8.h) (R0 f)
def Ym.h:Hn:=.q .o1 (.q (.oq 14) .l)
def Ym.v (a:R2)(b:Int)(c:Hp)(d:aN):Prop:=bD a 0 c λf=>bL (f*256) λg=>bU a λh=>bM ((h.add 1).add 0) c λi=>bL (b*i) λj=>bL (g+j) λk=>d k c
theorem Ym.o {a b c d}(e:Ym.v a b c d):Ym.c a b c d:=Wa Tryz.func306 (x:=Ym.h) (R0 e)
end Go.Proofs
namespace Go.Ar
open Go Go.Vc Go.Proofs
variable {U:Hp}{F:Rg}{p q:Nat}{c:bZ}{s:cF}
def nh (tk:List Bool):List Nat:=tk.map λb=>if b then 1 else 0
theorem vV (tk:List Bool):(nh tk).length=tk.length:=by simp[nh]
theorem HO {tk:List Bool}{i:Nat}{b:Bool}(h:tk[i]?=some b):(nh tk)[i]?=some (if b then 1 else 0):=by simp[nh,h]
theorem OR (tk:List Bool)(i:Nat)(b:Bool):nh (tk.set i b)=(nh tk).set i (if b then 1 else 0):=by simp[nh,u6]
structure ia (U:Hp) (p q:Nat) (c:bZ) (s:cF):Prop where
 hd:∃cap,c.n<=cap/\bY U p [.int .i64 (s.st:Int),.int .i64 (c.size:Int),.int .i64 (c.aF:Int),.int .i64 (c.batch:Int),.slice (some ⟨q,0,none⟩) c.n cap,.int .i64 (s.many:Int)]
 row:∃rest,bY U q (ints (nh s.tk)++rest)
 ne:p≠q
 len:s.tk.length=c.n
 ok:c.ok
 fit:s.st+c.aF<=1024
theorem ia.bS {σ':Hp}(h:ia U p q c s)(e:Ext F U σ')(hp:¬F p)(hq:¬F q):ia σ' p q c s:=
 ⟨by obtain⟨c,a,b⟩:=h.hd;exact⟨c,a,e.bT b hp⟩,by obtain⟨r,a⟩:=h.row;exact⟨r,e.bT a hq⟩,h.ne,h.len,h.ok,h.fit⟩
theorem ia.bO {σ':Hp}(h:ia U p q c s)(e:bK U σ'):ia σ' p q c s:=h.bS e id id
theorem ia.lt (h:ia U p q c s):p<U.size/\q<U.size:=by
 obtain⟨_,_,b⟩:=h.hd;obtain⟨_,a⟩:=h.row;exact⟨b.lt,a.lt⟩
theorem ia.rS (h:ia U p q c s){K:Sl->Prop}(hK:∀cap,c.n<=cap->K ⟨some ⟨q,0,none⟩,c.n,cap⟩):jj (Addr.add ⟨p,0,none⟩ 4) U K:=by
 obtain⟨b,d,a⟩:=h.hd;exact a.rS rfl (hK b d)
theorem ia.rI (h:ia U p q c s){i:Nat}{x:Int}(hx:∀a b:Value,([.int .i64 (s.st:Int),.int .i64 (c.size:Int),.int .i64 (c.aF:Int),.int .i64 (c.batch:Int),a,.int .i64 (s.many:Int)]:List Value)[0+i]?=some (.int .i64 x)){K:Int->Prop}(hK:K x):gA .i64 (Addr.add ⟨p,0,none⟩ i) U K:=by
 obtain⟨e,g,d⟩:=h.hd;exact d.rI (hx _ .nilFunc) hK
theorem ia.eZ (h:ia U p q c s){i j:Nat}{x:Int}(hx:∀a b:Value,([.int .i64 (s.st:Int),.int .i64 (c.size:Int),.int .i64 (c.aF:Int),.int .i64 (c.batch:Int),a,.int .i64 (s.many:Int)]:List Value)[0+i+j]?=some (.int .i64 x)){K:Int->Prop}(hK:K x):gA .i64 (Addr.add (Addr.add ⟨p,0,none⟩ i) j) U K:=by
 obtain⟨e,g,d⟩:=h.hd;exact d.eZ (hx _ .nilFunc) hK
theorem ia.kX (h:ia U p q c s)(cap:Nat):cW ⟨some ⟨q,0,none⟩,c.n,cap⟩ 1 (ints (nh s.tk)) U (· = q):=by
 obtain⟨r,a⟩:=h.row;refine a.gF (o:=0) rfl (by rw[QI,vV,h.len];simp) λj b=>?_;rw[zH,ze b]
theorem Ga (h:ia U p q c s){R:aO}(hR:R true U):Yb.c (aW p) U R:=by
 refine Yb.o ?_;unfold Yb.v;refine bV.intro (cE rfl (aG (h.rS λcap _=>?_)));have:=h.ok.ri;rw[zJ aC];exact hR
theorem Pm (h:ia U p q c s){R:aN}(hR:R (c.n:Int) U):Yk.c (aW p) U R:=by
 refine Yk.o ?_;unfold Yk.v;exact Ga h (cB rfl (aG (h.rS λcap _=>hR)))
theorem ya (h:ia U p q c s)(i:Nat)(hi:i<=1000){R:aN}(hR:R ((at_ c s i:Nat):Int) U):Ym.c (aW p) (i:Int) U R:=by
 refine Ym.o ?_;unfold Ym.v;have a:=h.ok;unfold bZ.ok at a;have:=h.fit;have b:i*c.size<=1000*512:=lW hi O;refine aG (h.rI (λ_ _=>rfl) (cP (m:=s.st*256) aA O (aG (h.eZ (λ_ _=>rfl) ?_))));exact cP (m:=i*c.size) aA O (cP (m:=at_ c s i) (by simp[at_]) (by unfold at_;omega) hR)
theorem y8 (h:ia U p q c s)(x:Int)(hx2:x<=9223372036854775807){R:Int->Int->Hp->Prop}(h1:∀i,idx c s x=some i->R (i:Int) 0 U)(h0:idx c s x=none->R 0 8 U):XW.c (aW p) x U R:=by
 refine XW.o ?_;unfold XW.v;have z:=h.ok;unfold bZ.ok at z;have C:=h.ok.kx;have r:=h.fit;have a:=h.len;have E:c.n*c.size<=128*512:=lW C O;refine Ga h (cB rfl (ya h 0 O ?_));have w:at_ c s 0=s.st*256:=by simp[at_]
 rw[w];refine yD ?_;refine Jn.intro (ya h 0 O ?_);rw[w];refine cQ (λB=>cE rfl (h0 ?_)) λA=>?_
 ·unfold idx;rw[zC O]
 ·rw[Uo O O];obtain⟨y,D⟩:=zc (show 0<=x by omega);have key:If (decide (x-((s.st*256:Nat):Int)≥((c.n*c.size:Nat):Int))) (R 0 8 U)
   (bU (some ⟨p,0,none⟩) λg=>gA .i64 ((g.add 1).add 0) U λd=>Nz d<|Ar .i64 ((x-((s.st*256:Nat):Int)).tdiv d) λe=>R e 0 U):=by
   refine cQ (λj=>h0 ?_) λu=>aG (h.eZ (λ_ _=>rfl) (nz O ?_))
   ·unfold idx;rw[a,zC O]
   ·have:idx c s x=some ((x-((s.st*256:Nat):Int)).toNat/c.size):=by unfold idx;rw[a,zB O]
    refine cP (m:=(x-((s.st*256:Nat):Int)).toNat/c.size) ?_ ?_ (h1 _ this)
    ·rw[XO O];have:x-((s.st*256:Nat):Int)=(((x-((s.st*256:Nat):Int)).toNat:Nat):Int):=by omega
     rw[this];simp
    ·have:=Nat.div_le_self (x-((s.st*256:Nat):Int)).toNat c.size;omega
  refine aG (aG ⟨h.rS λcap b=>h.eZ (λ_ _=>rfl) (cP (m:=c.n*c.size) aA O key),h.eZ (λ_ _=>rfl) (h.rS λcap b=>cP (m:=c.n*c.size) aA O key)⟩)
theorem D7 (h:ia U p q c s)(x:Int)(hx2:x<=9223372036854775807){R:Int->Int->Hp->Prop}(h1:∀i,obj c s x=some i->i<c.n->R (i:Int) 0 U)(h0:obj c s x=none->R 0 8 U):X0.c (aW p) x U R:=by
 refine X0.o ?_;unfold X0.v;have g:=h.ok;unfold bZ.ok at g;have j:=h.ok.kx;refine y8 h x hx2 (λi b=>bV.intro (cE rfl ?_)) λb=>bV.intro (cB rfl (cB rfl (h0 (by unfold obj;rw[b]))));have a:=((VE O).1 b).2.2;rw[h.len]at a;refine ya h i O (cO (λd=>h0 ?_) λd=>h1 i ?_ a)
 ·have:¬x=((at_ c s i:Nat):Int):=λe=>by rw[e]at d;simp at d
  unfold obj;rw[b];simp[this]
 ·have:x=((at_ c s i:Nat):Int):=by
   have:((at_ c s i:Nat):Int)=x:=by simpa using d
   exact this.symm
  unfold obj;rw[b];simp[this]
def cF.is (s:cF)(i:Nat):Bool:=s.tk.getD i false
theorem cF.kO {s:cF}{i:Nat}(hi:i<s.tk.length):s.tk[i]?=some (s.is i):=by
 simp[cF.is,zP,cU hi]
theorem Sn (h:ia U p q c s)(x:Int)(hx2:x<=9223372036854775807){R:Bool->Int->Hp->Prop}(h1:∀i,obj c s x=some i->R (s.is i) 0 U)(h0:obj c s x=none->R false 8 U):Yj.c (aW p) x U R:=by
 refine Yj.o ?_;unfold Yj.v;refine D7 h x hx2 (λi b a=>cB rfl (aG (h.rS λcap d=>?_))) λb=>cE rfl (h0 b);rw[←h.len]at a;refine(h.kX cap).re (HO (cF.kO a)) ?_;have:=h1 i b;cases hb:s.is i<;>rw[hb]at this<;>simpa using this
theorem Gf {s:cF}{i:Nat}(hi:i<s.tk.length)(v:Bool):((s.put i v).many:Int)=s.many+((if v then 1 else 0)-(if s.is i then 1 else 0)):=by
 have key:∀(l:List Bool) (i:Nat) (b:Bool),l[i]?=some b->(((l.set i v).count true:Nat):Int)=(l.count true:Nat)+((if v then 1 else 0)-(if b then 1 else 0)):=by
  intro l
  induction l with
  | nil=>intro i b h;simp at h
  | cons x l ih=>
   intro i b h;cases i with
   | zero=>
    simp at h;subst h;cases v<;>cases x<;>simp[List.count_cons]<;>omega
   | succ i=>
    have:=ih i b (by simpa using h);simp only[rX,List.count_cons]
    push_cast
    omega
 exact key s.tk i _ (cF.kO hi)
theorem AD (s:cF):s.many<=s.tk.length:=List.count_le_length
theorem Cn (h:ia U p q c s){i:Nat}(hi:i<c.n)(v:Bool){sl:Sl}{G:Rg}(hs:cW sl 1 (ints [i]) U G){R:aP}(hR:∀σ',Ext (λb=>b=p\/b=q) U σ'->ia σ' p q c (s.put i v)->R σ') :
 Y8.c (aW p) (if v then 1 else 0) sl U R:=by
 refine Y8.o ?_;unfold Y8.v;have N:sl.len=1:=hs.oB;have V:=h.ok.kx;have E:=h.len;have S:=AD s;have z:i<s.tk.length:=by omega
 have j:=Gf z v;refine ZX (a:=bN) (λ(t:Int) C=>t=0/\C=U\/t=1/\Ext (λb=>b=p\/b=q) U C/\ia C p q c (s.put i v)) (λt _=>1-t.toNat) (.inl ⟨rfl,rfl⟩) ?_;rintro t C (⟨rfl,rfl⟩|⟨rfl,e,M⟩)
 ·refine lT O ?_;refine hs.re (i:=0) (x:=i) rfl (aG (h.rI (λ_ _=>rfl) (aG (h.rS λcap H=>?_))));refine(h.kX cap).re (HO (cF.kO z)) ?_;have J:(0:Int)<=(if v then 1 else 0)/\(if v then(1:Int)else 0)<=1:=by cases v<;>simp
  have L:(0:Int)<=((if s.is i then 1 else 0:Nat):Int)/\((if s.is i then 1 else 0:Nat):Int)<=1:=by cases s.is i<;>simp
  have d:((if s.is i then 1 else 0:Nat):Int)=(if s.is i then 1 else 0):=by cases s.is i<;>rfl
  refine ar O O (ar O O (aG ?_));obtain⟨K,D,hd⟩:=h.hd;obtain⟨r,y⟩:=h.row;refine hd.s1 aA λP w A=>?_;have g:=Ws w y (Ne.symm h.ne);refine aG (A.rS rfl (ix O aC ?_));rw[add_lit];refine g.s0 (by simp[QI,vV];omega) λQ B u=>?_;refine cP (m:=1) O O ⟨.inr ⟨rfl,?_,?_⟩,by decide⟩
  ·exact(Ext.eL (F:=λb=>b=p\/b=q) w (.inl rfl)).trans (Ext.eL B (.inr rfl))
  ·refine⟨⟨K,D,?_⟩,⟨r,?_⟩,h.ne,by simp[cF.put,h.len],h.ok,h.fit⟩
   ·have:=Ws B A h.ne;rw[j,←d];exact this
   ·have e:(ints (nh s.tk)++r).set (0+(i:Int).toNat*1) (.int .i64 (if v then 1 else 0))=ints (nh (s.put i v).tk)++r:=by
     rw[List.set_append_left _ _ (by simp[QI,vV];omega)]
     congr 1
     simp only[cF.put,OR,ints,u6];have:(0+(i:Int).toNat*1)=i:=by omega
     rw[this]
     congr 1
     cases v<;>rfl
    rw[e]at u;exact u
 ·exact fR O (hR _ e M)
theorem PJ (h:ia U p q c s){x:Int}{i:Nat}(hx2:x<=9223372036854775807)(ho:obj c s x=some i)(ht:s.is i=true){R:aN}(hR:∀σ',Ext (λb=>b=p\/b=q) U σ'->ia σ' p q c (s.put i false)->R 0 σ') :
 Zo.c (aW p) x U R:=by
 refine Zo.o ?_;unfold Zo.v;refine D7 h x hx2 (λj r a=>cB rfl (aG (h.rS λcap g=>?_))) λm=>by rw[ho]at m;cases m
 rw[ho]at r;cases r;have d:i<s.tk.length:=by rw[h.len];exact a
 refine(h.kX cap).re (HO (cF.kO d)) ?_;rw[ht];refine cB rfl (nw (cs:=ints [i]) λv z e w=>?_);have A:=h.lt;exact Cn (h.bO e) a false (xm w rfl) λσ' u y=>hR σ' (e.to.trans u) y
theorem Mf (h:ia U p q c s){i:Nat}(hlow:low s=some i){R:Int->Int->Hp->Prop}(hR:∀σ',Ext (λb=>b=p\/b=q) U σ'->ia σ' p q c (s.put i true)->R ((at_ c s i:Nat):Int) 0 σ') :
 Zi.c (aW p) U R:=by
 refine Zi.o ?_;unfold Zi.v;have E:=h.ok.kx;have d:=m7.1 hlow;obtain⟨m,B,A⟩:=d;have g:s.tk[i]=false:=by simpa using B
 refine Ga h (cB rfl (aG (h.rS λcap y=>?_)));refine Cj (h.kX cap) (by simp[vV,h.len];omega) 0 (λj r a=>?_) λa=>?_
 ·have x:j<s.tk.length:=by
   have:=(cV.1 r).1
   rwa [vV]at this
  have u:j=i:=by
   rcases pE j i with h1|h1|h1
   ·have:=A j h1;rw[HO (cU x)]at r;have:s.tk[j]=true:=by simpa using this
    simp[this]at r
   ·exact h1
   ·exact absurd (by rw[HO (cU m),g];rfl) (a i h1)
  subst u;rw[h.len]at m;refine fR O (nw (cs:=ints [j]) λv D e w=>?_);refine Cn (h.bO e) m true (xm w rfl) λσ' C z=>ya z j O (hR σ' (e.to.trans C) z)
 ·exfalso;apply a;exact zG (i:=i) (by rw[HO (cU m),g];rfl)
theorem Sg (h:ia U p q c s){R:Int->Int->Hp->Prop}(hR:∀σ',bK U σ'->R (s.st:Int) (c.aF:Int) σ'):Zy.c (aW p) U R:=by
 refine Zy.o ?_;unfold Zy.v;refine nw (cs:=[.int .i64 0,.int .i64 0]) λv u e r=>?_;have d:=h.bO e;refine Ga d (cB rfl (aG (d.rI (λ_ _=>rfl) (aG (d.eZ (λ_ _=>rfl) ?_)))));refine r.s1 aA λw b j=>j.s1 aA λv3 g a=>?_;refine a.rI rfl (a.rI rfl (hR _ ?_));exact Ext.fresh (Ext.fresh e (Ext.eL (F:=(· = U.size)) b rfl) λi m=>O) (Ext.eL (F:=(· = U.size)) g rfl) λi m=>by omega
theorem JC (n:Nat):(List.replicate n [Value.int .i64 0]).flatten=ints (List.replicate n 0):=by
 induction n with
 | zero=>rfl
 | succ n ih=>simp only[uZ,wu,ih];rfl
theorem Pr (hc:c.ok){st:Nat}(hf:st+c.aF<=1024){R:Option Addr->Int->Hp->Prop}(hR:∀σ' p q,bK U σ'->U.size<=p->U.size<=q->ia σ' p q c ⟨st,List.replicate c.n false⟩->R (some ⟨p,0,none⟩) 0 σ') :
 Kq.c (st:Int) c.size c.aF c.batch U R:=by
 refine Kq.o ?_;unfold Kq.v;have E:=hc;unfold bZ.ok at E;have N:=hc.kx;refine nw (cs:=[.int .i64 c.size,.int .i64 c.aF,.int .i64 c.batch]) λv J e x=>?_;refine x.rI rfl (x.rI rfl (x.rI rfl (F4 _ _ _ (λg H e1 e2 G B z=>?_) λs=>?_)))
 case refine_2=>rw[(DG c).2 hc]at s;cases s
 have:g=c:=by
  obtain⟨a,b,d⟩:=c;obtain⟨M,K,L⟩:=g;simp only at e1 e2 G
  congr 1<;>omega
 subst this;have i:=z.bT x id;refine bV.intro (cB rfl (bV.intro (fR O (i.rI rfl (cP (m:=1024-g.aF) O O (fR O ?_))))));refine⟨λy=>bY y U.size [.int .i64 g.size,.int .i64 g.aF,.int .i64 g.batch],i,⟨_,λy w=>by rw[add_lit,w.cell];rfl,⟨_,λy w=>by rw[add_lit,w.cell];rfl,⟨_,λy w=>by rw[add_lit,w.cell];rfl,?_⟩⟩⟩⟩;refine mk O O λP F j u=>⟨j.bT i id,nw (cs:=[.int .i64 (st:Int),.int .i64 g.size,.int .i64 g.aF,.int .i64 g.batch,.slice (some ⟨B.size,0,none⟩) g.n g.n,.int .i64 0]) λv3 C r A=>⟨(j.trans r).bT i id,?_⟩⟩;rw[JC]at u;have D:=z.1;refine hR _ _ _ (((e.trans z).trans j).trans r) O (show U.size<=B.size by omega) ⟨⟨g.n,zD _,?_⟩,⟨[],?_⟩,O,by simp,hc,hf⟩
 ·have:cF.many ⟨st,List.replicate g.n false⟩=0:=by simp[cF.many,xS]
  rw[this];exact A
 ·have:nh (List.replicate g.n false)=List.replicate g.n 0:=by simp[nh]
  rw[this,kV];exact r.bT u id
end Go.Ar
namespace Go.Proofs
open Go.Vc
set_option maxRecDepth 100000
def XJ.h:Hn:=.q .o1 (.q (.q .o3 .aK) (.q .o1 (.q .gT .aL)))
def XJ.v (a:R2)(b:Hp)(c:Sl->Hp->Prop):Prop:=WG.c a b λd e=>If (!d) (c ⟨none,0,0⟩ e) (aV #[.slice none 0 0] 181 e λf g=>bE a 3 g λi=>We.c i ⟨223,#[],#[.pointer (some f)]⟩ g λj k=>bU a λl=>aR l 3 (.slice j.a j.len j.cap) k λm=>jj f m λn=>c n m)
theorem XJ.o {a b c}(d:XJ.v a b c):XJ.c a b c:=Wa Tryz.func166 (x:=XJ.h) (R0 d)
def WG.h:Hn:=.q .o1 (.q (.cR (.seq [.op,.op,.op,.cX true 6 (RI.ops 6),.op])) .l)
def WG.v (a:R2)(b:Hp)(c:aO):Prop:=bV (λd e=>c d e) λf=>If (!a.isNone) (bU a λg=>bM ((g.add 0).add 0) b λh=>f (decide (h>0)) b) (f false b)
theorem WG.o {a b c}(d:WG.v a b c):WG.c a b c:=Wa Tryz.func178 (x:=WG.h) (R0 d)
def Z6.h:Hn:=.q .o3 (.q (.q .o7 (.q .o2 .aJ)) (.q .o5 .l))
def Z6.v (a b c:Int)(d:Hp)(e:Option Addr->Int->Hp->Prop):Prop:=aV #[.I a,.I b,.I c] 137 d λf g=>aQ f 0 g λh=>aQ f 1 g λi=>aQ f 2 g λj=>Zq.c h i j g λk l m=>If (l != 0) (e none 1 m) (aQ f 0 m λn=>aQ f 1 m λo=>aQ f 2 m λp=>aV #[.I n,.I o,.I p,.slice none 0 0] 257 m λq r=>e (some q) 0 r)
theorem Z6.o {a b c d e}(f:Z6.v a b c d e):Z6.c a b c d e:=Wa Tryz.func199 (x:=Z6.h) (R0 f)
def WZ.h:Hn:=.q .o2 (.q (.k (.q .o4 (.c .aL (.q .o3 .aJ)))) (.q .o1 (.q (.k (.loop [(6,.one .s)] (.q (.q .o4 (.c .l .l)) (.k (.q .o7 (.q (.q .o2 (.c .l .l)) .o5)))))) (.q .o3 .l))))
def WZ.v (a:R2)(b:Int)(c:Hp)(d:Sl->Int->Hp->Prop):Prop:=WG.c a c λe f=>If (!e) (d ⟨none,0,0⟩ 5 f) (If (b<0) (d ⟨none,0,0⟩ 1 f) (X9 [.s] (λg=>g ⟨none,0,0⟩ f) λh (i:Sl) j=>If (((i.len:Nat):Int)<b) (YM.c a j λk l m=>If (!l) (d i 0 m) (aV #[.I k] 3 m λn o=>App i 1 8 3 [.I 0] ⟨some n,1,1⟩ o λp q=>h p q)) (d i 0 j)))
theorem WZ.o {a b c d}(e:WZ.v a b c d):WZ.c a b c d:=Wa Tryz.func208 (x:=WZ.h) (R0 e)
def YN.h:Hn:=.q .o1 (.q (.q .o3 .aK) (.q (.o 11) (.q (.q .o2 .aJ) (.q (.q .o6 (.k (.loop [(31,.I)] (.q .o1 (.q (.c .l .l) (.q (.k (.q .o4 (.q (.oq 17) .aK))) .o2)))))) (.q (.o 11) (.q (.o 15) .aM))))))
def YN.v (a:R2)(b:Int)(c:Hp)(d:aN):Prop:=WG.c a c λe f=>If (!e) (d 5 f) (bU a λg=>bM ((g.add 0).add 0) f λh=>bM ((g.add 0).add 1) f λi=>bM ((g.add 0).add 2) f λj=>Kq.c b h i j f λk l m=>If (l != 0) (d l m) (bE a 3 m λo=>X9 [bN] (λp=>p 0 m) λq (r:Int) s=>If (r<((o.len:Nat):Int)) (Ix o.a o.len r 3 λt=>aQ t 0 s λu=>aQ t 1 s λv=>aY t 2 s λw=>aV #[.I 0,.I 0,.pointer none] 262 s λx y=>aR x 0 (.I u) y λz=>aR x 1 (.I v) z λaa=>aR x 2 (.pointer w) aa λab=>bM ((x.add 0).add 1) ab λac=>bM ((x.add 0).add 1) ab λad=>bL ((if b>ac then b else ac)-(if b<ad then b else ad)) λae=>bU a λaf=>bM ((af.add 0).add 1) ab λag=>If (ae<ag) (d 9 ab) (bL (r+1) λah=>q ah ab)) (bE a 3 s λaj=>Wb.c aj b ⟨259,#[],#[]⟩ s λak al am=>bE a 3 am λao=>aV #[.I 0,.I b,.pointer k] 262 am λap aq=>Wg.c ao ak ⟨some ap,1,1⟩ aq λar au=>bU a λav=>aR av 3 (.slice ar.a ar.len ar.cap) au λaw=>d 0 aw)))
theorem YN.o {a b c d}(e:YN.v a b c d):YN.c a b c d:=Wa Tryz.func210 (x:=YN.h) (R0 e)
def XM.h:Hn:=.q .o2 (.kg [] (.q .o4 (.c (.cR (.held true [6] (.tk [0,1,2] (.all [(3,.all [(4,.all [(5,.all [(6,.done)])])])])))) .l)) (.q .o5 .l))
def XM.v (a b:Int)(c:R2)(d:Addr)(e:Hp)(f:aO):Prop:=aV #[.I a,.I b,.pointer c] 262 e λg h=>Jn [] (λi=>bM ((g.add 0).add 0) i λj=>f (j==0) i) λk=>bM ((g.add 0).add 0) h λl=>If (l==0) (eI h λm=>gE m .s d λ(n:Sl)=>aU m g 2 λo=>Zy.c o h λp q r=>And (m r) <| aV #[.I p,.I q] 251 r λs t=>And (m t) <| App n 2 16 251 [.I 0,.I 0] ⟨some s,1,1⟩ t λu v=>And (m v) <| dS d (.slice u.a u.len u.cap) v λw=>k w) (k h)
theorem XM.o {a b c d e f}(g:XM.v a b c d e f):XM.c a b c d e f:=Wa Tryz.func223 (x:=XM.h) (R0 g)
def YE.h:Hn:=.q .o2 (.q (.q .o3 .aJ) (.q .o1 (.q (.q .o3 (.k (.loop [(6,.one .b),(19,.I)] (.q .o1 (.q (.c .l .l) (.q (.k (.q .o5 (.q .o8 (.q (.q .o2 (.c (.q .o3 .l) .l)) (.cR (.seq [.op,.op,.cX false 2 [.op,.op],.op,.cX false 5 (RI.ops 5),.op])))))) .o2)))))) (.q (.q .o1 .aJ) (.q (.q .o3 (.k (.loop [(49,.I)] (.q .o1 (.q (.c .l .l) (.q (.k (.q .o3 (.q .o4 (.q .o6 .gT)))) .o2)))))) (.q .o4 .l))))))
def YE.v (a:R2)(b:Sl)(c:Hp)(d:Sl->Int->Hp->Prop):Prop:=WG.c a c λe f=>If (!e) (d ⟨none,0,0⟩ 5 f) (X9 [.b,bN] (λg=>g false 0 f) λh (i:Bool) (j:Int) k=>If (j<((b.len:Nat):Int)) (Ix b.a b.len j 1 λl=>bM l k λm=>WW.c a m k λn o p=>If (o != 0) (d ⟨none,0,0⟩ o p) (bV (λq r=>bV (λs t=>bL (j+1) λu=>h s u t) λv=>If q (v true r) (eY b 1 0 j (b.cap:Nat) λw=>Wp.c w m r λx y=>v x y)) λz=>If i (z true p) (z (!n) p))) (If i (d ⟨none,0,0⟩ 9 k) (X9 [bN] (λaa=>aa 0 k) λab (ac:Int) ad=>If (ac<((b.len:Nat):Int)) (Ix b.a b.len ac 1 λae=>bM ae ad λaf=>XA.c a af ad λag ah=>bF ag 2 ah λaj=>Zo.c aj af ah λak al=>bU ag λam=>bM ((am.add 0).add 0) al λan=>bL (an-1) λao=>bU ag λap=>dS ((ap.add 0).add 0) (.I ao) al λaq=>bL (ac+1) λar=>ab ar aq) (XJ.c a ad λau av=>d au 0 av))))
theorem YE.o {a b c d}(e:YE.v a b c d):YE.c a b c d:=Wa Tryz.func241 (x:=YE.h) (R0 e)
def YM.h:Hn:=.q .o2 (.q .o1 (.q (.q .o6 (.k (.loop [(4,.one .p),(14,.I)] (.q .o1 (.q (.c .l .l) (.q (.k (.q .o2 (.q .o7 (.q (.cR (.gL true [] [(48,.one .b)] (.tk [0,1,2,3,4,5,6,7,8] (.all [(9,.take 10 (.take 11 (.split 34 (.take 12 (.take 13 (.take 14 (.split 37 (.take 15 (.take 16 (.take 17 (.take 18 (.take 19 (.take 20 (.take 21 (.take 22 (.take 23 (.take 24 (.take 25 (.done)))))))))))) (.take 15 (.take 16 (.take 17 (.take 19 (.take 20 (.take 21 (.all [(18,.all [(22,.all [(23,.take 24 (.take 25 (.done)))])]),(22,.all [(18,.all [(23,.take 24 (.take 25 (.done)))])])]))))))))))) (.take 12 (.take 13 (.take 14 (.take 15 (.take 16 (.take 17 (.take 18 (.take 19 (.take 20 (.take 21 (.take 22 (.take 23 (.take 24 (.take 25 (.done))))))))))))))))))])))) (.c .o2 .l))))) .o2)))))) (.q (.q .o2 .aJ) (.q .gT (.q .gT (.q .o3 .l))))))
def YM.v (a:R2)(b:Hp)(c:Int->Bool->Hp->Prop):Prop:=bE a 3 b λe=>X9 [.p,bN] (λf=>f none 0 b) λg (h:R2) (i:Int) j=>If (i<((e.len:Nat):Int)) (bE a 3 j λl=>Ix l.a l.len i 3 λm=>Jn [.b] (λ(n:Bool) o=>If n (bL (i+1) λp=>g (some m) p o) (bL (i+1) λq=>g h q o)) λr=>eI j λs=>bU (some m) λt=>gE s bN ((t.add 0).add 0) λ(u:Int)=>bU (some m) λv=>aU s v 2 λw=>Yk.c w j λx y=>And (s y) <| If (u<x) (If h.isNone (r true y) (bU (some m) λz=>bU h λaa=>(bM ((z.add 0).add 0) y λab=>bM ((z.add 0).add 1) y λac=>And (s y) <| bM ((aa.add 0).add 0) y λad=>bM ((aa.add 0).add 1) y λae=>And (s y) <| WV.c ab ac ad ae y λaf ag=>And (s ag) <| r af ag) ∧ (bM ((aa.add 0).add 0) y λah=>bM ((aa.add 0).add 1) y λai=>And (s y) <| bM ((z.add 0).add 0) y λaj=>bM ((z.add 0).add 1) y λak=>And (s y) <| WV.c aj ak ah ai y λal am=>And (s am) <| r al am))) (r false y)) (If h.isNone (c 0 false j) (bF h 2 j λao=>Zi.c ao j λap aq ar=>bU h λau=>bM ((au.add 0).add 0) ar λav=>bL (av+1) λaw=>bU h λax=>dS ((ax.add 0).add 0) (.I aw) ar λay=>c ap true ay))
theorem YM.o {a b c}(d:YM.v a b c):YM.c a b c:=Wa Tryz.func252 (x:=YM.h) (R0 d)
def Yw.h:Hn:=.q .o2 (.q .o6 .l)
def Yw.v (a b:Int)(c:R2)(d:Int)(e:Hp)(f:aN):Prop:=aV #[.I a,.I b,.pointer c] 262 e λg h=>bM ((g.add 0).add 1) h λi=>bL (i-d) λj=>f j h
theorem Yw.o {a b c d e f}(g:Yw.v a b c d e f):Yw.c a b c d e f:=Wa Tryz.func259 (x:=Yw.h) (R0 g)
def Yf.h:Hn:=.q .o2 (.q (.q .o3 .aJ) (.q .o4 (.q (.q .o2 .aJ) (.q (.o 11) (.q (.oq 16) .l)))))
def Yf.v (a:R2)(b:Int)(c:Hp)(d:Int->Int->Hp->Prop):Prop:=WG.c a c λe f=>If (!e) (d 0 5 f) (XA.c a b f λg h=>If g.isNone (d 0 8 h) (bF g 2 h λj=>XW.c j b h λk l m=>bU g λn=>bM ((n.add 0).add 1) m λo=>bL (o*256) λp=>bU a λq=>bM ((q.add 0).add 0) m λr=>bL (k*r) λs=>bL (p+s) λt=>d t 0 m))
theorem Yf.o {a b c d}(e:Yf.v a b c d):Yf.c a b c d:=Wa Tryz.func262 (x:=Yf.h) (R0 e)
def WW.h:Hn:=.q .o2 (.q (.q .o3 .aJ) (.q .o4 (.q (.q .o2 .aJ) (.q .gT .l))))
def WW.v (a:R2)(b:Int)(c:Hp)(d:Bool->Int->Hp->Prop):Prop:=WG.c a c λe f=>If (!e) (d false 5 f) (XA.c a b f λg h=>If g.isNone (d false 8 h) (bF g 2 h λj=>Yj.c j b h λk l m=>d k l m))
theorem WW.o {a b c d}(e:WW.v a b c d):WW.c a b c d:=Wa Tryz.func265 (x:=WW.h) (R0 e)
def XA.h:Hn:=.q .o1 (.q (.q .o6 (.k (.loop [(13,.I)] (.q .o1 (.q (.c .l .l) (.q (.k (.q .o2 (.q (.o 15) (.q .o2 (.c (.q .o7 .l) .l))))) .o2)))))) .aM)
def XA.v (a:R2)(b:Int)(c:Hp)(d:Option Addr->Hp->Prop):Prop:=bE a 3 c λf=>X9 [bN] (λg=>g 0 c) λh (i:Int) j=>If (i<((f.len:Nat):Int)) (bE a 3 j λl=>Ix l.a l.len i 3 λm=>aY m 2 j λn=>XW.c n b j λo p q=>If (p==0) (bE a 3 q λs=>Ix s.a s.len i 3 λt=>d (some t) q) (bL (i+1) λu=>h u q)) (d none j)
theorem XA.o {a b c d}(e:XA.v a b c d):XA.c a b c d:=Wa Tryz.func277 (x:=XA.h) (R0 e)
def WV.h:Hn:=.q .o3 (.q (.cR (.seq [.op,.op,.op,.op,.op,.op,.cX false 12 [.op,.op,.op,.op,.op,.op,.cX true 5 (RI.ops 5)],.op])) .l)
def WV.v (a b c d:Int)(e:Hp)(f:aO):Prop:=aV #[.I a,.I b] 259 e λg h=>aV #[.I c,.I d] 259 h λi j=>aQ g 0 j λk=>aQ i 0 j λl=>bV (λm n=>f m n) λo=>If (k>l) (o true j) (aQ g 0 j λp=>aQ i 0 j λq=>bV (λr s=>o r s) λt=>If (p==q) (aQ g 1 j λu=>aQ i 1 j λv=>t (decide (u<v)) j) (t false j))
theorem WV.o {a b c d e f}(g:WV.v a b c d e f):WV.c a b c d e f:=Wa Tryz.func282 (x:=WV.h) (R0 g)
end Go.Proofs
namespace Go.Ar
open Go Go.Vc Go.Proofs
variable {U:Hp}{F:Rg}{p:Nat}{c:bZ}{ps:List (Nat×Nat)}{ss:List cF}
def dW (ps:List (Nat×Nat)):List Nat:=ps.flatMap λx=>[x.1,x.2]
theorem Hb {ps:List (Nat×Nat)}{b:Nat}:b∈dW ps↔∃x∈ps,b=x.1\/b=x.2:=by simp[dW]
def dQ:List (Nat×Nat)->List cF->List Value
 | x::ps,s::ss=>.int .i64 (s.many:Int) :: .int .i64 (s.st:Int) :: .pointer (some ⟨x.1,0,none⟩)::dQ ps ss
 | _,_=>[]
theorem QR:∀{ps:List (Nat×Nat)} {ss:List cF},ps.length=ss.length->(dQ ps ss).length=3*ss.length
 | [],[],_=>rfl
 | x::ps,s::ss,h=>by simp only[dQ,zY]at *;rw[QR O];omega
theorem QH:∀{ps:List (Nat×Nat)} {ss:List cF} {i:Nat} {x:Nat×Nat} {s:cF},ps[i]?=some x->ss[i]?=some s →
 (dQ ps ss)[3*i]?=some (.int .i64 (s.many:Int))/\(dQ ps ss)[3*i+1]?=some (.int .i64 (s.st:Int))/\(dQ ps ss)[3*i+2]?=some (.pointer (some ⟨x.1,0,none⟩))
 | [],_,_,_,_,h,_=>by simp at h
 | _::_,[],_,_,_,_,h=>by simp at h
 | y::ps,t::ss,0,x,s,h1,h2=>by simp at h1 h2;subst h1;subst h2;simp[dQ]
 | y::ps,t::ss,i+1,x,s,h1,h2=>by
  have:=QH (ps:=ps) (ss:=ss) (i:=i) (by simpa using h1) (by simpa using h2);simp only[dQ];rw[show 3*(i+1)=3*i+3 by omega];simpa using this
theorem KU:∀{ps ps':List (Nat×Nat)} {ss ss':List cF},ps.length=ss.length->dQ (ps++ps') (ss++ss')=dQ ps ss++dQ ps' ss'
 | [],_,[],_,_=>rfl
 | x::ps,_,s::ss,_,h=>by simp only[lf,dQ,KU (ps:=ps) (ss:=ss) (by simpa using h)]
theorem Fm:∀{ps:List (Nat×Nat)} {ss:List cF},∀v∈dQ ps ss,dP v=true
 | [],_,v,h=>by simp[dQ]at h
 | _::_,[],v,h=>by simp[dQ]at h
 | x::ps,s::ss,v,h=>by
  simp only[dQ,zW]at h;rcases h with rfl|rfl|rfl|h
  ·rfl
  ·rfl
  ·rfl
  ·exact Fm v h
structure fB (U:Hp) (F:Rg) (p:Nat) (c:bZ) (ps:List (Nat×Nat)) (ss:List cF):Prop where
 hd:∃sl:Sl,bY U p [.int .i64 (c.size:Int),.int .i64 (c.aF:Int),.int .i64 (c.batch:Int),.slice sl.a sl.len sl.cap]/\bR sl 3 (dQ ps ss) U (λb=>F b/\b≠p/\b∉dW ps)
 sp:∀(i:Nat) (x:Nat×Nat) s,ps[i]?=some x->ss[i]?=some s->ia U x.1 x.2 c s
 fp:F p
 fb:∀b∈dW ps,F b
 nd:(p::dW ps).Nodup
 len:ps.length=ss.length
 ok:c.ok
 pY:ss.Pairwise (λa b=>a.st<b.st)
theorem fB.loc:dM λU F=>fB U F p c ps ss:=λU D F G h K j=>by
 obtain⟨sl,a,y⟩:=h.hd;have bS:∀b,b<U.size->F b->D[b]?=U[b]? := λb a d=>(j b a d).2;have w:∀{b:Nat} {cs:List Value},bY U b cs->F b->bY D b cs:=by
  rintro b cs ⟨e,B⟩ d;exact⟨e,(bS b (bY.lt ⟨e,B⟩) d).trans B⟩
 have lt:∀b∈dW ps,b<U.size:=by
  intro b a;obtain⟨x,m,u⟩:=Hb.1 a;obtain⟨i,C⟩:=zQ m;have z:=(cV.1 C).1;have:=(h.sp i x _ C (cU (by rw[←h.len];exact z))).lt;rcases u with rfl|rfl
  ·exact this.1
  ·exact this.2
 refine⟨⟨sl,w a h.fp,bR.loc _ _ _ _ _ _ _ y K λb a d=>⟨⟨(j b a d.1).1,d.2⟩,(j b a d.1).2⟩⟩,λi x s m A=>?_,(j p a.lt h.fp).1,λb a=>(j b (lt b a) (h.fb b a)).1,h.nd,h.len,h.ok,h.pY⟩;have g:=h.sp i x s m A;have H:x.1∈dW ps:=Hb.2 ⟨x,zG m,.inl rfl⟩;have L:x.2∈dW ps:=Hb.2 ⟨x,zG m,.inr rfl⟩;obtain⟨J,E,hd⟩:=g.hd;obtain⟨r,y⟩:=g.row;exact⟨⟨J,E,w hd (h.fb _ H)⟩,⟨r,w y (h.fb _ L)⟩,g.ne,g.len,g.ok,g.fit⟩
theorem fB.bO {σ':Hp}(h:fB U F p c ps ss)(e:bK U σ'):fB σ' F p c ps ss:=dM.bO fB.loc h e
theorem fB.pD (h:fB U F p c ps ss):ss.length<=1024:=by
 have key:∀i (hi:i<ss.length),i<=ss[i].st:=by
  intro i
  induction i with
  | zero=>intro _;omega
  | succ i ih=>
   intro hi;have b:=ih O;have e:=l0.1 h.pY i (i+1) O hi O;omega
 rcases yH ss.length with h0|h0
 ·omega
 ·have a:ss.length-1<ss.length:=by omega
  have b:=key _ a;have d:ss.length-1<ps.length:=by rw[h.len];exact a
  have e:=(h.sp _ _ _ (cU d) (cU a)).fit;have:=h.ok.2.2.2.1;omega
structure rk (U:Hp) (F:Rg) (p:Nat) (ps:List (Nat×Nat)) (ss:List cF) (sl:Sl) (rb:Nat) (cs:List Value):Prop where
 a:sl.a=some ⟨rb,0,none⟩
 bT:bY U rb cs
 fr:F rb/\rb≠p/\rb∉dW ps
 get:∀{j:Nat} {v:Value},(dQ ps ss)[j]?=some v->cs[j]?=some v
 Be:3*ss.length<=cs.length
theorem fB.sl (h:fB U F p c ps ss):∃sl:Sl,bY U p [.int .i64 (c.size:Int),.int .i64 (c.aF:Int),.int .i64 (c.batch:Int),.slice sl.a sl.len sl.cap]/\sl.len=ss.length/\(ss≠[]->∃rb cs,rk U F p ps ss sl rb cs):=by
 obtain⟨sl,r,i⟩:=h.hd;have m:=i.1;rw[QR h.len]at m;refine⟨sl,r,O,λe=>?_⟩;have g:0<ss.length:=pC.2 e;rcases i.2 with⟨h0,_⟩|⟨b,cs,hq,ha,hbb,hle,hcl,ht⟩
 ·omega
 ·refine⟨b,cs,ha,hbb,hq,λ{j v} d=>?_,?_⟩
  ·rw[←ht,zj]at d;split at d
   ·exact d
   ·cases d
  ·have:=congrArg List.length ht;rw[zZ,QR h.len]at this;omega
theorem fB.jA (h:fB U F p c ps ss){i:Nat}(hi:i<ss.length):∃x s,ps[i]?=some x/\ss[i]?=some s/\ia U x.1 x.2 c s:=by
 have a:i<ps.length:=by rw[h.len];exact hi
 have b:ps[i]?=some ps[i]:=cU a;exact⟨_,_,b,cU hi,h.sp i _ _ b (cU hi)⟩
theorem VL (h:fB U F p c ps ss){R:aO}(hR:R true U):WG.c (aW p) U R:=by
 refine WG.o ?_;unfold WG.v;obtain⟨sl,a,e,d⟩:=h.sl;have b:=h.ok;unfold bZ.ok at b;refine bV.intro (cE rfl (aG (a.eZ rfl ?_)));rw[zJ O];exact hR
def iE (x:Int):Prop:=x<=9223372036854775807
theorem yY (h:fB U F p c ps ss)(x:Int)(hx:iE x){R:Option Addr->Hp->Prop}(h0:kG c ss x=none->R none U)
 (h1:∀(i:Nat) sl rb cs,kG c ss x=some i->i<ss.length->bY U p [.int .i64 (c.size:Int),.int .i64 (c.aF:Int),.int .i64 (c.batch:Int),.slice sl.a sl.len sl.cap]->rk U F p ps ss sl rb cs->R (some ⟨rb,3*i,none⟩) U):XA.c (aW p) x U R:=by
 refine XA.o ?_;unfold XA.v;obtain⟨sl,A,S,M⟩:=h.sl;have D:=h.pD;refine aG (A.rS rfl ?_);refine ZX (a:=bN) (λ(t:Int) G=>∃i:Nat,t=(i:Int)/\i<=ss.length/\G=U/\∀(j:Nat) s,j<i->ss[j]?=some s->idx c s x=none) (λt _=>ss.length-t.toNat) ⟨0,rfl,O,rfl,λj s z=>O⟩ ?_;rintro t G ⟨i,rfl,Q,rfl,d⟩;refine cQ (λC=>?_) λB=>?_
 ·simp only at C;have b:i<ss.length:=by omega
  obtain⟨N,s,J,y,K⟩:=h.jA b;obtain⟨rb,cs,E⟩:=M (by rintro rfl;simp at b);have H:=QH J y;refine aG (A.rS rfl ?_);rw[E.a];refine ix O O ?_;rw[add_lit];refine E.bT.rP (x:=some ⟨N.1,0,none⟩) ?_ ?_
  ·have:=E.get H.2.2;rw[show 0+(i:Int).toNat*3+2=3*i+2 by omega];exact this
  have w:∀r,idx c s x=some r->kG c ss x=some i:=by
   intro r u;refine m7.2 ⟨b,?_,λj z=>?_⟩
   ·have:ss[i]=s:=by rw[cU b]at y;simpa using y
    rw[this,u];rfl
   ·rw[d j _ z (cU O)];simp
  refine y8 K x hx (λr u=>cE rfl (aG (A.rS rfl ?_))) λL=>cB rfl ?_
  ·rw[E.a];refine ix O O ?_;rw[add_lit,show 0+(i:Int).toNat*3=3*i by omega];exact h1 i sl rb cs (w r u) b A E
  ·refine cP (m:=i+1) O O ⟨⟨i+1,rfl,O,rfl,λj P z g=>?_⟩,O⟩;by_cases e:j=i
   ·subst e;rw[y]at g;cases g;exact L
   ·exact d j P O g
 ·refine h0 ?_;refine uK.2 λs y=>?_;obtain⟨j,z⟩:=zQ y;have:=(cV.1 z).1;rw[d j s (by simp only at B;omega) z];rfl
theorem Vy {x:Int}{k:Nat}{s:cF}(hk:kG c ss x=some k)(hs:ss[k]?=some s):dX c ss x=(obj c s x).map s.is:=by
 unfold dX;rw[hk];simp only[hs];rfl
theorem GT {x:Int}(hk:kG c ss x=none):dX c ss x=none:=by unfold dX;rw[hk]
theorem GN (h:fB U F p c ps ss)(x:Int)(hx:iE x){R:Bool->Int->Hp->Prop}(h1:∀b,dX c ss x=some b->R b 0 U)(h0:dX c ss x=none->R false 8 U):WW.c (aW p) x U R:=by
 refine WW.o ?_;unfold WW.v;refine VL h (cB rfl (yY h x hx (λa=>cE rfl (h0 (GT a))) λi sl B A d m C E=>cB rfl (aG ?_)));obtain⟨z,s,u,g,w⟩:=h.jA m;have r:=QH u g;refine E.bT.rP (x:=some ⟨z.1,0,none⟩) (E.get r.2.2) ?_;have e:=Vy d g;exact Sn w x hx (λj y=>h1 _ (by rw[e,y];rfl)) λa=>h0 (by rw[e,a];rfl)
theorem Hg {x:Int}{k:Nat}{s:cF}(hk:kG c ss x=some k)(hs:ss[k]?=some s):qH c ss x=(idx c s x).map (at_ c s):=by
 unfold qH;rw[hk];simp only[hs]
theorem Dr {x:Int}(hk:kG c ss x=none):qH c ss x=none:=by unfold qH;rw[hk]
theorem Iu {x:Int}{k:Nat}{s:cF}(hk:kG c ss x=some k)(hs:ss[k]?=some s):∃i,idx c s x=some i:=by
 obtain⟨b,a,_⟩:=m7.1 hk;have:ss[k]=s:=by rw[cU b]at hs;simpa using hs
 rw[this]at a;exact pM.1 a
theorem Px (h:fB U F p c ps ss)(x:Int)(hx:iE x){R:Int->Int->Hp->Prop}(h1:∀a,qH c ss x=some a->R (a:Int) 0 U)(h0:qH c ss x=none->R 0 8 U):Yf.c (aW p) x U R:=by
 refine Yf.o ?_;unfold Yf.v;refine VL h (cB rfl (yY h x hx (λe=>cE rfl (h0 (Dr e))) λi sl L K b B D E=>cB rfl (aG ?_)));obtain⟨H,s,G,u,w⟩:=h.jA B;have y:=QH G u;obtain⟨r,g⟩:=Iu b u;have C:=Hg b u;have A:=h.ok;unfold bZ.ok at A;have j:=((VE O).1 g).2.2;rw[w.len]at j;have e:=h.ok.kx;have z:=w.fit;have J:r*c.size<=128*512:=lW O O;refine E.bT.rP (x:=some ⟨H.1,0,none⟩) (E.get y.2.2) ?_;refine y8 w x hx (λM d=>?_) λe=>by rw[g]at e;cases e
 rw[g]at d;cases d;refine aG (E.bT.eZ (x:=s.st) (E.get y.2.1) (cP (m:=s.st*256) aA O (aG (D.eZ rfl ?_))));refine cP (m:=r*c.size) aA O (cP (m:=at_ c s r) (by simp[at_]) (by unfold at_;omega) (h1 _ (by rw[C,g];rfl)))
theorem wJ {h:Hp}{rb i:Nat}{cs:List Value}{x y:Int}{z:Option Addr}{e:Nat}(hb:bY h rb cs)(h0:cs[3*i]?=some (.int .i64 x))(h1:cs[3*i+1]?=some (.int .i64 y))(h2:cs[3*i+2]?=some (.pointer z))
 {K:Int->Int->Option Addr->Prop} (hK:K x y z):gA .i64 (Addr.add ⟨rb,3*i,none⟩ 0) h λu=>gA .i64 (Addr.add ⟨rb,3*i,none⟩ 1) h λv=>fW (Addr.add ⟨rb,3*i,none⟩ 2) h λw=>K u v w:=
 hb.rI h0 (hb.rI h1 (hb.rP h2 hK))
theorem Em {h:Hp}{x y:Int}{z:Option Addr}{e:Nat}{K:Addr->Hp->Prop}(hK:∀h',bK h h'->bY h' h.size [.int .i64 x,.int .i64 y,.pointer z]->K ⟨h.size,0,none⟩ h') :
 Nw (.cells #[.int .i64 0,.int .i64 0,.pointer none] e (0,0)) h λn v=>dS (n.add 0) (.int .i64 x) v λv1=>dS (n.add 1) (.int .i64 y) v1 λv2=>dS (n.add 2) (.pointer z) v2 λv3=>K n v3:=by
 refine nw (cs:=[.int .i64 0,.int .i64 0,.pointer none]) λv m e d=>d.s1 aA λv1 o1 b=>b.s1 aA λv2 o2 j=>j.s1 aA λv3 o3 g=>?_;refine hK v3 ?_ g;exact Ext.fresh (Ext.fresh (Ext.fresh e o1.ext λi a=>O) o2.ext λi a=>O) o3.ext λi a=>by omega
def iJ (c:bZ)(l:List Nat):List Value:=l.flatMap λ(s:Nat)=>[.int .i64 (s:Int),.int .i64 (c.aF:Int)]
theorem PW (c:bZ)(l:List Nat):(iJ c l).length=2*l.length:=by
 induction l with
 | nil=>rfl
 | cons x l ih=>simp only[iJ,oy,zO,zY,lA]at *;omega
theorem Jg (hc:c.ok){R:Option Addr->Int->Hp->Prop}(hR:∀σ' p,bK U σ'->U.size<=p->p<σ'.size->fB σ' (· = p) p c [] []->R (some ⟨p,0,none⟩) 0 σ'):Z6.c c.size c.aF c.batch U R:=by
 refine Z6.o ?_;unfold Z6.v;refine nw (cs:=[.int .i64 c.size,.int .i64 c.aF,.int .i64 c.batch]) λv w e d=>?_;refine d.rI rfl (d.rI rfl (d.rI rfl (F4 _ _ _ (λu r e1 e2 x s j=>?_) λb=>?_)))
 case refine_2=>rw[(DG c).2 hc]at b;cases b
 have a:=j.bT d id;refine cB rfl (a.rI rfl (a.rI rfl (a.rI rfl (nw (cs:=[.int .i64 c.size,.int .i64 c.aF,.int .i64 c.batch,.slice none 0 0]) λy m g i=>?_))));exact hR _ _ ((e.trans j).trans g) (by have:=j.1;omega) O ⟨⟨⟨none,0,0⟩,i,bR.nil _ _ _ _⟩,by simp,rfl,by simp[dW],by simp[dW],rfl,hc,by simp⟩
theorem PA (a b a' b':Nat){R:aO}(hR:∀σ',bK U σ'->R (decide (a>a')||(a==a'&&decide (b<b'))) σ'):WV.c (a:Int) (b:Int) (a':Int) (b':Int) U R:=by
 refine WV.o ?_;unfold WV.v;refine nw (cs:=[.int .i64 a,.int .i64 b]) λv s e p=>nw (cs:=[.int .i64 a',.int .i64 b']) λr m e1 i=>?_;have g:=e1.bT p id;have d:=hR _ (e.trans e1);refine g.rI rfl (i.rI rfl (bV.intro (cQ (λh=>?_) λh=>?_)))
 ·have:decide (a>a')=true:=by simpa using h
  rw[this,Bool.true_or]at d;exact d
 ·have:decide (a>a')=false:=by simpa using h
  rw[this,xF]at d;refine g.rI rfl (i.rI rfl (bV.intro ?_));rw[lE];refine cO (λj=>?_) λj=>?_
  ·rw[j,qG]at d;refine g.rI rfl (i.rI rfl ?_);have:decide ((b:Int)<(b':Int))=decide (b<b'):=by rw[decide_eq_decide];omega
   rw[this];exact d
  ·rw[j,tY]at d;exact d
theorem QC:∀{i k:Nat},Za ss i=some k->k<i/\∃s,ss[k]?=some s/\s.many<s.tk.length
 | 0,_,h=>by simp[Za]at h
 | i+1,k,h=>by
  have up:Za ss i=some k->k<i+1/\∃s,ss[k]?=some s/\s.many<s.tk.length:=λh=>by
   have:=QC h;exact⟨O,this.2⟩
  simp only[Za]at h;split at h
  ·rename_i x hx;split at h
   ·rename_i hlt;have a:i<i+1/\∃s,ss[i]?=some s/\s.many<s.tk.length:=⟨O,x,hx,hlt⟩;split at h
    ·rename_i j hj;split at h
     ·split at h
      ·cases h;exact a
      ·cases h;exact up hj
     ·cases h;exact a
    ·cases h;exact a
   ·exact up h
  ·exact up h
theorem Gy {s:cF}(h:s.many<s.tk.length):∃i,low s=some i/\i<s.tk.length/\s.is i=false:=by
 unfold low;cases hf:s.tk.findIdx? (· == false)with
 | some i=>
  obtain⟨a,b,_⟩:=m7.1 hf;refine⟨i,rfl,a,?_⟩;have:s.tk[i]=false:=by simpa using b
  simp[cF.is,zP,cU a,this]
 | none=>
  exfalso;have d:=uK.1 hf;have:s.many=s.tk.length:=by
   unfold cF.many;rw[List.count_eq_length];intro x hx;have:=d x hx;cases x
   ·simp at this
   ·rfl
  omega
theorem Dy:∀{ps:List (Nat×Nat)} {ss:List cF} {k:Nat} {s s':cF},ps.length=ss.length->ss[k]?=some s->s'.st=s.st->dQ ps (ss.set k s')=(dQ ps ss).set (3*k) (.int .i64 (s'.many:Int))
 | [],[],_,_,_,_,h,_=>by simp at h
 | [],_::_,_,_,_,h,_,_=>by simp at h
 | _::_,[],_,_,_,_,h,_=>by simp at h
 | x::ps,t::ss,0,s,s',_,h,e=>by simp at h;subst h;simp[dQ,e]
 | x::ps,t::ss,k+1,s,s',hl,h,e=>by
  simp only[rX,dQ];rw[Dy (ps:=ps) (ss:=ss) (s:=s) (by simpa using hl) (by simpa using h) e];rw[show 3*(k+1)=3*k+1+1+1 by omega];simp
theorem JK {h:Hp}{b:Nat}{cs cs':List Value}(h1:bY h b cs)(h2:bY h b cs'):cs=cs':=by
 obtain⟨e,d⟩:=h1;obtain⟨g,a⟩:=h2;rw[d]at a;simp only[Option.some.injEq,Obj.cells.injEq]at a;simpa using congrArg Array.toList a.1
theorem Qg {x:Nat×Nat}{i:Nat}(hx:ps[i]?=some x):x.1∈dW ps/\x.2∈dW ps:=
 ⟨Hb.2 ⟨x,zG hx,.inl rfl⟩,Hb.2 ⟨x,zG hx,.inr rfl⟩⟩
theorem EH:∀{ps:List (Nat×Nat)},(dW ps).Nodup->∀{i j:Nat} {x y:Nat×Nat},ps[i]?=some x->ps[j]?=some y->i≠j->∀b,(b=x.1\/b=x.2)->¬(b=y.1\/b=y.2)
 | [],_,_,_,_,_,h,_,_=>by simp at h
 | z::ps,hn,i,j,x,y,h1,h2,hij=>by
  have hn':z.1∉dW ps/\z.2∉dW ps/\z.1≠z.2/\(dW ps).Nodup:=by
   simp only[dW,oy,lf,tg,zr,zW,not_or]at hn;exact⟨hn.1.2,hn.2.1,hn.1.1,hn.2.2⟩
  intro b hb hb'
  match i,j,hij with
  | 0,0,h=>exact h rfl
  | 0,j+1,_=>
   simp at h1;subst h1;have:=Qg (ps:=ps) (i:=j) (by simpa using h2);rcases hb with rfl|rfl<;>rcases hb' with e|e<;>rw[e]at hn'<;>simp[this]at hn'
  | i+1,0,_=>
   simp at h2;subst h2;have:=Qg (ps:=ps) (i:=i) (by simpa using h1);rcases hb with rfl|rfl<;>rcases hb' with e|e<;>rw[←e]at hn'<;>simp[this]at hn'
  | i+1,j+1,h=>exact EH hn'.2.2.2 (by simpa using h1) (by simpa using h2) O b hb hb'
theorem fB.nY (h:fB U F p c ps ss){k:Nat}{x:Nat×Nat}{s s':cF}(hx:ps[k]?=some x)(hs:ss[k]?=some s)(hst:s'.st=s.st){σ1:Hp}(e1:Ext (λb=>b=x.1\/b=x.2) U σ1)(hS:ia σ1 x.1 x.2 c s')
 {sl:Sl} {rb:Nat} {cs:List Value} (hb:bY U p [.int .i64 (c.size:Int),.int .i64 (c.aF:Int),.int .i64 (c.batch:Int),.slice sl.a sl.len sl.cap]) (E:rk U F p ps ss sl rb cs)
 {K:aP} (hK:∀σ2,Ext F U σ2->fB σ2 F p c ps (ss.set k s')->K σ2):dS ⟨rb,3*k,none⟩ (.int .i64 (s'.many:Int)) σ1 K:=by
 obtain⟨m4,J,N⟩:=h.hd;have B:m4=sl:=by
  have:=JK J hb;simp at this;obtain⟨a,n,c⟩:=sl;obtain⟨W,S,V⟩:=m4;simp at this ⊢;exact this
 subst B;have g:=Qg hx;have e:=h.nd;simp only[zr]at e;have r:=(cV.1 hs).1;have D:=(bR.loc m4 3 (dQ ps ss)).bS N e1 λb hb P=>λd=>P.2.2 (by rcases d with rfl|rfl;exact g.1;exact g.2);have C:=e1.bT hb λd=>e.1 (by rcases d with h|h<;>rw[h];exact g.1;exact g.2)
 refine D.st (j:=3*k) (by rw[QR h.len];omega) (λb w=>by rw[E.a]at w;cases w;rfl) λσ2 e2 H=>?_;have G:Ext F U σ2:=(e1.sub λi A=>h.fb i (by rcases A with rfl|rfl;exact g.1;exact g.2)).trans (e2.sub λi A=>A.1);refine hK σ2 G ⟨⟨m4,e2.bT C λd=>d.2.1 rfl,?_⟩,λi y t u z=>?_,h.fp,h.fb,h.nd,by simpa using h.len,h.ok,?_⟩
 ·rw[Dy h.len hs hst];exact H
 ·have m:=Qg u;have Q:ia σ1 y.1 y.2 c t:=by
   by_cases hik:i=k
   ·subst hik;rw[hx]at u;cases u;rw[zM r]at z;cases z;exact hS
   ·rw[zk (Ne.symm hik)]at z;have M:=EH e.2 u hx hik;exact(h.sp i y t u z).bS e1 (M _ (.inl rfl)) (M _ (.inr rfl))
  exact Q.bS e2 (λd=>d.2.2 m.1) (λd=>d.2.2 m.2)
 ·have:(ss.set k s').map (·.st)=ss.map (·.st):=by
   apply zo;intro i;simp only[za];by_cases hik:i=k
   ·subst hik;rw[zM r,hs];simp[hst]
   ·rw[zk (Ne.symm hik)]
  have L:=h.pY;rw[←r5 (f:=cF.st) (R:=(· < ·))]at L ⊢;rw[this];exact L
theorem JV (h:fB U F p c ps ss){R:Int->Bool->Hp->Prop}(h1:∀x ss',iS c ss=some (x,ss')->∀σ',Ext F U σ'->fB σ' F p c ps ss'->R (x:Int) true σ')(h0:iS c ss=none->∀σ',bK U σ'->R 0 false σ') :
 YM.c (aW p) U R:=by
 refine YM.o ?_;unfold YM.v;obtain⟨sl,Y,hl,hr⟩:=h.sl;have hfew:=h.pD;have hn:=h.ok.kx;obtain⟨d,cs,E⟩:∃d cs,ss≠[]->rk U F p ps ss sl d cs:=by
  by_cases hne:ss=[]
  ·exact⟨0,[],λh=>absurd hne h⟩
  ·obtain⟨d,cs,E⟩:=hr hne;exact⟨d,cs,λ_=>E⟩
 refine aG (Y.rS rfl ?_);refine Uw (a:=.p) (bb:=bN) (λ(iK:Option Addr) (t:Int) G=>∃i:Nat,t=(i:Int)/\i<=ss.length/\bK U G/\iK=(Za ss i).map λk=>⟨d,3*k,none⟩) (λ_ t _=>ss.length-t.toNat) ⟨0,rfl,O,Ext.refl _ _,rfl⟩ ?_;rintro iK t G ⟨i,rfl,hi,e,rfl⟩;refine cQ (λS=>?_) λZ=>?_
 ·simp only at S;have N:i<ss.length:=by omega
  have E:=E (by rintro rfl;simp at N);obtain⟨P,s,L,H,z⟩:=h.jA N;have w:=QH L H;have aa:=z.len;refine aG ((e.bT Y id).rS rfl ?_);rw[E.a];refine ix O O ?_;rw[add_lit,show 0+(i:Int).toNat*3=3*i by omega];have Eb:=e.bT E.bT id;have B:Za ss (i+1)=if s.many<s.tk.length then(match Za ss i with
   | some j=>match ss[j]? with
    | some y=>if wA s y then some i else some j
    | none=>some i
   | none=>some i)else Za ss i:=by
   simp only[Za,H];rfl
  have J:∀(r:Bool) (v:Hp),bK U v->(if r then some i else Za ss i)=Za ss (i+1) →
   If r (Ar .i64 ((i:Int)+1) λb=>(∃j:Nat,b=(j:Int)/\j<=ss.length/\bK U v/\some (⟨d,3*i,none⟩:Addr)=(Za ss j).map λk=>⟨d,3*k,none⟩)/\ss.length-b.toNat<ss.length-(i:Int).toNat)
    (Ar .i64 ((i:Int)+1) λb=>(∃j:Nat,b=(j:Int)/\j<=ss.length/\bK U v/\((Za ss i).map λk=>(⟨d,3*k,none⟩:Addr))=(Za ss j).map λk=>⟨d,3*k,none⟩)/\ss.length-b.toNat<ss.length-(i:Int).toNat):=by
   intro r v ev hr';cases r
   ·refine cB rfl (cP (m:=i+1) O O ⟨⟨i+1,rfl,O,ev,?_⟩,O⟩);rw[←hr'];rfl
   ·refine cE rfl (cP (m:=i+1) O O ⟨⟨i+1,rfl,O,ev,?_⟩,O⟩);rw[←hr'];rfl
  refine Jn.intro ⟨λD=>bY D d cs,Eb,aG ⟨_,λD z=>by rw[add_lit,add_lit,z.cell];exact E.get w.1,aG ⟨_,λD z=>by rw[add_lit,z.cell];exact E.get w.2.2,?_⟩⟩⟩;refine Pm (z.bO e) ⟨Eb,?_⟩;refine cQ (λhlt2=>?_) λhge2=>?_
  ·have hm:s.many<s.tk.length:=by omega
   rw[zC hm]at B;cases hbf:Za ss i with
   | none=>
    rw[hbf]at B J;exact cE rfl (J true G e B.symm)
   | some j=>
    rw[hbf]at B J;obtain⟨hji,y,hy,hym⟩:=QC hbf;simp only[hy]at B;have Q:j<ps.length:=by rw[h.len];omega
    have A:=QH (cU Q) hy;have fin:WV.c (s.many:Int) (s.st:Int) (y.many:Int) (y.st:Int) G λt46 v3=>bY v3 d cs ∧
     If t46 (Ar .i64 ((i:Int)+1) λb=>(∃j:Nat,b=(j:Int)/\j<=ss.length/\bK U v3/\some (⟨d,3*i,none⟩:Addr)=(Za ss j).map λk=>⟨d,3*k,none⟩)/\ss.length-b.toNat<ss.length-(i:Int).toNat)
      (Ar .i64 ((i:Int)+1) λb=>(∃j':Nat,b=(j':Int)/\j'<=ss.length/\bK U v3/\((some j).map λk=>(⟨d,3*k,none⟩:Addr))=(Za ss j').map λk=>⟨d,3*k,none⟩)/\ss.length-b.toNat<ss.length-(i:Int).toNat):=by
     refine PA _ _ _ _ λv3 e3=>⟨e3.bT Eb id,J _ v3 (e.trans e3) ?_⟩;rw[B];rfl
    refine cB rfl (aG (aG ⟨?_,?_⟩))
    ·exact Eb.eZ (E.get w.1) (Eb.eZ (E.get w.2.1) ⟨Eb,Eb.eZ (E.get A.1) (Eb.eZ (E.get A.2.1) ⟨Eb,fin⟩)⟩)
    ·exact Eb.eZ (E.get A.1) (Eb.eZ (E.get A.2.1) ⟨Eb,Eb.eZ (E.get w.1) (Eb.eZ (E.get w.2.1) ⟨Eb,fin⟩)⟩)
  ·have hm:¬s.many<s.tk.length:=by omega
   rw[zB hm]at B;exact J false G e B.symm
 ·have ad:i=ss.length:=by simp only at Z;omega
  subst ad;cases hbf:Za ss ss.length with
  | none=>
   refine cE rfl (h0 ?_ _ e);simp[iS,iK,hbf]
  | some k=>
   obtain⟨hk,s,H,ac⟩:=QC hbf;have E:=E (by rintro rfl;simp at hk);obtain⟨P,s',L,K,z⟩:=h.jA hk;rw[H]at K;cases K;have w:=QH L H;obtain⟨r,C,ab,V⟩:=Gy ac;have G:=h.bO e;have one:iS c ss=some (at_ c s r,ss.set k (s.put r true)):=by simp[iS,iK,hbf,H,C]
   have E':rk _ F p ps ss sl d cs:=⟨E.a,e.bT E.bT id,E.fr,E.get,E.Be⟩;refine cB rfl (aG (E'.bT.rP (x:=some ⟨P.1,0,none⟩) (E.get w.2.2) ?_));refine Mf (z.bO e) C λv5 e5 X=>aG ?_;have M:=Qg L;have W:¬(d=P.1\/d=P.2):=λhh=>E.fr.2.2 (by rcases hh with h|h<;>rw[h];exact M.1;exact M.2)
   have hml:=AD s;have g:=Gf ab true;rw[V]at g;have u:(s.put r true).many=s.many+1:=by simp at g;omega
   have aa:=z.len;refine(e5.bT E'.bT W).eZ (E.get w.1) (cP (m:=s.many+1) O O (aG ?_));rw[add_lit,add_lit,j7,j7,←u];exact G.nY (s':=s.put r true) L H rfl e5 X (e.bT Y id) E' λv6 e6 h6=>h1 _ _ one v6 (e.to.trans e6) h6
theorem RL {k:Nat}{s s':cF}(hs:ss[k]?=some s):oV (ss.set k s')+(s.tk.length-s.many)=oV ss+(s'.tk.length-s'.many):=by
 unfold oV
 induction ss generalizing k with
 | nil=>simp at hs
 | cons x ss ih=>
  cases k with
  | zero=>simp at hs;subst hs;simp;omega
  | succ k=>
   have:=ih (by simpa using hs);simp only[rX,zS,nO];omega
theorem N1 {x:Nat}{ss':List cF}(h:iS c ss=some (x,ss')):oV ss'+1=oV ss:=by
 unfold iS at h;split at h
 ·rename_i k hk;obtain⟨_,s,e,a⟩:=QC hk;rw[e]at h;simp only at h;split at h
  ·rename_i i hi;cases h;obtain⟨r,g,d,b⟩:=Gy a;rw[hi]at g;cases g;have m:=RL (s':=s.put i true) e;have j:=Gf d true;rw[b]at j;have p:(s.put i true).tk.length=s.tk.length:=by simp[cF.put]
   simp at j;omega
  ·cases h
 ·cases h
theorem fB.room (h:fB U F p c ps ss):oV ss<=131072:=by
 have key:∀l:List cF,(∀s∈l,s.tk.length<=128)->oV l<=128*l.length:=by
  intro l
  induction l with
  | nil=>intro _;simp[oV]
  | cons x l ih=>
   intro hl;have j:=hl x aA;have r:=ih λs b=>hl s (by simp[b]);simp only[oV,zS,nO,zY]at *;omega
 have:=key ss λs b=>by
  obtain⟨i,e⟩:=zQ b;have d:=(cV.1 e).1;obtain⟨x,m,_,a,g⟩:=h.jA d;rw[e]at a;cases a;rw[g.len];exact h.ok.kx
 have:=h.pD;omega
theorem Hu {m:Nat}{x:Nat}{ss':List cF}(h:iS c ss=some (x,ss')):QS c (m+1) ss=(x::(QS c m ss').1,(QS c m ss').2):=by
 simp[QS,h]
theorem P4 (h:fB U F p c ps ss)(m:Int)(hm:0<=m){R:Sl->Int->Hp->Prop}
 (hR:∀s σ',Ext F U σ'->bR s 1 (ints (QS c m.toNat ss).1) σ' (λb=>U.size<=b)->fB σ' (Cut F U) p c ps (QS c m.toNat ss).2->R s 0 σ'):WZ.c (aW p) m U R:=by
 refine WZ.o ?_;unfold WZ.v;have h:=fB.loc.cut h;have J:=fB.room h;refine VL h (cB rfl (fR O ?_));refine ZX (a:=.s) (λ(out:Sl) B=>∃j d,Ext F U B/\bR out 1 (ints j) B (λb=>U.size<=b)/\fB B (Cut F U) p c ps d/\j.length<=m.toNat/\j.length+oV d=oV ss/\QS c m.toNat ss=(j++(QS c (m.toNat-j.length) d).1,(QS c (m.toNat-j.length) d).2))
  (λout _=>m.toNat-out.len) ⟨[],ss,Ext.refl _ _,bR.nil _ _ _ _,h,by simp,by simp,by simp⟩ ?_
 rintro out B ⟨j,d,e,g,H,Z,Q,u⟩;have M:=g.oB;refine cQ (λX=>?_) λS=>?_
 ·have r:m.toNat-j.length=(m.toNat-(j.length+1))+1:=by omega
  refine JV H (λx G w v2 e2 L=>cB rfl ?_) λy v2 e2=>cE rfl ?_
  ·have C:Ext F U v2:=e.trans (e2.sub λi E=>E.1);have z:=aI.bS g e2 λb _ D N=>by have:=N.2;omega
   refine z.push (vs:=[.int .i64 (x:Int)]) (λb D=>zh C.1 D) rfl rfl (by simp[dP]) O O λs' v4 V P K=>?_;have Y:=N1 w;refine⟨⟨j++[x],G,C.dT P λi E=>.inr E,by rw[UJ];exact K,fB.loc.bS L P λb _ D N=>(by have:=D.2;omega),by simp;omega,by simp;omega,?_⟩,O⟩;rw[u,r,Hu w];simp
  ·have:QS c (m.toNat-j.length) d=([],d):=by rw[r];simp[QS,y]
   rw[this]at u;have A:=hR out v2 (e.trans e2.to);rw[u,kV]at A;exact A (aI.bO g e2) (H.bO e2)
 ·have W:m.toNat-j.length=0:=by omega
  rw[W]at u;have A:=hR out B e;rw[u]at A;simp only[QS,kV]at A;exact A g H
theorem Nk (h:fB U F p c ps ss)(m:Int)(hm:m<0){R:Sl->Int->Hp->Prop}(hR:R ⟨none,0,0⟩ 1 U):WZ.c (aW p) m U R:=by
 refine WZ.o ?_;unfold WZ.v;exact VL h (cB rfl (lT O hR))
def iZ:List (Nat×Nat)->List cF->List (Nat×Nat)
 | x::ps,s::ss=>if s.many != 0 then x::iZ ps ss else iZ ps ss
 | _,_=>[]
theorem Hr:∀{ps:List (Nat×Nat)} {ss:List cF},ps.length=ss.length->(iZ ps ss).length=(cG ss).length
 | [],[],_=>rfl
 | x::ps,s::ss,h=>by
  have ih:=Hr (ps:=ps) (ss:=ss) (by simpa using h);simp only[iZ,cG,sI]at *;split<;>simp[ih]
theorem yT:∀{ps:List (Nat×Nat)} {ss:List cF},(iZ ps ss).Sublist ps
 | [],_=>by simp[iZ]
 | _::_,[]=>by simp[iZ]
 | x::ps,s::ss=>by
  simp only[iZ];split
  ·exact yT.cons_cons x
  ·exact yT.cons x
theorem FR:∀{ps ps':List (Nat×Nat)} {ss ss':List cF},ps.length=ss.length->iZ (ps++ps') (ss++ss')=iZ ps ss++iZ ps' ss'
 | [],_,[],_,_=>rfl
 | x::ps,_,s::ss,_,h=>by
  simp only[lf,iZ,FR (ps:=ps) (ss:=ss) (by simpa using h)];split<;>rfl
theorem FY:∀{ps:List (Nat×Nat)} {ss:List cF} {i:Nat} {x:Nat×Nat} {s:cF},ps.length=ss.length->(iZ ps ss)[i]?=some x->(cG ss)[i]?=some s->∃j:Nat,ps[j]?=some x/\ss[j]?=some s
 | [],[],_,_,_,_,h,_=>by simp[iZ]at h
 | y::ps,t::ss,i,x,s,hl,h1,h2=>by
  have ih:=λi=>FY (ps:=ps) (ss:=ss) (i:=i) (x:=x) (s:=s) (by simpa using hl);simp only[iZ,cG,sI]at h1 h2;cases hm:(t.many != 0)
  ·rw[hm]at h1 h2;obtain⟨j,b,a⟩:=ih i h1 h2;exact⟨j+1,by simpa using b,by simpa using a⟩
  ·rw[hm]at h1 h2;cases i with
   | zero=>simp at h1 h2;exact⟨0,by simp[h1],by simp[h2]⟩
   | succ i=>
    obtain⟨j,b,a⟩:=ih i (by simpa using h1) (by simpa[cG]using h2);exact⟨j+1,by simpa using b,by simpa using a⟩
theorem PQ (a b:List cF):cG (a++b)=cG a++cG b:=by simp[cG]
theorem NU (a b:List cF):Qe (a++b)=Qe a++Qe b:=by simp[Qe]
theorem Mt (c:bZ)(a b:List Nat):iJ c (a++b)=iJ c a++iJ c b:=by simp[iJ]
theorem PY {a b:List (Nat×Nat)}(h:a.Sublist b):(dW a).Sublist (dW b):=by
 induction h with
 | slnil=>exact List.Sublist.refl _
 | cons x _ ih=>exact(ih.cons _).cons _
 | cons_cons x _ ih=>exact(ih.cons_cons _).cons_cons _
theorem DH {h:Hp}{Q:Rg}{n3:Nat}{o:Sl}{l:List Nat}{x1 x2:Nat}{s:cF}(hb:bY h n3 [.slice o.a o.len o.cap])(hrow:bR o 2 (iJ c l) h Q)(hQ:∀b,Q b->n3<b)(hl:l.length<=2000)(hS:ia h x1 x2 c s){R:aO}
 (hR:∀h' o',Ext (λb=>b=n3\/Q b) h h'->bY h' n3 [.slice (Sl.a o') o'.len o'.cap]->bR o' 2 (iJ c (l++if s.many=0 then[s.st]else[])) h' (Grow Q h)->R (s.many==0) h') :
 VM Tryz.prog ⟨223,#[],#[.pointer (some ⟨n3,0,none⟩)]⟩ [.agg #[.int .i64 (s.many:Int),.int .i64 (s.st:Int),.pointer (some ⟨x1,0,none⟩)]] [.one .b] h R:=by
 refine py (all := #[.agg #[.int .i64 (s.many:Int),.int .i64 (s.st:Int),.pointer (some ⟨x1,0,none⟩)],.pointer (some ⟨n3,0,none⟩)]) (by kernel_rfl) aA ?_;refine XM.o ?_;unfold XM.v;refine nw (cs:=[.int .i64 (s.many:Int),.int .i64 (s.st:Int),.pointer (some ⟨x1,0,none⟩)]) λv Z e d=>?_;have V:=hb.lt;have g:=e.bT hb id;have hrow:=(bR.loc o 2 (iJ c l)).mono hrow (G:=λb=>Q b/\b<h.size) λb hb y=>⟨y,hb⟩;refine Jn.intro (d.eZ rfl ?_);rw[wT];refine cO (λE=>?_) λE=>?_
 ·have r:s.many=0:=by simpa using E
  rw[zC r]at hR;refine⟨λh'=>bY h' h.size [.int .i64 (s.many:Int),.int .i64 (s.st:Int),.pointer (some ⟨x1,0,none⟩)]/\bY h' n3 [.slice o.a o.len o.cap],⟨d,g⟩,⟨o,λh' hS=>by rw[hS.2.cell];rfl,⟨some ⟨x1,0,none⟩,λh' hS=>by rw[add_lit,hS.1.cell];rfl,?_⟩⟩⟩;refine Sg (hS.bO e) λv2 e2=>⟨⟨e2.bT d id,e2.bT g id⟩,?_⟩;have x:=e.trans e2;have m:=aI.bO hrow x;have z:=m.1;rw[PW]at z;refine nw (cs:=[.int .i64 (s.st:Int),.int .i64 (c.aF:Int)]) λv3 S w B=>⟨⟨(e2.trans w).bT d id,(e2.trans w).bT g id⟩,?_⟩;have p:=aI.bO m w;have N:=x.1;refine p.app (ys:=[.int .i64 (s.st:Int),.int .i64 (c.aF:Int)]) rfl rfl ?_ (by simp[dP]) ?_ ?_ mN λX L M C F=>?_
  ·intro j u hu;rw[add_lit,zH,B.cell];exact hu
  ·simp only;have:(o.len+1)*16<=2001*16:=lW O O;omega
  ·simp only;omega
  ·have J:bY L h.size [.int .i64 (s.many:Int),.int .i64 (s.st:Int),.pointer (some ⟨x1,0,none⟩)]:=C.bT ((e2.trans w).bT d id) λD=>by have:=D.2;omega
   have K:bY L n3 [.slice o.a o.len o.cap]:=C.bT ((e2.trans w).bT g id) λD=>by have:=hQ _ D.1;omega
   refine⟨⟨J,K⟩,K.s0 aA λv5 o5 P=>(Ws o5 J O).eZ rfl ?_⟩;have H:Ext (λb=>b=n3\/Q b) h v5:=(bK.to ((e.trans e2).trans w)).trans (C.sub λi A=>.inr A.1)|>.trans (o5.ext.sub λi A=>.inl A);rw[wT];refine hR v5 X H P ?_;rw[Mt];have:iJ c [s.st]=[.int .i64 (s.st:Int),.int .i64 (c.aF:Int)]:=rfl;rw[this];have W:=aI.mono F (G:=Grow Q h) λb _ U=>by
    rcases U with h|h
    ·exact .inl h.1
    ·exact .inr O
   exact aI.bS W o5.ext λb _ y Y=>by
    rcases y with h|h
    ·have:=hQ _ h;omega
    ·omega
 ·have r:¬s.many=0:=by simpa using E
  rw[zB r,kV]at hR;refine d.eZ rfl ?_;rw[wT];exact hR v o e.to g (aI.bO (aI.mono hrow λb _ y=>.inl y.1) e)
def xW (n3:Nat)(c:bZ)(l:List Nat)(h:Hp):Prop:=∃o:Sl,bY h n3 [.slice o.a o.len o.cap]/\bR o 2 (iJ c l) h (λb=>n3<b)
theorem y9 {A D:List Value}{x y z:Value}{k:Nat}(hk:k=A.length)(hD:3<=D.length):(((A++D).set k x).set (k+1) y).set (k+2) z=A++[x,y,z]++D.drop 3:=by
 subst hk
 match D,hD with
 | d0::d1::d2::D,_=>simp[List.set_append]
theorem HF {i:Nat}{s:cF}(hs:ss[i]?=some s):Qe (ss.take (i+1))=Qe (ss.take i)++(if s.many=0 then[s.st]else[]):=by
 rw[k9,hs,NU]
 congr 1
 by_cases hm:s.many=0<;>simp[Qe,hm]
theorem Ht {i:Nat}{s:cF}(hs:ss[i]?=some s):cG (ss.take (i+1))=cG (ss.take i)++(if s.many=0 then[]else[s]):=by
 rw[k9,hs,PQ]
 congr 1
 by_cases hm:s.many=0<;>simp[cG,hm]
theorem A7 {i:Nat}{x:Nat×Nat}{s:cF}(hl:ps.length=ss.length)(hx:ps[i]?=some x)(hs:ss[i]?=some s):iZ (ps.take (i+1)) (ss.take (i+1))=iZ (ps.take i) (ss.take i)++(if s.many=0 then[]else[x]):=by
 rw[k9,k9,hs,hx,FR (by simp[hl])]
 congr 1
 by_cases hm:s.many=0<;>simp[iZ,hm]
theorem Ps (l:List cF):(Qe l).length<=l.length:=by unfold Qe;rw[zl];exact rZ _ _
theorem PR (l:List cF):(cG l).length<=l.length:=rZ _ _
theorem RR (h:fB U F p c ps ss){sl:Sl}{rb n3:Nat}{cs:List Value}{σ1:Hp}(e1:bK U σ1)(hlen:sl.len=ss.length)(hn3:U.size<=n3)(hE:ss≠[]->rk U F p ps ss sl rb cs/\sl.len<=sl.cap/\cs.length=sl.cap*3)(h0:xW n3 c [] σ1){R:Sl->Hp->Prop}
 (hR:∀h' m4,Ext (λb=>F b/\b≠p/\b∉dW ps\/n3<=b) σ1 h'->xW n3 c (Qe ss) h'->(m4=sl/\Qe ss=[]/\cG ss=ss/\iZ ps ss=ps/\Ext (λb=>n3<=b) σ1 h'\/(bR m4 3 (dQ (iZ ps ss) (cG ss)) h' (λb=>F b/\b≠p/\b∉dW ps)))->R m4 h') :
 We.c sl ⟨223,#[],#[.pointer (some ⟨n3,0,none⟩)]⟩ σ1 R:=by
 refine We.o ?_;unfold We.v;refine Wh.o ?_;unfold Wh.v;have hfew:=h.pD;have r:=h.len;refine ZX (a:=bN) (λ(t:Int) h'=>∃i:Nat,t=(i:Int)/\i<=ss.length/\Ext (λb=>n3<=b) σ1 h'/\xW n3 c [] h'/\Qe (ss.take i)=[]/\cG (ss.take i)=ss.take i/\iZ (ps.take i) (ss.take i)=ps.take i) (λt _=>ss.length-t.toNat) ⟨0,rfl,O,Ext.refl _ _,h0,by simp[Qe],by simp[cG],by simp[iZ]⟩ ?_;rintro t h' ⟨i,rfl,hi,e,⟨o,N,ag⟩,q1,q2,q3⟩;have eo:∀{v:Hp},Ext (λb=>n3<=b) σ1 v->Ext (λb=>n3<=b) U v:=λe=>e1.to.trans e;refine cQ (λhlt=>?_) λhge=>?_
 ·have ad:i<ss.length:=by omega
  obtain⟨E,hcap,hcl⟩:=hE (by rintro rfl;simp at ad);obtain⟨xx,s,hp,K,hS⟩:=h.jA ad;have eg:=QH hp K;have hrl:=E.bT.lt;have hSl:=hS.lt;rw[E.a];refine ix O O ?_;rw[add_lit,show 0+(i:Int).toNat*3=3*i by omega];refine wJ (e:=0) ((eo e).bT E.bT O) (E.get eg.1) (E.get eg.2.1) (E.get eg.2.2) ?_;have hn3h:n3<h'.size:=N.lt;refine DH N ag (λb h=>h) aA (hS.bS (eo e) O O) λh2 o2 e2 af A=>?_;have e2:Ext (λb=>n3<=b) h' h2:=e2.sub λb g=>by omega
  have A:=aI.mono A (G:=λb=>n3<b) λb _ g=>by
   rcases g with h|h
   ·exact h
   ·omega
  refine cO (λhm=>?_) λhm=>?_
  ·-- the first that goes
   have x:s.many=0:=by simpa using hm
   rw[zC x,tg]at A;have D:((i:Int)==(-1))=false:=by rw[ma];omega
   show If ((i:Int)==(-1)) _ _;refine cB D (cP (m:=i+1) O O ?_);have q1':Qe (ss.take (i+1))=[s.st]:=by rw[HF K,q1,zC x];rfl
   have Q:cG (ss.take (i+1))=ss.take i:=by rw[Ht K,q2,zC x,kV]
   have q3':iZ (ps.take (i+1)) (ss.take (i+1))=ps.take i:=by rw[A7 r hp K,q3,zC x,kV]
   have hke:∀k,k<=ss.length->(dQ (iZ (ps.take k) (ss.take k)) (cG (ss.take k))).length=3*(cG (ss.take k)).length:=λk _=>QR (Hr (by simp[r]));have Eb2:bY h2 rb cs:=(eo (e.trans e2)).bT E.bT O;refine Uw (a:=bN) (bb:=bN) (λ(i1 j1:Int) v=>∃j:Nat,j1=(j:Int)/\i<j/\j<=ss.length/\i1=((cG (ss.take j)).length:Int)/\(cG (ss.take j)).length<j/\Ext (λb=>b=rb\/n3<=b) σ1 v/\xW n3 c (Qe (ss.take j)) v ∧
    bY v rb (dQ (iZ (ps.take j) (ss.take j)) (cG (ss.take j))++cs.drop (3*(cG (ss.take j)).length))) (λ_ j1 _=>ss.length-j1.toNat) ?_ ?_
   ·refine⟨i+1,rfl,O,O,?_,?_,(e.trans e2).sub λb g=>.inr g,?_,?_⟩
    ·rw[Q,zZ];omega
    ·rw[Q,zZ];omega
    ·rw[q1'];exact⟨o2,af,A⟩
    ·rw[Q,q3',zZ,po O];have:dQ (ps.take i) (ss.take i)++cs.drop (3*i)=cs:=by
      have h1:(dQ (ps.take i) (ss.take i)).length=3*i:=by rw[QR (by simp[r]),zZ];omega
      apply zo;intro k;rcases kc k (3*i)with hk|hk
      ·rw[ze O];have h2:(dQ ps ss)[k]?=(dQ (ps.take i) (ss.take i))[k]? := by
        conv=>lhs;rw[←nG i ps,←nG i ss,KU (by simp[r])]
        rw[ze O]
       rw[←h2];have h3:k<(dQ ps ss).length:=by rw[QR r];omega
       rw[cU h3];exact(E.get (cU h3)).symm
      ·rw[zp O,kW,h1]
       congr 1;omega
     rw[this];exact Eb2
   ·rintro i1 j1 v ⟨j,rfl,hij,hj,rfl,hKj,ev,⟨o3,B,M⟩,z⟩;have y:=hke j hj;have evo:Ext (λb=>b=rb\/n3<=b) U v:=e1.to.trans ev;refine cQ (λhlt2=>?_) λhge2=>?_
    ·have hj':j<ss.length:=by omega
     obtain⟨yy,u,V,H,ae⟩:=h.jA hj';have S:=QH V H;have hSul:=ae.lt;have Z:=Qg V;refine ix O O ?_;rw[add_lit,show 0+(j:Int).toNat*3=3*j by omega];have get:∀d,d<3->∀w,(dQ ps ss)[3*j+d]?=some w->(dQ (iZ (ps.take j) (ss.take j)) (cG (ss.take j))++cs.drop (3*(cG (ss.take j)).length))[3*j+d]?=some w:=by
      intro d hd w hw;rw[zp O,kW,y,show 3*(cG (ss.take j)).length+(3*j+d-3*(cG (ss.take j)).length)=3*j+d by omega];exact E.get hw
     refine wJ (e:=0) z (get 0 O _ S.1) (get 1 O _ S.2.1) (get 2 O _ S.2.2) (Em λv5 X b5=>b5.rI rfl (b5.rI rfl (b5.rP rfl ?_)));have hn3v:n3<v.size:=B.lt;have Y:=aI.mono M (G:=λb=>n3<b/\b<v.size) λb g hf=>⟨hf,g⟩;have J:=Ps (ss.take j);rw[zZ]at J;refine DH (X.bT B id) (aI.bO Y X) (λb g=>g.1) O ((ae.bS evo (λW=>by rcases W with h|h;exact E.fr.2.2 (h▸Z.1);omega) (λW=>by rcases W with h|h;exact E.fr.2.2 (h▸Z.2);omega)).bO X) λv6 o6 e6 ah C=>?_;have hsz5:=X.1;have C:=aI.mono C (G:=λb=>n3<b) λb _ g=>by
      rcases g with h|h
      ·exact h.1
      ·omega
     have b6:bY v6 v.size [.int .i64 (u.many:Int),.int .i64 (u.st:Int),.pointer (some ⟨yy.1,0,none⟩)]:=e6.bT b5 λW=>by rcases W with h|h;omega;have:=h.2;omega
     have hrb:rb<U.size:=E.bT.lt;have L:=e6.bT (X.bT z id) λW=>by rcases W with h|h;omega;have:=h.1;omega
     have aa:Ext (λb=>b=rb\/n3<=b) σ1 v6:=(ev.trans X.to).trans (e6.sub λb g=>by rcases g with h|h;omega;have:=h.1;omega);rw[←HF H]at C;have st:=Ht H;have kt:=A7 r V H;by_cases hum:u.many=0
     ·rw[zC hum,kV]at st kt;have:(u.many==0)=true:=by simp[hum]
      rw[this];refine cB rfl (cP (m:=j+1) O O ⟨⟨j+1,rfl,O,O,?_,?_,aa,⟨o6,ah,C⟩,?_⟩,O⟩)
      ·rw[st]
      ·rw[st];omega
      ·rw[st,kt];exact L
     ·rw[zB hum]at st kt;have:(u.many==0)=false:=by simp[hum]
      rw[this];refine cE rfl (b6.rI rfl (b6.rI rfl (b6.rP rfl (ix O O ?_))));rw[add_lit,show 0+((cG (ss.take j)).length:Int).toNat*3=3*(cG (ss.take j)).length by omega];have hlen6:(dQ (iZ (ps.take j) (ss.take j)) (cG (ss.take j))++cs.drop (3*(cG (ss.take j)).length)).length=cs.length:=by
       rw[zO,y,jZ];omega
      refine L.s1 O λv7 o7 b7=>b7.s1 aE λv8 o8 b8=>b8.s1 aE λv9 o9 b9=>?_;rw[j7,y9 y.symm (by rw[jZ];omega),List.drop_drop]at b9;have ev9:Ext (λb=>b=rb\/n3<=b) σ1 v9:=((aa.trans (o7.ext.sub λb g=>.inl g)).trans (o8.ext.sub λb g=>.inl g)).trans (o9.ext.sub λb g=>.inl g);have ab:Ext (· = rb) v6 v9:=(o7.ext.trans o8.ext).trans o9.ext;refine cP (m:=(cG (ss.take j)).length+1) O O (cP (m:=j+1) O O ⟨⟨j+1,rfl,O,O,?_,?_,ev9,⟨o6,ab.bT ah O,aI.bS C ab λb _ g he=>O⟩,?_⟩,O⟩)
      ·rw[st];simp
      ·rw[st];simp;omega
      ·rw[st,kt,KU (Hr (by simp[r]))];simp only[zO,zY,lA,dQ];rw[show 3*((cG (ss.take j)).length+(0+1))=3*(cG (ss.take j)).length+3 by omega];exact b9
    ·have hjj:j=ss.length:=by omega
     subst hjj;rw[mS]at *;have P:ps.take ss.length=ps:=by rw[←r,mS]
     rw[P]at z y;have J:=PR ss;refine iM O O O ?_;have hK3:3*(cG ss).length<=cs.length:=by omega
     have hlt3:(cG ss).length<ss.length:=hKj;rw[zB O];simp only[E.a,zX,add_lit,zH];refine⟨by simp[dP],?_⟩;simp only;have hz:(List.replicate (sl.len-(cG ss).length) [Value.int .i64 0,.int .i64 0,.pointer none]).flatten.length=3*(sl.len-(cG ss).length):=by
      rw[wo,tP,vA];simp;omega
     refine VP (o:=(cG ss).length*3) (i:=0) z (by rw[hz,zO,y,jZ];omega) λv10 gT b10=>?_;refine iM (lo:=0) O O O ?_;have ac:Ext (λb=>b=rb\/n3<=b) σ1 v10:=ev.trans (gT.ext.sub λb g=>.inl g);refine hR v10 _ (ac.sub λb g=>?_) ⟨o3,Ws gT B (by have:=E.bT.lt;omega),aI.bS M gT.ext λb _ g he=>by have:=E.bT.lt;omega⟩ (.inr ?_)
     ·rcases g with rfl|h
      ·exact .inl E.fr
      ·exact .inr h
     ·refine⟨by rw[QR (Hr r)];simp;omega,.inr ⟨rb,_,E.fr,?_,b10,?_,?_,?_⟩⟩
      ·simp only[E.a];split<;>simp[add_lit]
      ·simp only;omega
      ·simp only[zO,zZ,jZ,hz,y];omega
      ·rw[QR (Hr r),j7,show(cG ss).length*3=3*(cG ss).length by omega];rw[ka,oT (by rw[zZ,zO,y];omega),yC,Nat.min_self];rw[oT O,mQ O]
  ·have x:¬s.many=0:=by simpa using hm
   rw[zB x,kV]at A;refine cP (m:=i+1) O O ⟨⟨i+1,rfl,O,e.trans e2,⟨o2,af,A⟩,?_,?_,?_⟩,O⟩
   ·rw[HF K,q1,zB x];rfl
   ·rw[Ht K,q2,zB x,k9,K];rfl
   ·rw[A7 r hp K,q3,zB x,k9,hp];rfl
 ·have hii:i=ss.length:=by omega
  subst hii;rw[mS]at *;have P:ps.take ss.length=ps:=by rw[←r,mS]
  rw[P]at q3;have D:((-1:Int)==(-1))=true:=rfl;refine cE D (hR h' sl (e.sub λb g=>.inr g) ?_ (.inl ⟨rfl,q1,q2,q3,e⟩));rw[q1];exact⟨o,N,ag⟩
theorem fB.m4 (h:fB U F p c ps ss):∃sl:Sl,bY U p [.int .i64 (c.size:Int),.int .i64 (c.aF:Int),.int .i64 (c.batch:Int),.slice sl.a sl.len sl.cap]/\sl.len=ss.length/\bR sl 3 (dQ ps ss) U (λb=>F b/\b≠p/\b∉dW ps) ∧
 ∃rb cs,(ss≠[]->rk U F p ps ss sl rb cs/\sl.len<=sl.cap/\cs.length=sl.cap*3):=by
 obtain⟨sl,m,e⟩:=h.hd;have i:=e.1;rw[QR h.len]at i;refine⟨sl,m,O,e,?_⟩;rcases e.2 with⟨h0,_⟩|⟨b,cs,hq,ha,hbb,hle,hcl,ht⟩
 ·exact⟨0,[],λg=>by have:=pC.2 g;omega⟩
 ·refine⟨b,cs,λ_=>⟨⟨ha,hbb,hq,λ{j v} d=>?_,?_⟩,hle,hcl⟩⟩
  ·rw[←ht,zj]at d;split at d
   ·exact d
   ·cases d
  ·have:=congrArg List.length ht;rw[zZ,QR h.len]at this;omega
theorem O9 (h:fB U F p c ps ss){R:Sl->Hp->Prop}
 (hR:∀o σ',Ext F U σ'->bR o 2 (iJ c (Qe ss)) σ' (λb=>U.size<=b)->fB σ' (Cut F U) p c (iZ ps ss) (cG ss)->R o σ'):XJ.c (aW p) U R:=by
 refine XJ.o ?_;unfold XJ.v;have h:=fB.loc.cut h;obtain⟨sl,a,B,y,V,cs,M⟩:=h.m4;refine VL h (cB rfl (nw (cs:=[.slice none 0 0]) λS L e1 D=>aG ((e1.bT a id).rS rfl ?_)));refine RR h e1 B (zD _) M ⟨⟨none,0,0⟩,D,bR.nil _ _ _ _⟩ λW m4 e2 ⟨o,w,C⟩ r=>aG ?_;have J:=a.lt;have e:=h.nd;have d:=PY (yT (ps:=ps) (ss:=ss));simp only[zr]at e;refine(e2.bT (e1.bT a id) λG=>by rcases G with h|h;exact h.2.1 rfl;omega).s1 aA λv3 o3 H=>?_;have u:=Ws o3 w (by have:=w.lt;omega);refine u.tO rfl (hR o v3 ?_ (aI.bS (aI.mono C λb _ a=>O) o3.ext λb _ a g=>O) ?_)
 ·refine(e1.to.dT e2 λb a=>?_).dT o3.ext λb a=>?_
  ·rcases a with h|h
   ·exact .inl h.1.1
   ·exact .inr h
  ·subst a;exact .inl h.fp.1
 ·have z:∀b,b∈dW ps->b<U.size->¬(Cut F U b/\b≠p/\b∉dW ps\/U.size<=b):=λb a P G=>by
   rcases G with h|h
   ·exact h.2.2 a
   ·omega
  refine⟨⟨m4,H,?_⟩,λi x s Q N=>?_,h.fp,λb a=>h.fb b (d.subset a),?_,Hr h.len,h.ok,h.pY.sublist sX⟩
  ·rcases r with⟨rfl,_,q2,q3,ex⟩|hr
   ·rw[q2,q3];exact aI.bS (aI.bS (aI.bO y e1) ex λb _ a g=>by have:=a.1.2;omega) o3.ext λb _ a g=>a.2.1 g
   ·exact aI.bS (aI.mono hr λb _ a=>⟨a.1,a.2.1,λm=>a.2.2 (d.subset m)⟩) o3.ext λb _ a g=>a.2.1 g
  ·obtain⟨j,A,E⟩:=FY h.len Q N;have K:=h.sp j x s A E;have m:=Qg A;have B:=K.lt;exact((K.bO e1).bS e2 (z _ m.1 B.1) (z _ m.2 B.2)).bS o3.ext (λg=>e.1 (g▸m.1)) (λg=>e.1 (g▸m.2))
  ·simp only[zr];exact⟨λm=>e.1 (d.subset m),e.2.sublist d⟩
theorem Jt {x:Int}{k i:Nat}{s:cF}(hc:0<c.size)(hk:kG c ss x=some k)(hs:ss[k]?=some s)(v:Bool)(y:Int):kG c (ss.set k (s.put i v)) y=kG c ss y:=by
 have b:∀t:cF,∀j w z,idx c (t.put j w) z=idx c t z:=λt j w z=>by unfold idx cF.put;simp only[nR]
 unfold kG;have a:=(cV.1 hs).1;have:(ss.set k (s.put i v)).map (λs=>(idx c s y).isSome)=ss.map (λs=>(idx c s y).isSome):=by
  apply zo;intro j;simp only[za];by_cases hjk:j=k
  ·subst hjk;rw[zM a,hs];simp[b]
  ·rw[zk (Ne.symm hjk)]
 have d:∀l:List cF,l.findIdx? (λs=>(idx c s y).isSome)=(l.map λs=>(idx c s y).isSome).findIdx? id:=λl=>by rw[List.findIdx?_map];rfl
 rw[d,d,this]
def kB (c:bZ)(ss:List cF)(xs:List Int):Prop:=(∀x∈xs,dX c ss x=some true)/\xs.Nodup
theorem Ge {x:Int}{b:Bool}(h:dX c ss x=some b):∃k s i,kG c ss x=some k/\ss[k]?=some s/\obj c s x=some i/\s.is i=b:=by
 unfold dX at h;split at h
 ·rename_i k hk;split at h
  ·rename_i s hs;cases ho:obj c s x with
   | none=>rw[ho]at h;cases h
   | some i=>rw[ho]at h;exact⟨k,s,i,hk,hs,ho,by simpa[cF.is]using h⟩
  ·cases h
 ·cases h
theorem xO {x:Int}{k i:Nat}{s:cF}(hk:kG c ss x=some k)(hs:ss[k]?=some s)(ho:obj c s x=some i):fE c ss x=ss.set k (s.put i false):=by
 simp[fE,hk,hs,ho]
theorem Jy {x y:Int}(hc:0<c.size)(hx:dX c ss x=some true)(hne:y≠x):dX c (fE c ss x) y=dX c ss y:=by
 obtain⟨k,s,i,u,d,A,_⟩:=Ge hx;rw[xO u d A];have p:=(cV.1 d).1;have a:=Jt hc u d false (i:=i) y;have g:∀t:cF,∀j w z,obj c (t.put j w) z=obj c t z:=λt j w z=>by unfold obj idx at_ cF.put;simp only[nR]
 cases hy:kG c ss y with
 | none=>rw[GT (a.trans hy),GT hy]
 | some m=>
  by_cases hmk:m=k
  ·subst hmk;rw[Vy (a.trans hy) (zM p),Vy hy d,g];cases hoy:obj c s y with
   | none=>rfl
   | some j=>
    simp only[zX,Option.some.injEq];have r:i≠j:=λe=>by
     subst e;exact hne (((Ul hc).1 hoy).1.trans ((Ul hc).1 A).1.symm)
    simp[cF.is,cF.put,zP,zk r]
  ·have b:m<ss.length:=(m7.1 hy).1;rw[Vy (a.trans hy) ((zk (Ne.symm hmk)).trans (cU b)),Vy hy (cU b)]
theorem kB.next {x:Int}{xs:List Int}(hc:0<c.size)(h:kB c ss (x::xs)):kB c (fE c ss x) xs:=by
 have b:=zr.1 h.2;refine⟨λy a=>?_,b.2⟩;rw[Jy hc (h.1 x aA) λe=>b.1 (e▸a)];exact h.1 y (by simp[a])
theorem El {xs:List Int}(h:iD c ss xs=0):kB c ss xs:=by
 unfold iD at h;split at h
 ·cases h
 ·rename_i h1;split at h
  ·cases h
  ·rename_i h2;simp only[nm,not_or,pS,mF,Bool.not_eq_false',zU,zT]at h1 h2;refine⟨λx d=>?_,h2.2⟩;have a:=h1 x d;have b:=h2.1 x d;cases ht:dX c ss x with
   | none=>rw[ht]at a;simp at a
   | some v=>
    cases v
    ·rw[ht]at b;exact absurd rfl b
    ·rfl
theorem RQ {sl:Sl}{xs:List Int}{X:Rg}(h:fB U F p c ps ss)(hs:cW sl 1 (xs.map (Value.int .i64)) U X)(hX:∀b,X b->¬F b)(hi:∀x∈xs,iE x)(hA:kB c ss xs)(hl:xs.length<=1000000){K:aP}
 (hK:∀σ',Ext F U σ'->fB σ' F p c ps (xs.foldl (fE c) ss)->K σ') :
 X9 [bN] (λI1=>I1 0 U) λJ3 (t49:Int) v6=>If (decide (t49<((sl.len:Nat):Int))) (Ix sl.a sl.len t49 1 λa51=>gA .i64 a51 v6 λaddr1=>
  XA.c (aW p) addr1 v6 λvx v7=>bU vx λa57=>fW (a57.add 2) v7 λt59=>Zo.c t59 addr1 v7 λt61 v8=>bU vx λa63=>gA .i64 ((a63.add 0).add 0) v8 λt66=>
  Ar .i64 (t66-1) λt67=>bU vx λa68=>dS ((a68.add 0).add 0) (.int .i64 t67) v8 λv9=>Ar .i64 (t49+1) λt71=>J3 t71 v9) (K v6):=by
 have hlen:sl.len=xs.length:=by have:=hs.1;simp at this;omega
 have B:0<c.size:=by have:=h.ok.1;omega
 refine ZX (a:=bN) (λ(t:Int) L=>∃(i:Nat) (u:List cF),t=(i:Int)/\i<=xs.length/\Ext F U L/\fB L F p c ps u/\kB c u (xs.drop i)/\(xs.drop i).foldl (fE c) u=xs.foldl (fE c) ss) (λt _=>xs.length-t.toNat) ⟨0,ss,rfl,O,Ext.refl _ _,h,by simpa using hA,by simp⟩ ?_;rintro t L ⟨i,u,rfl,hil,e,J,w,G⟩;refine cQ (λhlt=>?_) λhge=>?_
 ·have y:i<xs.length:=by omega
  have hx:xs[i]?=some xs[i]:=cU y;have hd:xs.drop i=xs[i]::xs.drop (i+1):=wQ y;rw[hd]at w G;refine(aH.bS hs e λb _ W hF=>hX b W hF).np hx ?_;obtain⟨k,s,j,M,d,N,z⟩:=Ge (w.1 xs[i] pw);have D:=hi xs[i] (j3 y);refine yY J xs[i] D (λhn=>by rw[M]at hn;cases hn) λk' m4 rb cs H P W E=>aG ?_;rw[M]at H;cases H;obtain⟨Y,s',Q,A,R⟩:=J.jA P;rw[d]at A;cases A;have eg:=QH Q d;have hj:=((Ul B).1 N).2;refine E.bT.rP (x:=some ⟨Y.1,0,none⟩) (E.get eg.2.2) ?_;refine PJ R D N z λv8 e8 Z=>aG ?_;have C:=Qg Q;have S:¬(rb=Y.1\/rb=Y.2):=λhh=>E.fr.2.2 (by rcases hh with h|h<;>rw[h];exact C.1;exact C.2)
  have hml:=AD s;have g:=Gf hj false;rw[z]at g;have hsl:=R.len;have hnl:=R.ok.kx;have r:((s.put j false).many:Int)=s.many-1:=by simp at g;omega
  refine(e8.bT E.bT S).eZ (E.get eg.1) (ar O O (aG ?_));simp only[add_lit,j7];rw[←r];refine J.nY (s':=s.put j false) Q d rfl e8 Z W E λv9 e9 V=>?_;refine cP (m:=i+1) O O ⟨⟨i+1,_,rfl,O,e.trans e9,V,?_,?_⟩,O⟩
  ·have:=kB.next B w
   rwa [xO M d N]at this
  ·rw[qM,xO M d N]at G;exact G
 ·have:i=xs.length:=by omega
  subst this;rw[List.drop_length,List.foldl_nil]at G;subst G;exact hK L e J
theorem Jo (h:fB U F p c ps ss){sl:Sl}{xs:List Int}{X:Rg}(hs:cW sl 1 (xs.map (Value.int .i64)) U X)(hX:∀b,X b->¬F b)(hi:∀x∈xs,iE x)(hl:xs.length<=1000000)(hcap:sl.len<=sl.cap){R:Sl->Int->Hp->Prop}
 (h0:iD c ss xs≠0->R ⟨none,0,0⟩ (iD c ss xs) U)
 (h1:iD c ss xs=0->∀o σ',Ext F U σ'->bR o 2 (iJ c (Qe (xs.foldl (fE c) ss))) σ' (λb=>U.size<=b)->fB σ' (Cut F U) p c (iZ ps (xs.foldl (fE c) ss)) (cG (xs.foldl (fE c) ss))->R o 0 σ') :
 YE.c (aW p) sl U R:=by
 refine YE.o ?_;unfold YE.v;have hlen:sl.len=xs.length:=by have:=hs.1;simp at this;omega
 refine VL h (cB rfl ?_);have tw:∀i,(xs.take i).any (λx=>dX c ss x==some false)=true\/¬(xs.take i).Nodup->(∀x∈xs,(dX c ss x).isSome=true)->iD c ss xs=9:=by
  intro i d hall;unfold iD;rw[zB,zC]
  ·rcases d with d|d
   ·rw[kC]at d;obtain⟨x,u,N⟩:=d;have:xs.any (λx=>dX c ss x==some false)=true:=kC.2 ⟨x,vW u,N⟩;rw[this];rfl
   ·have:¬xs.Nodup:=λE=>d (E.sublist (Bs _ _));simp[this]
  ·simp only[pS,mF];intro x u;have:=hall x u;cases ht:dX c ss x
   ·rw[ht]at this;cases this
   ·simp
 refine Uw (a:=.b) (bb:=bN) (λ(tw:Bool) (t:Int) B=>∃i:Nat,t=(i:Int)/\i<=xs.length/\B=U/\(∀x∈xs.take i,(dX c ss x).isSome=true)/\(tw=true↔(xs.take i).any (λx=>dX c ss x==some false)=true\/¬(xs.take i).Nodup)) (λ_ t _=>xs.length-t.toNat)
  ⟨0,rfl,O,rfl,by simp,by simp⟩ ?_
 rintro w t B ⟨i,rfl,hil,rfl,g,C⟩;refine cQ (λhlt=>?_) λhge=>?_
 ·have D:i<xs.length:=by omega
  have u:xs[i]?=some xs[i]:=cU D;have Y:=hi xs[i] (j3 D);have H:xs.take (i+1)=xs.take i++[xs[i]]:=by rw[k9,u];rfl
  refine hs.np u (GN h xs[i] Y (λb d=>cB rfl ?_) λE=>cE rfl ?_)
  ·have A:∀x∈xs.take (i+1),(dX c ss x).isSome=true:=by
    rw[H];intro x u;rcases zL.1 u with h1|h1
    ·exact g x h1
    ·simp at h1;subst h1;rw[d];rfl
   have fin:∀L:Bool,(L=true↔(xs.take (i+1)).any (λx=>dX c ss x==some false)=true\/¬(xs.take (i+1)).Nodup)->Ar .i64 ((i:Int)+1) λs=>
    (∃j:Nat,s=(j:Int)/\j<=xs.length/\B=B/\(∀x∈xs.take j,(dX c ss x).isSome=true)/\(L=true↔(xs.take j).any (λx=>dX c ss x==some false)=true\/¬(xs.take j).Nodup))/\xs.length-s.toNat<xs.length-(i:Int).toNat:=
    λL V=>cP (m:=i+1) O O ⟨⟨i+1,rfl,O,rfl,A,V⟩,O⟩
   have ab:∀y:Int,(xs.take i++[y]).Nodup↔(xs.take i).Nodup/\y∉xs.take i:=λy=>by
    rw[nE];constructor
    ·exact λh=>⟨h.1,λM=>h.2.2 y M y aA rfl⟩
    ·exact λh=>⟨h.1,by simp,λa ha z hz e=>by simp at hz;subst hz;exact h.2 (e▸ha)⟩
   have ex:(xs.take (i+1)).any (λx=>dX c ss x==some false)=true\/¬(xs.take (i+1)).Nodup↔(w=true\/b=false)\/xs[i]∈xs.take i:=by
    rw[H,ab,List.any_append,C];simp only[List.any_cons,List.any_nil,Bool.or_false,nm,d];have W:((some b==some false)=true)↔b=false:=by cases b<;>simp
    rw[W];constructor
    ·rintro((h|h)|h)
     ·exact .inl (.inl (.inl h))
     ·exact .inl (.inr h)
     ·by_cases E:(xs.take i).Nodup
      ·by_cases M:xs[i]∈xs.take i
       ·exact .inr M
       ·exact absurd ⟨E,M⟩ h
      ·exact .inl (.inl (.inr E))
    ·rintro(((h|h)|h)|h)
     ·exact .inl (.inl h)
     ·exact .inr λK=>h K.1
     ·exact .inl (.inr h)
     ·exact .inr λK=>K.2 h
   have J1:∀r:Bool,(r=true↔w=true\/b=false)->bV (λL v4=>Ar .i64 ((i:Int)+1) λs=>
    (∃j:Nat,s=(j:Int)/\j<=xs.length/\v4=B/\(∀x∈xs.take j,(dX c ss x).isSome=true)/\(L=true↔(xs.take j).any (λx=>dX c ss x==some false)=true\/¬(xs.take j).Nodup))/\xs.length-s.toNat<xs.length-(i:Int).toNat) λJ2=>
    If r (J2 true B) (eY sl 1 0 (i:Int) (sl.cap:Nat) λZ=>Wp.c Z xs[i] B λt43 v5=>J2 t43 v5):=by
    intro r hr;refine bV.intro ?_;cases r
    ·refine cB rfl ?_;refine iM (lo:=0) O O O ?_;have J:cW ⟨if sl.cap=0 then sl.a else sl.a.map (·.add (0*1)),i-0,sl.cap-0⟩ 1 ((xs.take i).map (Value.int .i64)) B X:=by
      refine⟨by simp;omega,?_⟩;rcases hs.2 with h0|⟨b',o',cs',hf',ha',hb',hc'⟩
      ·left;have:xs=[]:=by simpa using h0
       simp[this]
      ·refine .inr ⟨b',o',cs',hf',?_,hb',λj hj=>?_⟩
       ·rw[zB O,ha'];simp[add_lit]
       ·simp only[zl,zZ]at hj;rw[hc' j aE,List.map_take,zj,zC O]
     refine RD J aE _ (fin _ ?_);rw[ex,←hr];simp
    ·refine cE rfl (fin true ?_);rw[ex,←hr];simp
   refine bV.intro ?_;cases w
   ·refine cB rfl (J1 _ ?_);cases b<;>simp
   ·exact cE rfl (J1 _ aA)
  ·have:iD c ss xs=8:=by
    unfold iD;rw[zC];exact kC.2 ⟨xs[i],j3 D,by rw[E];rfl⟩
   have h0:=h0 (by rw[this];decide);rw[this]at h0;exact h0
 ·have:i=xs.length:=by omega
  subst this;rw[mS]at *;cases w
  ·refine cB rfl ?_;have hE:iD c ss xs=0:=by
    unfold iD;have Q:¬(xs.any (λx=>dX c ss x==some false)=true\/¬xs.Nodup):=λK=>by have:=C.2 K;cases this
    rw[zB,zB]
    ·simp only[not_or,pS,Decidable.not_not]at Q;rw[Q.1];simp[Q.2]
    ·simp only[pS,mF];intro x u;have:=g x u;cases ht:dX c ss x
     ·rw[ht]at this;cases this
     ·simp
   refine RQ (fB.loc.cut h) hs (λb d hf=>hX b d hf.1) hi (El hE) hl λv6 e6 aa=>?_;refine O9 aa λo S e10 P G=>?_;exact h1 hE o S ((e6.trans e10).sub λb d=>d.1) (aI.mono P λb _ d=>zh e6.1 d) (fB.loc.mono G λb _ d=>d.1)
  ·refine cE rfl ?_;have h9:=tw xs.length (by rw[mS];exact C.1 rfl) g;have h0:=h0 (by rw[h9];decide);rw[h9]at h0;exact h0
theorem Pa {x y:Sl}{a o b o':Nat}{cs ds:List Value}(hx:x.a=some ⟨a,o,none⟩)(hy:y.a=some ⟨b,o',none⟩)(ha:bY U a cs)(hb:bY U b ds)(hne:a≠b)(hd:ds≠[]){K:aO}(hK:K false U) :
 tf Tryz.prog 288 [.slice x.a x.len x.cap,.slice y.a y.len y.cap] U K:=by
 rintro w rfl;obtain⟨d,ha⟩:=ha;obtain⟨g,hb⟩:=hb;refine⟨false,w,?_,.refl _,hK⟩;rw[hx,hy,run_callFunc_extern Tryz.func288 (by kernel_rfl) (by kernel_rfl) (by kernel_rfl) (e:=Extern.SlicesOverlaps.overlaps #[255,255] #[4]) (by kernel_rfl)];have:=Lib.run_overlaps_apart (P:=Tryz.prog) w 255 4 262 Tryz.underlying255 3 Tryz.sizeOf262
  ⟨a,o,none⟩ ⟨b,o',none⟩ x.len x.cap y.len y.cap hne d g cs.length ds.length (by simp[World.shape?,ha]) (by simp[World.shape?,hb]) (by simpa using hd) (by simp[World.frozen?,ha]) (by simp[World.frozen?,ha])
 rw[this];rfl
theorem Nv {Q:Rg}{s:Sl}{xs:List Value}{i m vb:Nat}{x y z:Value}(h:bR s 3 xs U Q)(hlen:s.len=m)(hm:m<=2000)(hi:i<=m)(hv:bY U vb [x,y,z])(hvb:¬Q vb)(h1:∀v∈xs,dP v=true)(h2:dP x=true/\dP y=true/\dP z=true)
 {R:Sl->Hp->Prop} (hR:∀s' σ',Ext Q U σ'->bR s' 3 (xs.take (3*i)++[x,y,z]++xs.drop (3*i)) σ' (Grow Q U)->R s' σ') :
 Wg.c s (i:Int) ⟨some ⟨vb,0,none⟩,1,1⟩ U R:=by
 refine Wg.o ?_;unfold Wg.v;have hxl:=h.1;have hcap:s.len<=s.cap:=by
  rcases h.2 with⟨h0,h0'⟩|⟨b,cs,_,_,_,M,_⟩
  ·omega
  ·exact M
 have aa:Rd U (some ⟨vb,0,none⟩) [x,y,z]:=by
  intro j u hu;rw[add_lit,zH,hv.cell];exact hu
 have ho:∀v∈[x,y,z],dP v=true:=by simp[h2]
 refine iM O O O (cB rfl (cO (λX=>?_) λX=>?_))
 ·have W:i=m:=by
   have:(i:Int)=((s.len:Nat):Int):=by simpa using X
   omega
  refine h.app (ys:=[x,y,z]) rfl rfl aa ho aD aD mN λs' h' hl' e' ho'=>hR s' h' e' ?_
  rw[mQ O,List.drop_of_length_le O,kV];exact ho'
 ·have W:i<m:=by
   have:¬(i:Int)=((s.len:Nat):Int):=by simpa using X
   omega
  obtain⟨b,cs,P,ha,E,M,G,ht⟩:∃b cs,Q b/\s.a=some ⟨b,0,none⟩/\bY U b cs/\s.len<=s.cap/\cs.length=s.cap*3/\cs.take xs.length=xs:=by
   rcases h.2 with⟨h0,_⟩|h
   ·omega
   ·exact h
  have K:vb≠b:=λe=>hvb (e▸P);have w:∀j v,xs[j]?=some v->cs[j]?=some v:=λj v p=>by
   rw[←ht,zj]at p;split at p
   ·exact p
   ·cases p
  refine cP (m:=m+1) aD O (cQ (λhgt=>?_) λhle2=>?_)
  ·-- no room: a new row
   refine iM (lo:=0) O O O (cP (m:=m+1) aD O (cP (m:=m+1-i) O O ?_))
   have C:¬s.cap=0:=by omega
   rw[zB C];simp only[ha,zX,add_lit,ux,j7,Nat.sub_zero];refine⟨O,xs.take (3*i),by rw[zZ];simp only;omega,?_,by simp[dP],by simp only;omega,by simp only;omega,O,λZ=>by simp only at Z;omega,λ_ cc J=>?_⟩
   ·intro j v p;rw[add_lit,zH,E.cell];rw[zj]at p;split at p
    ·exact w j v p
    ·cases p
   simp only[dE]at J ⊢;have hi1:i+(m+1-i)=m+1:=by omega
   rw[hi1]at J ⊢;refine nw λv2 hz2 e2 hb2=>?_;have A:∀k,(List.replicate k [Value.int .i64 0,.int .i64 0,.pointer none]).flatten.length=3*k:=λk=>by
    rw[wo,tP,vA];simp;omega
   have g:(xs.take (3*i)).length=3*i:=by rw[zZ];omega
   refine iM aD aD aD ?_
   have Y:=e2.bT hv id;have n1:(if cc=i then(some ⟨U.size,0,none⟩:Option Addr)else(some ⟨U.size,0,none⟩:Option Addr).map (·.add (i*3)))=some ⟨U.size,i*3,none⟩:=by
    have:¬cc=i:=by omega
    rw[zB this];simp[add_lit]
   rw[n1];refine⟨[x,y,z],by simp only;rw[po O];rfl,?_,ho,?_⟩
   ·intro j u hu;rw[add_lit,zH,Y.cell];exact hu
   simp only;refine VP (o:=i*3) (i:=0) hb2 (by simp only[zO,g,A,zY,lA];omega) λv3 o3 S=>?_;refine cP (m:=i+1) aD O (iM aD aD aD (iM O O O ?_))
   have H:bY v3 b cs:=Ws o3 (e2.bT E id) (by have:=E.lt;omega);have d:(xs.drop (3*i)).length=3*(m-i):=by rw[jZ];omega
   refine⟨xs.drop (3*i),by simp only;rw[po O,d];omega,?_,λv hv=>h1 v (tI hv),?_⟩
   ·have r:¬s.cap=i:=by omega
    rw[zB r];simp only[ha,zX,add_lit];intro j v p;rw[add_lit,H.cell];rw[kW]at p;have:=w _ _ p;rw[show 0+i*3+j=3*i+j by omega];exact this
   have hbig:(xs.take (3*i)++(List.replicate (m+1-i) [Value.int .i64 0,.int .i64 0,.pointer none]).flatten++(List.replicate (cc-(m+1)) [Value.int .i64 0,.int .i64 0,.pointer none]).flatten).length=3*cc:=by
    simp only[zO,g,A];omega
   have tk:∀L:List Value,((xs.take (3*i)++(List.replicate (m+1-i) [Value.int .i64 0,.int .i64 0,.pointer none]).flatten++(List.replicate (cc-(m+1)) [Value.int .i64 0,.int .i64 0,.pointer none]).flatten).take (3*i))=xs.take (3*i):=λ_=>by
    rw[ka,oT O,mQ O]
   have fin:∀v4,Qo v3 v4 U.size->bY v4 U.size ((xs.take (3*i)++[x,y,z])++xs.drop (3*i)++((xs.take (3*i)++(List.replicate (m+1-i) [Value.int .i64 0,.int .i64 0,.pointer none]).flatten++(List.replicate (cc-(m+1)) [Value.int .i64 0,.int .i64 0,.pointer none]).flatten).drop (3*i+3)).drop (3*(m-i)))->R ⟨some ⟨U.size,0,none⟩,m+1,cc⟩ v4:=by
    intro v4 o4 b4;refine hR _ v4 ?_ ⟨?_,.inr ⟨U.size,_,.inr (zD _),rfl,b4,by simp only;omega,?_,?_⟩⟩
    ·exact((e2.to.dT o3.ext λi hi=>by subst hi;exact .inr (zD _)).dT o4.ext λi hi=>by subst hi;exact .inr (zD _))
    ·simp only[zO,g,d,zY,lA];omega
    ·simp only[zO,g,d,zY,lA,jZ,A];omega
    ·rw[ka (xs.take (3*i)++[x,y,z]),←ka,xQ];rfl
   have e3:(xs.take (3*i)++(List.replicate (m+1-i) [Value.int .i64 0,.int .i64 0,.pointer none]).flatten++(List.replicate (cc-(m+1)) [Value.int .i64 0,.int .i64 0,.pointer none]).flatten).take (i*3+0)=xs.take (3*i):=by
    rw[show i*3+0=3*i by omega];exact tk []
   rw[e3]at S;have D:(xs.take (3*i)++[x,y,z]++(xs.take (3*i)++(List.replicate (m+1-i) [Value.int .i64 0,.int .i64 0,.pointer none]).flatten++(List.replicate (cc-(m+1)) [Value.int .i64 0,.int .i64 0,.pointer none]).flatten).drop (i*3+0 + [x,y,z].length)).length=3*cc:=by
    simp only[zO,jZ,g,A,zY,lA];omega
   by_cases r:cc=i+1
   ·exfalso;omega
   ·rw[zB r];simp only[zX,add_lit,zH];refine VP (o:=(i+1)*3) (i:=0) S (by rw[D,d];omega) λv4 o4 b4=>fin v4 o4 ?_;have q1:(i+1)*3+0=(xs.take (3*i)++[x,y,z]).length:=by rw[zO,g];simp;omega
    have q2:(i+1)*3+0+(xs.drop (3*i)).length=(xs.take (3*i)++[x,y,z]).length+3*(m-i):=by rw[d,q1]
    rw[q2,q1,xQ,List.drop_append]at b4
    ·rw[List.drop_of_length_le (show(xs.take (3*i)++[x,y,z]).length<=(xs.take (3*i)++[x,y,z]).length+3*(m-i) by omega),tg]at b4;have q3:i*3+0 + [x,y,z].length=3*i+3:=by simp;omega
     rw[q3]at b4;have q4:(xs.take (3*i)++[x,y,z]).length+3*(m-i)-(xs.take (3*i)++[x,y,z]).length=3*(m-i):=by omega
     rw[q4]at b4;exact b4
    ·rfl
  ·-- room: the rest moves
   have hle3:m+1<=s.cap:=by omega
   have C:¬s.cap=0:=by omega
   have r:¬s.cap=i:=by omega
   refine cP (m:=m+1) aD O (iM (lo:=0) O O O ?_)
   rw[zB C];simp only[ha,zX,add_lit,ux,j7,Nat.sub_zero];refine cP (m:=i+1) aD O (iM aD aD aD ?_)
   have B:cs.take (3*m)=xs:=by rw[←hlen,show 3*s.len=xs.length by omega];exact ht
   have V:∃o',(if s.cap=i+1 then(some ⟨b,0,none⟩:Option Addr)else(some ⟨b,0,none⟩:Option Addr).map (·.add ((i+1)*3)))=some ⟨b,o',none⟩:=by
    split
    ·exact⟨0,rfl⟩
    ·exact⟨_,by simp[add_lit];rfl⟩
   obtain⟨o',V⟩:=V;refine Pa (x:=⟨some ⟨vb,0,none⟩,1,1⟩) (a:=vb) (o:=0) (b:=b) rfl V hv E K (λe=>by rw[e]at G;simp at G;omega) (cE rfl ?_);refine cP (m:=i+1) aD O (iM aD aD aD (iM aD aD aD ?_))
   have N:¬s.cap=i+1:=by omega
   rw[zB N,zB r];simp only[zX,add_lit,zH];have d:(xs.drop (3*i)).length=3*(m-i):=by rw[jZ];omega
   refine⟨xs.drop (3*i),by simp only;rw[Nat.min_eq_right O,d];omega,?_,λv hv=>h1 v (tI hv),?_⟩
   ·intro j v p;rw[add_lit,E.cell];rw[kW]at p;have:=w _ _ p;rw[show i*3+j=3*i+j by omega];exact this
   refine VP (o:=(i+1)*3) (i:=0) E (by rw[d];omega) λv3 o3 S=>?_;refine iM aD aD aD ?_
   rw[zB r];simp only[zX,add_lit,zH];have hv3:=Ws o3 hv K;refine⟨[x,y,z],by simp only;rw[po O];rfl,?_,ho,?_⟩
   ·intro j u hu;rw[add_lit,zH,hv3.cell];exact hu
   have ab:(cs.take ((i+1)*3+0)++xs.drop (3*i)++cs.drop ((i+1)*3+0+(xs.drop (3*i)).length)).length=cs.length:=by
    simp only[zO,zZ,jZ,d];omega
   refine VP (o:=i*3) (i:=0) S (by rw[ab];simp;omega) λv4 o4 b4=>?_;have a1:(cs.take ((i+1)*3+0)).length=3*i+3:=by rw[zZ];omega
   have g:(xs.take (3*i)).length=3*i:=by rw[zZ];omega
   have p1:(cs.take ((i+1)*3+0)++xs.drop (3*i)++cs.drop ((i+1)*3+0+(xs.drop (3*i)).length)).take (i*3+0)=xs.take (3*i):=by
    rw[ka,oT O,yC,po O,←B,yC,po O]
    congr 1;omega
   have p2:(cs.take ((i+1)*3+0)++xs.drop (3*i)++cs.drop ((i+1)*3+0+(xs.drop (3*i)).length)).drop (i*3+0 + [x,y,z].length)=xs.drop (3*i)++cs.drop ((i+1)*3+0+(xs.drop (3*i)).length):=by
    rw[ka,List.drop_left'];rw[a1];simp;omega
   rw[p1,p2,←ka]at b4;refine hR _ v4 ((Ext.eL (F:=Q) o3 P).trans (Ext.eL o4 P)) ⟨?_,.inr ⟨b,_,.inl P,rfl,b4,aD,?_,?_⟩⟩
   ·simp only[zO,g,zY,lA,d];omega
   ·simp only[zO,g,jZ,zY,lA,d];omega
   ·rw[xQ];rfl
def Zg (ss:List cF)(st:Nat):Nat:=(ss.takeWhile (λs=>s.st<st)).length
theorem HP (l:List cF)(P:cF->Bool):l.takeWhile P=l.take (l.takeWhile P).length/\l.dropWhile P=l.drop (l.takeWhile P).length:=by
 induction l with
 | nil=>simp
 | cons x l ih=>
  simp only[List.takeWhile_cons,List.dropWhile_cons];cases P x
  ·simp
  ·simp only[zR,zY,ue,xL];exact⟨by rw[←ih.1],ih.2⟩
theorem vD (c:bZ)(ss:List cF)(st:Nat):ik c ss st=ss.take (Zg ss st)++⟨st,List.replicate c.n false⟩::ss.drop (Zg ss st):=by
 have:=HP ss (λs=>decide (s.st<st));unfold ik Zg;rw[this.2,←this.1]
theorem He (hs:ss.Pairwise (λa b=>a.st<b.st))(st:Nat):Zg ss st<=ss.length/\∀(i:Nat) s,ss[i]?=some s->(s.st<st↔i<Zg ss st):=by
 unfold Zg
 induction ss with
 | nil=>simp
 | cons x ss ih=>
  have e:=rH.1 hs;obtain⟨j,g⟩:=ih e.2;simp only[List.takeWhile_cons];by_cases hx:x.st<st
  ·simp only[hx,decide_true,zR,zY];refine⟨O,λi s d=>?_⟩;cases i with
   | zero=>simp at d;subst d;simp[hx]
   | succ i=>have:=g i s (by simpa using d);omega
  ·simp only[hx,decide_false,zd,zz,lA,Nat.zero_le,Nat.not_lt_zero,iff_false,si];intro i s d;cases i with
   | zero=>simp at d;subst d;exact hx
   | succ i=>
    have:=e.1 s (zG (i:=i) (by simpa using d));omega
theorem MX (h:fB U F p c ps ss){σ1:Hp}(e1:bK U σ1){sl:Sl}{rb:Nat}{cs:List Value}(hl:sl.len=ss.length)(hE:ss≠[]->rk U F p ps ss sl rb cs)(st:Nat)(hst:st<=1024){R:Int->Bool->Hp->Prop}(hR:∀σ' b,bK σ1 σ'->R (Zg ss st:Int) b σ') :
 Wb.c sl (st:Int) ⟨259,#[],#[]⟩ σ1 R:=by
 refine Wb.o ?_;unfold Wb.v;have S:=h.pD;obtain⟨L,kE⟩:=He h.pY st;have z:∀(k:Nat) (x:Nat×Nat) s (v:Hp) (K:aN),ps[k]?=some x->ss[k]?=some s->bK σ1 v->(∀D,bK v D->K ((s.st:Int)-(st:Int)) D) →
  VM Tryz.prog ⟨259,#[],#[]⟩ [.agg #[.int .i64 (s.many:Int),.int .i64 (s.st:Int),.pointer (some ⟨x.1,0,none⟩)],.int .i64 (st:Int)] [.one bN] v K:=by
  intro k x s v K y g ev hK;refine py (all := #[.agg #[.int .i64 (s.many:Int),.int .i64 (s.st:Int),.pointer (some ⟨x.1,0,none⟩)],.int .i64 (st:Int)]) (by kernel_rfl) aA ?_;refine Yw.o ?_;unfold Yw.v;have hf:=(h.sp k x s y g).fit;refine nw (cs:=[.int .i64 (s.many:Int),.int .i64 (s.st:Int),.pointer (some ⟨x.1,0,none⟩)]) λW hz e H=>H.eZ rfl (ar O O (hK W e))
 refine Uw (a:=bN) (bb:=bN) (λ(i j:Int) v=>∃a b:Nat,i=(a:Int)/\j=(b:Int)/\a<=Zg ss st/\Zg ss st<=b/\b<=ss.length/\bK σ1 v) (λi j _=>j.toNat-i.toNat) ⟨0,ss.length,rfl,by rw[hl],O,L,O,Ext.refl _ _⟩ ?_;rintro i j v ⟨a,b,rfl,rfl,Z,H,C,ev⟩;have A:bK U v:=e1.trans ev;refine cQ (λhlt=>?_) λY=>?_
 ·have w:ss≠[]:=by rintro rfl;simp at C;omega
  have E:=hE w;refine cP (m:=a+b) O O ?_;have X:IntKind.u64.wrap ((a+b:Nat):Int)=((a+b:Nat):Int):=by
   unfold IntKind.wrap;simp[IntKind.bits,IntKind.signed];omega
  refine yD ?_;rw[X];refine nn O ?_;have J:min (1:Int).toNat IntKind.u64.bits=1:=by decide
  rw[J,FU];have B:(((a+b:Nat):Int)/2^1)=(((a+b)/2:Nat):Int):=by omega
  refine cP (m:=(a+b)/2) B O ?_;have d:(a+b)/2<ss.length:=by omega
  obtain⟨x,s,y,g,hS⟩:=h.jA d;have u:=QH y g;rw[E.a];refine ix O O ?_;rw[add_lit,show 0+(((a+b)/2:Nat):Int).toNat*3=3*((a+b)/2) by omega];refine wJ (e:=0) (A.bT E.bT id) (E.get u.1) (E.get u.2.1) (E.get u.2.2) (z _ x s v _ y g ev λD G=>?_);have r:=kE _ s g;show If (decide (((s.st:Int)-(st:Int))<0)) _ _;refine cQ (λP=>?_) λV=>?_
  ·exact cP (m:=(a+b)/2+1) O O ⟨⟨_,b,rfl,rfl,by have:=r.1 O;omega,H,C,ev.trans G⟩,O⟩
  ·exact⟨⟨a,_,rfl,rfl,Z,by
    apply Classical.byContradiction;intro hc;have:=r.2 O;omega,O,ev.trans G⟩,O⟩
 ·have M:a=Zg ss st:=by omega
  subst M;refine bV.intro (cQ (λQ=>?_) λN=>hR v _ ev);have d:Zg ss st<ss.length:=by omega
  have w:ss≠[]:=by rintro rfl;simp at d
  have E:=hE w;obtain⟨x,s,y,g,hS⟩:=h.jA d;have u:=QH y g;rw[E.a];refine ix O O ?_;rw[add_lit,show 0+(Zg ss st:Int).toNat*3=3*Zg ss st by omega];refine wJ (e:=0) (A.bT E.bT id) (E.get u.1) (E.get u.2.1) (E.get u.2.2) (z _ x s v _ y g ev λD G=>hR D _ (ev.trans G))
theorem SF (h:fB U F p c ps ss){st:Nat}(hf:st+c.aF<=1024){R:aN}(h9:H4 c ss st=9->∀σ',bK U σ'->R 9 σ')
 (h0:H4 c ss st=0->∀σ' ps',Ext F U σ'->fB σ' (Grow F U) p c ps' (ik c ss st)->R 0 σ'):YN.c (aW p) (st:Int) U R:=by
 refine YN.o ?_;unfold YN.v;have h:=fB.loc.cut h;obtain⟨sl,d,hl,ab,rb,cs,hE⟩:=h.m4;have hfew:=h.pD;have hc:=h.ok;have hck:=hc;unfold bZ.ok at hck;refine VL h (cB rfl (aG (d.eZ rfl (d.eZ rfl (d.eZ rfl ?_)))));refine Pr hc hf λv1 C L e1 hpn hqn X=>cB rfl (aG ((e1.bT d id).rS rfl ?_));have hplt:=d.lt;refine ZX (a:=bN) (λ(t:Int) v=>∃i:Nat,t=(i:Int)/\i<=ss.length/\bK v1 v/\∀(j:Nat) s,j<i->ss[j]?=some s->¬max s.st st-min s.st st<c.aF) (λt _=>ss.length-t.toNat) ⟨0,rfl,O,Ext.refl _ _,λj s y=>O⟩ ?_;rintro t v ⟨i,rfl,Z,ev,Q⟩;have r:=e1.trans ev;refine cQ (λag=>?_) λhge=>?_
 ·simp only at ag;have ad:i<ss.length:=by omega
  obtain⟨E,hcap,hcl⟩:=hE (by rintro rfl;simp at ad);obtain⟨x,s,z,g,hS⟩:=h.jA ad;have eg:=QH z g;have hsf:=hS.fit;rw[E.a];refine ix O O ?_;rw[add_lit,show 0+(i:Int).toNat*3=3*i by omega];refine wJ (e:=0) (r.bT E.bT id) (E.get eg.1) (E.get eg.2.1) (E.get eg.2.2) (Em λv6 e6 b6=>b6.eZ rfl (b6.eZ rfl ?_));have hd:(if(st:Int)>(s.st:Int)then(st:Int)else(s.st:Int))-(if(st:Int)<(s.st:Int)then(st:Int)else(s.st:Int))=((max s.st st-min s.st st:Nat):Int):=by
   split<;>split<;>omega
  refine cP (m:=max s.st st-min s.st st) hd O (aG (((r.trans e6).bT d id).eZ rfl ?_));refine cQ (λhlt2=>h9 ?_ _ (r.trans e6)) λhge2=>?_
  ·unfold H4;rw[zC];exact kC.2 ⟨s,zG g,by simpa using(by omega:max s.st st-min s.st st<c.aF)⟩
  ·refine cP (m:=i+1) O O ⟨⟨i+1,rfl,O,ev.trans e6,λj s' y P=>?_⟩,O⟩;by_cases e:j=i
   ·subst e;rw[g]at P;cases P;omega
   ·exact Q j s' O P
 ·have hii:i=ss.length:=by simp only at hge;omega
  subst hii;have hE0:H4 c ss st=0:=by
   unfold H4;rw[zB];simp only[pS,mF,zU];intro s g;obtain⟨j,y⟩:=zQ g;exact Q j s (cV.1 y).1 y
  refine aG ((r.bT d id).rS rfl ?_);refine MX h r hl (λS=>(hE S).1) st O λv7 bb e7=>aG (((r.trans e7).bT d id).rS rfl ?_);have ai:=r.trans e7;obtain⟨hp1,kE⟩:=He h.pY st;refine nw (cs:=[.int .i64 0,.int .i64 st,.pointer (some ⟨C,0,none⟩)]) λv8 hz8 e8 hb8=>?_;have H:=ai.trans e8;have Y:=aI.bO ab H;have hsz7:=ai.1;refine Nv Y hl O hp1 hb8 (λw=>by have:=w.1.2;omega) Fm ⟨rfl,rfl,rfl⟩ λs' v9 e9 hr9=>aG ?_;have hb9:=e9.bT (H.bT d id) λw=>w.2.1 rfl;refine hb9.s1 aA λW gT ac=>?_;have J:=h.len;have D:=h.nd;simp only[zr]at D;have ag:=X.lt;have hsz1:=(ev.trans e7).trans e8 |>.1;have A:∀b∈dW ps,b<U.size:=λb d=>(h.fb b d).2;have aa:∀{a b s'},ia v8 a b c s'->¬(Cut F U a/\a≠p/\a∉dW ps)->¬(Cut F U b/\b≠p/\b∉dW ps)->a≠p->b≠p->ia W a b c s':=λhS n1 n2 m1 m2=>(hS.bS e9 n1 n2).bS gT.ext m1 m2;have af:=((X.bO ev).bO e7).bO e8;have ae:dQ (ps.take (Zg ss st)++(C,L)::ps.drop (Zg ss st)) (ss.take (Zg ss st)++⟨st,List.replicate c.n false⟩::ss.drop (Zg ss st)) =
   (dQ ps ss).take (3*Zg ss st)++[.int .i64 0,.int .i64 st,.pointer (some ⟨C,0,none⟩)]++(dQ ps ss).drop (3*Zg ss st):=by
   rw[KU (by simp[J])];have u:dQ ps ss=dQ (ps.take (Zg ss st)) (ss.take (Zg ss st))++dQ (ps.drop (Zg ss st)) (ss.drop (Zg ss st)):=by
    rw[←KU (by simp[J]),nG,nG]
   have h2:(dQ (ps.take (Zg ss st)) (ss.take (Zg ss st))).length=3*Zg ss st:=by rw[QR (by simp[J]),zZ];omega
   rw[u,xQ h2,List.drop_left' h2,ka];have:cF.many ⟨st,List.replicate c.n false⟩=0:=by simp[cF.many,xS]
   simp[dQ,this]
  refine h0 hE0 W (ps.take (Zg ss st)++(C,L)::ps.drop (Zg ss st)) ?_ ?_
  ·refine(((bK.to H).trans (e9.sub λb d=>d.1.1))).trans (gT.ext.sub λb d=>d▸h.fp.1)
  ·have B:(dW (ps.take (Zg ss st)++(C,L)::ps.drop (Zg ss st))).Perm (C::L::dW ps):=by
    have:dW ps=dW (ps.take (Zg ss st))++dW (ps.drop (Zg ss st)):=by
     conv=>lhs;rw[←nG (Zg ss st) ps]
     simp only[dW,List.flatMap_append]
    rw[this];have h3:dW (ps.take (Zg ss st)++(C,L)::ps.drop (Zg ss st))=dW (ps.take (Zg ss st))++C::L::dW (ps.drop (Zg ss st)):=by simp[dW]
    rw[h3];exact List.perm_middle.trans ((List.perm_middle).cons C)
   have V:∀b,b∈dW (ps.take (Zg ss st)++(C,L)::ps.drop (Zg ss st))↔b=C\/b=L\/b∈dW ps:=by
    intro b;rw[B.mem_iff];simp
   refine⟨⟨s',ac,?_⟩,λi x s z g=>?_,.inl h.fp.1,λb d=>?_,?_,?_,hc,?_⟩
   ·rw[vD,ae];refine aI.bS (aI.mono hr9 λb _ d=>?_) gT.ext λb _ d he=>d.2.1 he;rw[V];rcases d with d|d
    ·exact⟨.inl d.1.1,d.2.1,λw=>by
      rcases w with h|h|h
      ·have:=d.1.2;omega
      ·have:=d.1.2;omega
      ·exact d.2.2 h⟩
    ·exact⟨.inr O,O,λw=>by
      rcases w with h|h|h
      ·omega
      ·omega
      ·have:=A b h;omega⟩
   ·rw[vD]at g;have K:(ps.take (Zg ss st)).length=Zg ss st:=by rw[zZ];omega
    have M:(ss.take (Zg ss st)).length=Zg ss st:=by rw[zZ];omega
    have ah:∀j:Nat,ps[j]?=some x->ss[j]?=some s->ia W x.1 x.2 c s:=λj u h2=>by
     have G:=Qg u;exact aa ((h.sp j x s u h2).bO H) (λw=>w.2.2 G.1) (λw=>w.2.2 G.2) (λe=>D.1 (e▸G.1)) (λe=>D.1 (e▸G.2))
    rcases pE i (Zg ss st)with hlt'|heq|hgt
    ·rw[ze O,zj,zC hlt']at z g;exact ah i z g
    ·rw[zp O]at z g;rw[K,heq,qi]at z;rw[M,heq,qi]at g;simp at z g;subst z;subst g;exact aa af (λw=>by have:=w.1.2;simp only at this;omega) (λw=>by have:=w.1.2;simp only at this;omega) aC aC
    ·rw[zp O]at z g;rw[K]at z;rw[M]at g;obtain⟨k,hk⟩:∃k,i-Zg ss st=k+1:=⟨i-Zg ss st-1,O⟩;rw[hk,Bi,kW]at z g;exact ah _ z g
   ·rcases(V b).1 d with u|u|u
    ·subst u;exact .inr hpn
    ·subst u;exact .inr hqn
    ·exact .inl (h.fb b u).1
   ·simp only[zr];refine⟨λG=>?_,?_⟩
    ·rcases(V p).1 G with u|u|u
     ·omega
     ·omega
     ·exact D.1 u
    ·rw[B.nodup_iff];simp only[zr,zW,not_or];have S:=X.ne;exact⟨⟨S,λG=>by have:=A _ G;omega⟩,λG=>by have:=A _ G;omega,D.2⟩
   ·rw[vD];simp[J]
   ·rw[vD];rw[pK];have N:=h.pY;refine⟨N.sublist (Bs _ _),rH.2 ⟨λs g=>?_,N.sublist (List.drop_sublist _ _)⟩,λa ha b d=>?_⟩
    ·obtain⟨j,y⟩:=zQ g;rw[kW]at y;have u:=kE _ s y;have h2:s.st≠st:=λe=>by
      have:=Q (Zg ss st+j) s (cV.1 y).1 y;rw[e]at this;simp at this;omega
     show st<s.st;omega
    ·obtain⟨i,Z⟩:=zQ ha;rw[zj]at Z;split at Z
     ·rename_i hlt';have hat:=(kE i a Z).2 hlt';rcases zW.1 d with rfl|d
      ·exact hat
      ·obtain⟨j,y⟩:=zQ d;rw[kW]at y;obtain⟨hi1,hi2⟩:=cV.1 Z;obtain⟨hj1,hj2⟩:=cV.1 y;have:=l0.1 N i (Zg ss st+j) hi1 hj1 O;rw[hi2,hj2]at this;exact this
     ·cases Z
end Go.Ar
namespace Go.Proofs
open Go.Vc
set_option maxRecDepth 100000
def Xb.h:Hn:=.q .o1 (.q (.cR (.seq [.op,.op,.op,.cX true 5 (RI.ops 5),.op])) .l)
def Xb.v (a:R2)(b:Hp)(c:aO):Prop:=bV (λd e=>c d e) λf=>If (!a.isNone) (bD a 0 b λh=>f (decide (h>0)) b) (f false b)
theorem Xb.o {a b c}(d:Xb.v a b c):Xb.c a b c:=Wa Tryz.func180 (x:=Xb.h) (R0 d)
def ZL.h:Hn:=.q .o2 (.q (.q (.cR (.seq [.op,.op,.op,.cX false 2 [.op,.op],.op,.cX false 2 [.op,.op],.op,.cX false 2 [.op,.op]])) .aJ) (.q .o6 .l))
def ZL.v (a b:Int)(c:Hp)(d:Option Addr->Int->Hp->Prop):Prop:=bV (λe f=>bV (λg h=>bV (λi j=>If i (d none 1 j) (aV #[.I a,.I b,.I 0,.slice none 0 0] 266 j λk l=>d (some k) 0 l)) λm=>If g (m true h) (m (decide (b>8)) h)) λn=>If e (n true f) (n (decide (b<0)) f)) λo=>If (a<1) (o true c) (o (decide (a>32)) c)
theorem ZL.o {a b c d}(e:ZL.v a b c d):ZL.c a b c d:=Wa Tryz.func200 (x:=ZL.h) (R0 e)
def Wz.h:Hn:=.q .o2 (.q (.k (.q .o4 (.c .aL (.q .o7 .aJ)))) (.q .o7 (.q .o8 (.q .gT (.q .gT (.q .o3 .l))))))
def Wz.v (a:R2)(b:Hp)(c:Sl->Int->Hp->Prop):Prop:=Xb.c a b λd e=>If (!d) (c ⟨none,0,0⟩ 5 e) (bE a 3 e λg=>If (((g.len:Nat):Int)==0) (c ⟨none,0,0⟩ 4 e) (bE a 3 e λi=>bL (((i.len:Nat):Int)-1) λj=>bE a 3 e λl=>Ix l.a l.len j 1 λm=>jj m e λn=>bE a 3 e λp=>eY p 1 0 j (p.cap:Nat) λq=>bU a λr=>aR r 3 (.slice q.a q.len q.cap) e λs=>bD a 2 s λu=>bU a λv=>aR v 2 (.I (if j<u then j else u)) s λw=>c n 0 w))
theorem Wz.o {a b c}(d:Wz.v a b c):Wz.c a b c:=Wa Tryz.func207 (x:=Wz.h) (R0 d)
def WY.h:Hn:=.q .o2 (.q (.k (.q .o4 (.c .aL (.q .o8 (.c .aL (.q (.oq 11) .aJ)))))) (.q (.cR (.held true [8,11] (.tk [0,1,2,3,4,5] (.all [(6,.all [(7,.all [(8,.take 9 (.take 10 (.all [(11,.done)])))])])])))) .aL))
def WY.v (a:R2)(b:Sl)(c:Hp)(d:Bool->Int->Hp->Prop):Prop:=Xb.c a c λe f=>If (!e) (d false 5 f) (bD a 0 f λh=>If (((b.len:Nat):Int) != h) (d false 1 f) (bE a 3 f λj=>bD a 1 f λl=>If (((j.len:Nat):Int)≥l) (d false 0 f) (eI f λm=>bU a λn=>aT m n 3 λo=>WC.c b f λp q=>And (m q) <| aV #[.slice p.a p.len p.cap] 34 q λr s=>And (m s) <| App o 1 24 34 [.slice none 0 0] ⟨some r,1,1⟩ s λt u=>bU a λv=>aR v 3 (.slice t.a t.len t.cap) u λw=>d true 0 w)))
theorem WY.o {a b c d}(e:WY.v a b c d):WY.c a b c d:=Wa Tryz.func266 (x:=WY.h) (R0 e)
end Go.Proofs
namespace Go.Ar
open Go Go.Vc Go.Proofs
variable {U:Hp}{F:Rg}{p batch room:Nat}{t:gD}
def pG (s:Sl):Value:=.slice s.a s.len s.cap
def Wo (xs:List Int):List Value:=xs.map (Value.int .i64)
theorem Vt {l:List Int}:∀v∈Wo l,dP v=true:=by
 intro v hv;simp only[Wo,zE]at hv;obtain⟨x,_,rfl⟩:=hv;rfl
def qj (sls:List Sl)(bs:List (List Int))(U:Hp)(D:Rg):Prop:=sls.length=bs.length/\∀(i:Nat) s xs,sls[i]?=some s->bs[i]?=some xs->cW s 1 (Wo xs) U D/\s.len<=s.cap
theorem qj.loc (sls:List Sl)(bs:List (List Int)):dM (qj sls bs):=λU j F G h e g=>⟨h.1,λi s b a d=>⟨cW.loc _ _ _ _ _ _ _ (h.2 i s b a d).1 e g,(h.2 i s b a d).2⟩⟩
def Dj (sls:List Sl):Prop:=sls.Pairwise λs t=>∀a a',s.a=some a->t.a=some a'->a.block≠a'.block
def kD (s:Sl)(b:Nat):Prop:=∃a,s.a=some a/\a.block=b
theorem _root_.Go.Vc.cW.lx {s:Sl}{sz:Nat}{xs:List Value}{D:Rg}(h:cW s sz xs U D):cW s sz xs U λb=>D b/\kD s b:=
 ⟨h.1,h.2.imp id λ⟨b,o,d,e,a,r⟩=>⟨b,o,d,⟨e,_,a,rfl⟩,a,r⟩⟩
theorem _root_.Go.Vc.cW.bT {s:Sl}{sz:Nat}{xs:List Value}{D:Rg}(h:cW s sz xs U D)(hx:xs≠[]){b:Nat}(hb:kD s b):D b/\b<U.size:=by
 rcases h.2 with h0|⟨b',o,cs,hq,ha,hc,_⟩
 ·exact absurd h0 hx
 ·obtain⟨a,d,rfl⟩:=hb;rw[ha]at d;cases d;exact⟨hq,hc.lt⟩
theorem Dj.snoc {sls:List Sl}{bs:List (List Int)}{D:Rg}{z:Nat}{s':Sl}{xs:List Value}{v:Hp}(h:Dj sls)(hB:qj sls bs U D)(hne:∀xs∈bs,xs≠[])(hz:∀b,D b->b<z)(hs:bR s' 1 xs v λb=>z<=b)(hx:xs≠[]):Dj (sls++[s']):=by
 refine pK.2 ⟨h,List.pairwise_singleton _ _,λs g u m a p r x=>?_⟩;rw[zN]at m;subst m;obtain⟨i,j⟩:=zQ g;have e:=(cV.1 j).1;have d:bs[i]?=some (bs[i]'(by rw[←hB.1];exact e)):=cU _;have w:=((hB.2 i s _ j d).1.bT (by simp only[Wo,ne_eq,yE];exact hne _ (zG d)) ⟨a,r,rfl⟩).1;have y:=(hs.gF.bT hx ⟨p,x,rfl⟩).1;have:=hz _ w;omega
structure jo (U:Hp) (F:Rg) (p batch room:Nat) (t:gD):Prop where
 mem:∃(sl:Sl) (sls:List Sl) (D:Rg),bY U p [.int .i64 (batch:Int),.int .i64 (room:Int),.int .i64 (t.low:Int),.slice sl.a sl.len sl.cap]/\bR sl 1 (sls.map pG) U (λb=>F b/\b≠p/\¬D b)/\qj sls t.bs U D/\(∀b,D b->F b/\b≠p)/\Dj sls
 fp:F p
 b1:1<=batch/\batch<=32
 r1:room<=8
 pD:t.bs.length<=room
 low:t.low<=t.bs.length
 all:∀xs∈t.bs,xs.length=batch
theorem jo.loc:dM λU F=>jo U F p batch room t:=λU x F G h r d=>by
 obtain⟨sl,i,D,a,w,s,j,u⟩:=h.mem;refine⟨⟨sl,i,λb=>D b/\b<U.size,?_,?_,?_,λb a=>⟨(d b a.2 (j b a.1).1).1,(j b a.1).2⟩,u⟩,(d p a.lt h.fp).1,h.b1,h.r1,h.pD,h.low,h.all⟩
 ·obtain⟨e,m⟩:=a;exact⟨e,(d p (bY.lt ⟨e,m⟩) h.fp).2.trans m⟩
 ·exact bR.loc _ _ _ _ _ _ _ w r λb a g=>⟨⟨(d b a g.1).1,g.2.1,λhd=>g.2.2 hd.1⟩,(d b a g.1).2⟩
 ·exact qj.loc _ _ _ _ _ _ s r λb a hd=>⟨⟨hd,a⟩,(d b a (j b hd).1).2⟩
theorem Ap (h:jo U F p batch room t){R:aO}(hR:R true U):Xb.c (aW p) U R:=by
 refine Xb.o ?_;unfold Xb.v;obtain⟨sl,b,D,a,_⟩:=h.mem;have:=h.b1;refine bV.intro (cE rfl (aG (a.rI rfl ?_)));rw[zJ O];exact hR
theorem _root_.Go.Vc.cW.LZ {s:Sl}{F:Rg}{sls:List Sl}(h:cW s 1 (sls.map pG) U F){i:Nat}{x:Sl}(hx:sls[i]?=some x){K:Sl->Prop}(hK:K x):Ix s.a s.len (i:Int) 1 λa=>jj a U K:=by
 have m:=(cV.1 hx).1;obtain⟨b,o,g,d⟩:=h.cell (j:=i) (v:=pG x) (by simp[hx]);have e:=h.1;rw[zl]at e;rw[g];refine ix O O ?_;rw[add_lit];exact nF (by simpa[pG]using d) hK
theorem MH (h1:1<=batch)(h2:batch<=32)(h3:room<=8){R:Option Addr->Int->Hp->Prop}(hR:∀σ' p,bK U σ'->U.size<=p->p<σ'.size->jo σ' (· = p) p batch room ⟨0,[]⟩->R (some ⟨p,0,none⟩) 0 σ'):ZL.c batch room U R:=by
 refine ZL.o ?_;unfold ZL.v;refine bV.intro (fR O (bV.intro (fR O (bV.intro (fR O (fR O ?_))))));refine nw (cs:=[.int .i64 batch,.int .i64 room,.int .i64 0,.slice none 0 0]) λv d e a=>?_;exact hR v _ e (zD _) O ⟨⟨⟨none,0,0⟩,[],λ_=>False,a,bR.nil _ _ _ _,⟨rfl,λi s g h=>by simp at h⟩,λb h=>h.elim,List.Pairwise.nil⟩,rfl,⟨h1,h2⟩,h3,by simp,by simp,by simp⟩
theorem J8 (h:jo U F p batch room t){sl:Sl}{xs:List Int}{X:Rg}(hs:cW sl 1 (Wo xs) U X)(hl:xs.length<=1000000){R:Bool->Int->Hp->Prop}(h1:xs.length≠batch->R false 1 U)(h2:xs.length=batch->room<=t.bs.length->R false 0 U)
 (h3:xs.length=batch->t.bs.length<room->∀σ',Ext F U σ'->jo σ' (Grow F U) p batch room {t with bs:=t.bs++[xs]}->R true 0 σ'):WY.c (aW p) sl U R:=by
 refine WY.o ?_;unfold WY.v;have h:=jo.loc.cut h;obtain⟨C,x,D,d,hr,z,K,hJ⟩:=h.mem;have r:sl.len=xs.length:=by have:=hs.1;simp[Wo]at this;omega
 have hso:C.len=t.bs.length:=by have:=hr.1;rw[zl,z.1]at this;omega
 have hr8:=h.r1;have hb1:=h.b1;refine Ap h (cB rfl (aG (d.rI rfl ?_)));rw[om];refine cO (λA=>h1 (by rw[←r];simpa using A)) λQ=>?_;have g:xs.length=batch:=by rw[←r];simpa using Q
 refine aG (d.rS rfl (aG (d.rI rfl (cQ (λN=>h2 g (by simp only at N;omega)) λW=>?_))));simp only at W;refine⟨λh'=>bY h' p [.int .i64 (batch:Int),.int .i64 (room:Int),.int .i64 (t.low:Int),.slice C.a C.len C.cap],d,aG ⟨C,λh' V=>by rw[add_lit,V.cell];rfl,?_⟩⟩;refine UR hs Vt O λB v1 hl1 e1 y=>⟨e1.bT d id,?_⟩;refine nw (cs:=[.slice B.a B.len B.cap]) λv2 hz2 e2 S=>⟨(e1.trans e2).bT d id,?_⟩;have Z:=aI.bO (aI.bO hr e1) e2;refine Z.app (ys:=[pG B]) rfl rfl ?_ (by simp[dP,pG]) ?_ ?_ mN λs2 v3 hl3 e3 L=>aG ?_
 ·intro j u hu;rw[add_lit,zH,S.cell];exact hu
 ·simp only;have:(C.len+1)*24<=9*24:=lW O O;omega
 ·simp only;omega
 ·have Y:=e3.bT ((e1.trans e2).bT d id) λJ=>J.2.1 rfl;have hplt:=d.lt;have hs1:=e1.1;refine Y.s1 aA λv4 o4 P=>h3 g O v4 ?_ ?_
  ·exact((bK.to (e1.trans e2)).trans (e3.sub λb d=>d.1.1)).trans (o4.ext.sub λb d=>d▸h.fp.1)
  ·refine⟨⟨s2,x++[B],λb=>D b/\b<U.size\/U.size<=b/\b<v1.size,P,?_,⟨by simp[z.1],λi s ys w m=>?_⟩,λb d=>?_,?_⟩,.inl h.fp.1,h.b1,h.r1,by simp;omega,by have:=h.low;simp;omega,λys m=>?_⟩
   ·rw[j9];refine aI.bS (aI.mono L λb _ d=>?_) o4.ext λb _ d M=>d.2.1 M;rcases d with d|d
    ·exact⟨.inl d.1.1,d.2.1,λhd=>by
      rcases hd with hd|hd
      ·exact d.2.2 hd.1
      ·have:=d.1.2;omega⟩
    ·exact⟨.inr O,O,λhd=>by rcases hd with hd|hd<;>omega⟩
   ·have mv:∀{s:Sl} {ys:List Int} {G:Rg},cW s 1 (Wo ys) v2 G->(∀b,G b->b≠p/\¬(Cut F U b/\b≠p/\¬D b))->cW s 1 (Wo ys) v4 G:=λV hn=>
     aH.bS (aH.bS V e3 λb _ d=>(hn b d).2) o4.ext λb _ d M=>(hn b d).1 M
    rcases kc i x.length with hi'|hi'
    ·rw[ze hi']at w;rw[ze (by rw[←z.1];exact hi')]at m;obtain⟨k1,k2⟩:=z.2 i s ys w m;refine⟨aH.mono (mv (aH.bO (aH.bO (aH.mono k1 (G:=λb=>D b/\b<U.size) λb d hd=>⟨hd,d⟩) e1) e2) λb hd=>⟨(K b hd.1).2,λJ=>J.2.2 hd.1⟩) λb _ hd=>.inl hd,k2⟩
    ·rw[zp hi']at w;rw[zp (by rw[←z.1];exact hi')]at m;have E:i-x.length=0:=by
      have:=(cV.1 w).1;simp at this;omega
     rw[E]at w;rw[show i-t.bs.length=0 by rw[←z.1];exact E]at m;simp at w m;subst w;subst m;have H:B.len<=B.cap:=by
      rcases y.2 with⟨q1,q2⟩|⟨_,_,_,_,_,q,_⟩
      ·omega
      ·exact q
     refine⟨aH.mono (mv (aH.bO (aH.mono y.gF (G:=λb=>U.size<=b/\b<v1.size) λb d hd=>⟨hd,d⟩) e2) λb hd=>⟨O,λJ=>by have:=J.1.2;omega⟩) λb _ hd=>.inr hd,H⟩
   ·rcases d with hd|hd
    ·exact⟨.inl (K b hd.1).1.1,(K b hd.1).2⟩
    ·exact⟨.inr hd.1,O⟩
   ·have A:∀ys∈t.bs,ys≠[]:=λys m e=>by have:=jo.all ‹_› ys m;rw[e]at this;simp at this;omega
    exact hJ.snoc z A (λb hd=>(K b hd).1.2) y (by simp only[Wo,ne_eq,yE];intro e;rw[e]at g;simp at g;omega)
   ·rcases zL.1 m with h|h
    ·exact jo.all ‹_› ys h
    ·simp at h;subst h;exact g
theorem Nj (h:jo U F p batch room t)(h0:t.bs=[]){R:Sl->Int->Hp->Prop}(hR:R ⟨none,0,0⟩ 4 U):Wz.c (aW p) U R:=by
 refine Wz.o ?_;unfold Wz.v;obtain⟨i,e,D,b,d,g,m,j⟩:=h.mem;have a:i.len=t.bs.length:=by have:=d.1;rw[zl,g.1]at this;omega
 refine Ap h (cB rfl (aG (b.rS rfl (cE ?_ hR))));simp[a,h0]
theorem NT (h:jo U F p batch room t)(h0:t.bs≠[]){R:Sl->Int->Hp->Prop}(hR:∀out σ',Ext F U σ'->(∀b,kD out b->F b)->cW out 1 (Wo (t.bs.getLast?.getD [])) σ' (kD out)->out.len<=out.cap->jo σ' (λb=>F b/\¬kD out b) p batch room t.rem->R out 0 σ'):Wz.c (aW p) U R:=by
 refine Wz.o ?_;unfold Wz.v;obtain⟨V,g,D,d,J,A,B,Z⟩:=h.mem;have hso:V.len=t.bs.length:=by have:=J.1;rw[zl,A.1]at this;omega
 have aa:=pC.2 h0;have hr8:=h.r1;have hfw:=h.pD;have X:=h.low;have S:t.bs.length-1<g.length:=by rw[A.1];omega
 obtain⟨o,Q⟩:∃o,g[t.bs.length-1]?=some o:=⟨_,cU S⟩;have j:t.bs[t.bs.length-1]?=some (t.bs.getLast?.getD []):=by
  rw[List.getLast?_eq_getElem?,cU O];rfl
 obtain⟨k1,k2⟩:=A.2 _ o _ Q j;refine Ap h (cB rfl (aG (d.rS rfl (cB ?_ ?_))))
 ·simp only[ma];omega
 refine aG (d.rS rfl (cP (m:=t.bs.length-1) aC O (aG (d.rS rfl ?_))));refine J.gF.LZ Q (aG (d.rS rfl ?_));have Y:V.len<=V.cap:=by
  rcases J.2 with⟨q1,q2⟩|⟨_,_,_,_,_,q,_⟩
  ·omega
  ·exact q
 refine iM (lo:=0) O aD aD (aG (d.s1 aA λv1 o1 G=>aG (G.rI rfl (aG ?_))))
 refine G.s1 aA λv2 o2 r=>?_;have u:Ext (· = p) U v2:=o1.ext.trans o2.ext;have E:(if((t.bs.length-1:Nat):Int)<(t.low:Int)then((t.bs.length-1:Nat):Int)else(t.low:Int))=((min t.low (t.bs.length-1):Nat):Int):=by split<;>omega
 rw[E]at r;have N:∀z∈t.bs,z≠[]:=λz w e=>by have W:=h.all z w;have h2:=h.b1;rw[e]at W;simp at W;omega
 have x:∀b,kD o b->D b:=λb d=>(k1.bT (by simp only[Wo,ne_eq,yE];exact N _ (zG j)) d).1;refine hR o v2 (u.sub λb d=>d▸h.fp) (λb d=>(B b (x b d)).1) (aH.mono (aH.bS k1 u λb _ d C=>(B b d).2 C).lx λb _ hd=>hd.2) k2 ⟨⟨_,g.dropLast,λb=>D b/\¬kD o b,r,?_,⟨by simp[A.1,gD.rem],λi s z H w=>?_⟩,λb hd=>⟨⟨(B b hd.1).1,hd.2⟩,(B b hd.1).2⟩,List.Pairwise.sublist (List.dropLast_sublist _) Z⟩,⟨h.fp,λd=>(B p (x p d)).2 rfl⟩,h.b1,h.r1,by simp[gD.rem];omega,by simp[gD.rem];omega,λz w=>h.all z (List.dropLast_subset _ w)⟩
 ·refine aI.bS ?_ u λb _ d C=>d.2.1 C;refine⟨by simp[A.1],?_⟩;rcases J.2 with⟨q1,q2⟩|⟨b,cs,hq,L,hbb,hle,hcl,ht⟩
  ·omega
  ·refine .inr ⟨b,cs,⟨⟨hq.1,λd=>hq.2.2 (x b d)⟩,hq.2.1,λhd=>hq.2.2 hd.1⟩,?_,hbb,by simp only;omega,by simp only;omega,?_⟩
   ·simp only[L];split<;>simp[add_lit]
   ·simp only[zl]at ht ⊢;have hd:g.dropLast.map pG=(g.map pG).take (g.length-1):=by rw[xK,List.map_take]
    rw[hd,←ht,yC,yN]
    congr 1;omega
 ·have y:i<t.bs.length-1:=by
   have:=(cV.1 w).1;simpa[gD.rem]using this
  rw[xK,zj]at H;simp only[gD.rem,xK,zj]at w;rw[zC (by rw[A.1];exact y)]at H;rw[zC y]at w;obtain⟨m1,m2⟩:=A.2 i s z H w;refine⟨aH.mono (aH.bS m1 u λb _ d C=>(B b d).2 C).lx λb _ d=>⟨d.1,λr=>?_⟩,m2⟩;obtain⟨a,L,e1⟩:=d.2;obtain⟨a',K,e2⟩:=r;obtain⟨M,rfl⟩:=cV.1 H;obtain⟨P,rfl⟩:=cV.1 Q;exact l0.1 Z i _ M P y a a' L K (e1.trans e2.symm)
def vZ (out:Sl)(bs:List (List Int))(U:Hp)(G:Rg):Prop:=∃sls:List Sl,cW out 1 (sls.map pG) U G/\qj sls bs U G
theorem vZ.loc (out:Sl)(bs:List (List Int)):dM (vZ out bs):=λU i F G ⟨a,e,g⟩ b d=>⟨a,cW.loc _ _ _ _ _ _ _ e b d,qj.loc _ _ _ _ _ _ g b d⟩
end Go.Ar
namespace Go.Ar
open Go Go.Vc Go.Proofs
open Go.Bu (Zc)
variable {U:Hp}{F:Rg}{p:Nat}{ow:Nat->Nat}
def uB (ow:Nat->Nat)(x:Nat)(l:List (Nat×Nat×Nat)):Prop:=
 l.length<=x/\(∀r∈l,1<=r.2.1/\r.1+r.2.1<=x/\∀y,r.1<=y->y<r.1+r.2.1->ow y=r.2.2)/\∀y,y<x->ow y≠0->∃r∈l,r.1<=y/\y<r.1+r.2.1
theorem uB.new {x:Nat}{l:List (Nat×Nat×Nat)}(h:uB ow x l):uB ow (x+1) (l++[(x,1,ow x)]):=by
 refine⟨by simp;exact h.1,λr b=>?_,λy g e=>?_⟩
 ·rcases zL.1 b with a|a
  ·exact⟨(h.2.1 r a).1,by have:=(h.2.1 r a).2.1;omega,(h.2.1 r a).2.2⟩
  ·simp at a;subst a;exact⟨zD _,zD _,λy a d=>by simp only at a d ⊢;rw[show y=x by omega]⟩
 ·rcases kc y x with a|a
  ·obtain⟨r,b,d⟩:=h.2.2 y a e;exact⟨r,kv _ b,d⟩
  ·exact⟨(x,1,ow x),by simp,by simp only;omega⟩
theorem uB.more {x a m no:Nat}{l:List (Nat×Nat×Nat)}(h:uB ow x (l++[(a,m,no)]))(he:a+m=x)(hno:ow x=no):uB ow (x+1) (l++[(a,m+1,no)]):=by
 refine⟨by have:=h.1;simp at this ⊢;omega,λr e=>?_,λy i g=>?_⟩
 ·rcases zL.1 e with b|b
  ·have:=h.2.1 r (kv _ b);exact⟨this.1,O,this.2.2⟩
  ·simp at b;subst b;have:=h.2.1 (a,m,no) aA;refine⟨by simp only;omega,by simp only;omega,λy b d=>?_⟩;simp only at b d ⊢;rcases kc y (a+m)with h3|h3
   ·exact this.2.2 y b h3
   ·rw[show y=x by omega];exact hno
 ·rcases kc y x with b|b
  ·obtain⟨r,e,d⟩:=h.2.2 y b g;rcases zL.1 e with h3|h3
   ·exact⟨r,kv _ h3,d⟩
   ·simp at h3;subst h3;exact⟨(a,m+1,no),by simp,by simp only at d ⊢;omega⟩
  ·exact⟨(a,m+1,no),by simp,by simp only;have:=h.2.1 (a,m,no) aA;simp only at this;omega⟩
end Go.Ar
namespace Go.Proofs
open Go.Vc
set_option maxRecDepth 100000
def Yg.h:Hn:=.q .o1 (.q (.q .o4 (.q .o2 .aJ)) (.q .o5 .aM))
def Yg.v (a:R2)(b c:Int)(d:Hp)(e:aN):Prop:=Xl.c a b 1 d λf g=>If (f != 0) (e f g) (Nz 8<|bL (b.tdiv 8) λh=>Y6.c a h c g λi=>e 0 i)
theorem Yg.o {a b c d e}(f:Yg.v a b c d e):Yg.c a b c d e:=Wa Tryz.func62 (x:=Yg.h) (R0 f)
def YF.h:Hn:=.q .o2 (.q (.q .o4 (.q .o2 (.c (.q .o3 .l) .l))) (.q .o6 .l))
def YF.v (a:R2)(b:Int)(c:Hp)(d:Int->Int->Hp->Prop):Prop:=Xl.c a b 1 c λe f=>If (e != 0) (d 0 e f) (Nz 8<|bL (b.tdiv 8) λg=>YT.c a g f λh i=>d h 0 i)
theorem YF.o {a b c d}(e:YF.v a b c d):YF.c a b c d:=Wa Tryz.func83 (x:=YF.h) (R0 e)
def Xl.h:Hn:=.q .o1 (.q (.k (.q .o4 (.c .aM (.q .o3 (.c .aM (.q (.cR (.seq [.op,.op,.op,.cX false 3 (RI.ops 3),.op])) .aK)))))) (.q .gT (.q (.q (.cR (.gL true [] [(50,.one .b)] (.tk [0,1,2,3,4,5,6,7] (.split 39 (.tk [8,9,10,11,12,13,14,15,16,17,18] (.done)) (.tk [8,9,10,11,12,13,14,15,16] (.all [(17,.take 18 (.done))])))))) .aK) .aM)))
def Xl.v (a:R2)(b c:Int)(d:Hp)(e:aN):Prop:=Xu.c a d λf g=>If (!f) (e 5 g) (If (c==0) (e 0 g) (bV (λh i=>If h (e 7 i) (Nz 256<|bL (b.tdiv 256) λj=>Nz 8<|bL (b.tdiv 8) λk=>bL (k+c) λl=>bL (l-1) λm=>Nz 32<|bL (m.tdiv 32) λn=>Jn [.b] (λ(o:Bool) p=>If o (e 7 p) (e 0 p)) λq=>eI i λr=>bU a λs=>aT r s 0 λt=>If (n≥((t.len:Nat):Int)) (q true i) (bU a λu=>aT r u 0 λv=>bL (n+1) λw=>eY v 2 j w (v.cap:Nat) λx=>gE r .b ((Addr.mk 0 0 none).add 0) λ(y:Bool)=>gE r .b ((Addr.mk 0 0 none).add 1) λ(z:Bool)=>Wj.c x y z i λaa ab=>And (r ab) <| q aa ab))) λac=>If (b<0) (ac true g) (Nz 8 <| ac ((b.tmod 8) != 0) g)))
theorem Xl.o {a b c d e}(f:Xl.v a b c d e):Xl.c a b c d e:=Wa Tryz.func88 (x:=Xl.h) (R0 f)
def Y6.h:Hn:=.q .o3 (.kg [] (.q (.oq 9) (.c (.q (.cR (.tail 7 (RI.ops 7) [.op])) (.q (.cR (.held true [6] (.tk [0,1,2,3,4] (.all [(5,.all [(6,.done)])])))) (.cR (.tail 13 (RI.ops 13) [.op])))) .l)) (.o 11))
def Y6.v (a:R2)(b c:Int)(d:Hp)(e:aP):Prop:=Nz 32<|bL (b.tdiv 32) λf=>Jn [] (λg=>bI a 1 g λi=>Lk .i64 .s i f g λj=>Nz 32 <| Ix (j.getD ⟨none,0,0⟩).a (j.getD ⟨none,0,0⟩).len (b.tmod 32) 1 λk=>dS k (.I c) g λl=>e l) λm=>bE a 0 d λo=>Ix o.a o.len f 2 λp=>aZ p 0 d λq=>aZ p 1 d λr=>lL ((Addr.mk 1 0 none).add 0) d λs=>lL ((Addr.mk 1 0 none).add 1) d λt=>If (!((q==s)&&((r==t)&&true))) (bE a 0 d λv=>lL ((Addr.mk 1 0 none).add 0) d λw=>lL ((Addr.mk 1 0 none).add 1) d λx=>Ix v.a v.len f 2 λy=>aR y 0 (.bool w) d λz=>aR y 1 (.bool x) z λaa=>eI aa λab=>bU a λac=>gE ab .m (ac.add 1) λ(ad:Option Nat)=>Mk 32 32 8 3 [.I 0] aa λae af=>And (ab af) <| kf .i64 .s ad f ae af λag=>bD a 2 ag λai=>bI a 1 ag λak=>qJ .i64 .s ak ag λal=>bU a λam=>aR am 2 (.I (if al>ai then al else ai)) ag λan=>m an) (m d)
theorem Y6.o {a b c d e}(f:Y6.v a b c d e):Y6.c a b c d e:=Wa Tryz.func89 (x:=Y6.h) (R0 f)
def Xy.h:Hn:=.q .o1 (.q (.q .o3 .aK) (.q .o6 .l))
def Xy.v (a:R2)(b:Hp)(c:aN):Prop:=Xu.c a b λd e=>If (!d) (c 0 e) (bE a 0 e λg=>c ((g.len:Nat):Int) e)
theorem Xy.o {a b c}(d:Xy.v a b c):Xy.c a b c:=Wa Tryz.func108 (x:=Xy.h) (R0 d)
def Xu.h:Hn:=.q .o1 (.q (.cR (.seq [.op,.op,.op,.cX true 6 (RI.ops 6),.op])) .l)
def Xu.v (a:R2)(b:Hp)(c:aO):Prop:=bV (λd e=>c d e) λf=>If (!a.isNone) (bE a 0 b λh=>f (decide (((h.len:Nat):Int)>0)) b) (f false b)
theorem Xu.o {a b c}(d:Xu.v a b c):Xu.c a b c:=Wa Tryz.func109 (x:=Xu.h) (R0 d)
def YT.h:Hn:=.q .o1 (.q (.q (.o 12) (.q .o1 (.c (.q .o6 .l) .l))) .aM)
def YT.v (a:R2)(b:Int)(c:Hp)(d:aN):Prop:=bI a 1 c λf=>Nz 32<|bL (b.tdiv 32) λg=>Lk .i64 .s f g c λh=>If h.isSome (Nz 32 <| Ix (h.getD ⟨none,0,0⟩).a (h.getD ⟨none,0,0⟩).len (b.tmod 32) 1 λi=>bM i c λj=>d j c) (d 0 c)
theorem YT.o {a b c d}(e:YT.v a b c d):YT.c a b c d:=Wa Tryz.func117 (x:=YT.h) (R0 e)
def QL.h:Hn:=.q .o2 (.q (.q (.cR (.seq [.op,.op,.op,.cX false 2 [.op,.op]])) .aJ) (.q .o7 .l))
def QL.v (a:Int)(b:Hp)(c:Option Addr->Int->Hp->Prop):Prop:=bV (λd e=>If d (c none 1 e) (Mk a a 2 161 [.bool false,.bool false] e λf g=>Nw (.map #[] 0) g λh i=>aV #[.slice f.a f.len f.cap,.map (some h.block),.I 0] 165 i λj k=>c (some j) 0 k)) λl=>If (a<1) (l true b) (l (decide (a>1024)) b)
theorem QL.o {a b c}(d:QL.v a b c):QL.c a b c:=Wa Tryz.func142 (x:=QL.h) (R0 d)
def YX.h:Hn:=.q .o2 (.q (.k (.q .o4 (.c .aL (.q (.cR (.seq [.op,.op,.op,.cX false 2 [.op,.op],.op,.cX false 7 (RI.ops 7),.op,.cX false 9 (RI.ops 9),.op])) .aJ)))) (.q (.o 11) .l))
def YX.v (a:R2)(b c:Int)(d:Hp)(e:Sl->Int->Hp->Prop):Prop:=Xu.c a d λf g=>If (!f) (e ⟨none,0,0⟩ 5 g) (bV (λh i=>bV (λj k=>bV (λl m=>If l (e ⟨none,0,0⟩ 1 m) (bE a 0 m λo=>bL (b+c) λp=>eY o 2 b p (o.cap:Nat) λq=>e q 0 m)) λr=>If j (r true k) (bE a 0 k λt=>bL (((t.len:Nat):Int)-b) λu=>r (decide (c>u)) k)) λv=>If h (v true i) (bE a 0 i λx=>v (decide (b>((x.len:Nat):Int))) i)) λy=>If (b<0) (y true g) (y (decide (c<1)) g))
theorem YX.o {a b c d e}(f:YX.v a b c d e):YX.c a b c d e:=Wa Tryz.func273 (x:=YX.h) (R0 f)
def YY.h:Hn:=.q .o1 (.q .o2 (.k (.loop [(8,.I)] (.q (.q .o5 (.c .l .l)) (.q (.k (.q (.cR (.tail 7 (RI.ops 7) [.op])) .o6)) .o3)))))
def YY.v (a:R2)(b c:Int)(d e:Bool)(f:Hp)(g:aP):Prop:=aV #[.bool d,.bool e] 161 f λh i=>X9 [bN] (λj=>j b i) λk (l:Int) m=>bL (b+c) λn=>If (l<n) (bE a 0 m λp=>aZ h 0 m λq=>aZ h 1 m λr=>Ix p.a p.len l 2 λs=>aR s 0 (.bool q) m λt=>aR s 1 (.bool r) t λu=>bI a 1 u λw=>lC .i64 .s w l u λx=>bL (l+1) λy=>k y x) (g m)
theorem YY.o {a b c d e f g}(h:YY.v a b c d e f g):YY.c a b c d e f g:=Wa Tryz.func274 (x:=YY.h) (R0 h)
def Y4.h:Hn:=.q .o1 (.q .o9 (.q (.k (.q .o3 (.c .aL (.q .o3 .aK)))) (.q .o5 .aM)))
def Y4.v (a:R2)(b c:Int)(d:Hp)(e:aN):Prop:=YX.c a b c d λf g h=>If (g != 0) (e g h) (Wf.c f ⟨309,#[],#[]⟩ h λi j=>If i (e 5 j) (lL ((Addr.mk 2 0 none).add 0) j λk=>lL ((Addr.mk 2 0 none).add 1) j λl=>YY.c a b c k l j λm=>e 0 m))
theorem Y4.o {a b c d e}(f:Y4.v a b c d e):Y4.c a b c d e:=Wa Tryz.func286 (x:=Y4.h) (R0 f)
def Yq.h:Hn:=.q .o2 (.q .o4 .l)
def Yq.v (a b:Bool)(c:Hp)(d:aO):Prop:=aV #[.bool a,.bool b] 161 c λe f=>aZ e 0 f λg=>aZ e 1 f λh=>lL ((Addr.mk 0 0 none).add 0) f λi=>lL ((Addr.mk 0 0 none).add 1) f λj=>d (!((g==i)&&((h==j)&&true))) f
theorem Yq.o {a b c d}(e:Yq.v a b c d):Yq.c a b c d:=Wa Tryz.func309 (x:=Yq.h) (R0 e)
end Go.Proofs
namespace Go.Ar
open Go Go.Vc Go.Proofs
open Go.Bu (Zc)
variable {U:Hp}{F:Rg}{p q r:Nat}{sp:Sp}
structure Gl (U:Hp):Prop where
 c0:cell U ⟨2,0,none⟩=some (.bool true)
 c1:cell U ⟨2,1,none⟩=some (.bool false)
 u0:cell U ⟨0,0,none⟩=some (.bool false)
 u1:cell U ⟨0,1,none⟩=some (.bool false)
structure Gc (U:Hp):Prop where
 d0:cell U ⟨1,0,none⟩=some (.bool true)
 d1:cell U ⟨1,1,none⟩=some (.bool true)
structure Gd (U:Hp):Prop where
 lt:1<U.size
def iV (F:Rg):Prop:=∀b,F b->b≠2/\b≠0
theorem Q8 {h:Hp}{b o:Nat}{v:Value}(hc:cell h ⟨b,o,none⟩=some v):b<h.size:=(CY hc).1
theorem Gl.bS {σ':Hp}(g:Gl U)(e:Ext F U σ')(hF:iV F):Gl σ':=by
 have b:¬F 2:=λh=>(hF _ h).1 rfl;have a:¬F 0:=λh=>(hF _ h).2 rfl;exact⟨(Q6 e (Q8 g.c0) b).trans g.c0,(Q6 e (Q8 g.c1) b).trans g.c1,(Q6 e (Q8 g.u0) a).trans g.u0,(Q6 e (Q8 g.u1) a).trans g.u1⟩
theorem Gc.bS {σ':Hp}(g:Gc U)(e:Ext F U σ')(hF:¬F 1):Gc σ':=⟨(Q6 e (Q8 g.d0) hF).trans g.d0,(Q6 e (Q8 g.d1) hF).trans g.d1⟩
theorem Gc.bO {σ':Hp}(g:Gc U)(e:bK U σ'):Gc σ':=g.bS e id
theorem Gd.bS {σ':Hp}(g:Gd U)(e:Ext F U σ')(hF:¬F 1):Gd σ':=⟨tZ g.lt e.1⟩
theorem Gd.bO {σ':Hp}(g:Gd U)(e:bK U σ'):Gd σ':=g.bS e id
theorem Gc.gd (g:Gc U):Gd U:=⟨Q8 g.d0⟩
theorem Gl.bO {σ':Hp}(g:Gl U)(e:bK U σ'):Gl σ':=g.bS e λ_ h=>h.elim
theorem iV.grow (hF:iV F)(g:Gl U):iV (Grow F U):=λb a=>by
 rcases a with h|h
 ·exact hF b h
 ·have e:=Q8 g.c0;have d:=Q8 g.u0;exact⟨O,O⟩
theorem iV.sub {G:Rg}(hF:iV F)(h:∀b,G b->F b):iV G:=λb a=>hF b (h b a)
def fX:Nat->Bool×Bool
 | 0=>(false,false)
 | 1=>(true,false)
 | _=>(true,true)
def gM (st:List Nat):List Value:=st.flatMap λx=>[.bool (fX x).1,.bool (fX x).2]
theorem Vn (l:List Nat):(gM l).length=2*l.length:=by
 induction l with
 | nil=>rfl
 | cons x l ih=>simp only[gM,oy,zO,zY,lA]at *;omega
theorem Dm {l:List Nat}{i x:Nat}(h:l[i]?=some x):(gM l)[2*i]?=some (.bool (fX x).1)/\(gM l)[2*i+1]?=some (.bool (fX x).2):=by
 induction l generalizing i with
 | nil=>simp at h
 | cons y l ih=>
  have e:gM (y::l)=[.bool (fX y).1,.bool (fX y).2]++gM l:=by simp[gM]
  rw[e];cases i with
  | zero=>simp at h;subst h;simp
  | succ i=>
   have:=ih (i:=i) (by simpa using h);rw[show 2*(i+1)=2*i+2 by omega];simpa using this
theorem ER {l:List Nat}{i v:Nat}(h:i<l.length)(rest:List Value):((gM l++rest).set (2*i) (.bool (fX v).1)).set (2*i+1) (.bool (fX v).2)=gM (l.set i v)++rest:=by
 induction l generalizing i with
 | nil=>simp at h
 | cons y l ih=>
  have e:∀z m,gM (z::m)=.bool (fX z).1 :: .bool (fX z).2::gM m:=λz m=>by simp[gM]
  cases i with
  | zero=>simp[e]
  | succ i=>
   have:=ih (i:=i) (by simpa using h);rw[rX,e,e,show 2*(i+1)=2*i+1+1 by omega];simp only[lf,rX];rw[this]
theorem AA {x y:Nat}(hx:x<=2)(hy:y<=2):(((fX x).1==(fX y).1)&&(((fX x).2==(fX y).2)&&true))=(x==y):=by
 match x,y,hx,hy with
 | 0,0,_,_=>rfl
 | 1,1,_,_=>rfl
 | 2,2,_,_=>rfl
 | 0,1,_,_=>rfl
 | 0,2,_,_=>rfl
 | 1,0,_,_=>rfl
 | 1,2,_,_=>rfl
 | 2,0,_,_=>rfl
 | 2,1,_,_=>rfl
theorem Q3 {α:Type}(x:Int×α)(l:List (Int×α))(k:Int):bW (x::l) k=if x.1=k then some x.2 else bW l k:=by
 unfold bW;rw[ui];by_cases h:x.1=k
 ·simp[h]
 ·have:(x.1==k)=false:=by simpa using h
  rw[this,zB h]
theorem LP {α:Type}(l:List (Int×α))(n k:Int)(v:α):bW (l.map λx=>if x.1==n then(n,v)else x) k=if k=n then(if l.any (λx=>x.1==n)then some v else none)else bW l k:=by
 induction l with
 | nil=>simp[bW]
 | cons x l ih=>
  rw[zS,Q3,ih,Q3,List.any_cons];by_cases hx:x.1=n
  ·by_cases hk:k=n
   ·subst hk;simp[hx]
   ·have:¬n=k:=λe=>hk e.symm;simp[hx,hk,this]
  ·have a:(x.1==n)=false:=by simpa using hx
   simp only[a,zd,zz,xF];by_cases hk:k=n
   ·subst hk;simp[hx]
   ·simp[hk]
theorem IP {α:Type}(l:List (Int×α))(n k:Int)(v:α)(h:l.any (λx=>x.1==n)=false):bW (l++[(n,v)]) k=if k=n then some v else bW l k:=by
 induction l with
 | nil=>
  rw[tg,Q3];by_cases hk:k=n
  ·simp[hk]
  ·have:¬n=k:=λe=>hk e.symm;simp[hk,this,bW]
 | cons x l ih=>
  rw[List.any_cons,Bool.or_eq_false_iff]at h;rw[lf,Q3,ih h.2,Q3];have a:¬x.1=n:=by simpa using h.1
  by_cases hk:k=n
  ·subst hk;simp[a]
  ·simp[hk]
theorem VY {α:Type}(l:List (Int×α))(n k:Int)(v:α):bW (dB l n v) k=if k=n then some v else bW l k:=by
 unfold dB;cases h:l.any (λx=>x.1==n)
 ·rw[zB aA,IP l n k v h]
 ·rw[zC rfl,LP,h];simp
theorem GW {α:Type}(l:List (Int×α))(n k:Int):bW (cS l n) k=if k=n then none else bW l k:=by
 unfold cS
 induction l with
 | nil=>simp[bW]
 | cons x l ih=>
  rw[sI,Q3];by_cases hx:x.1=n
  ·have:(!(x.1==n))=false:=by simp[hx]
   rw[this];simp only[zd,zz,ih];by_cases hk:k=n
   ·simp[hk]
   ·have:¬x.1=k:=λe=>hk (e.symm.trans hx);simp[hk,this]
  ·have:(!(x.1==n))=true:=by simpa using hx
   rw[this,zC rfl,Q3,ih];by_cases hk:k=n
   ·subst hk;simp[hx]
   ·simp[hk]
theorem Vg {α:Type}{l:List (Int×α)}{k:Int}{v:α}(h:bW l k=some v):(k,v)∈l:=by
 unfold bW at h;cases hf:l.find? (λx=>x.1==k)with
 | none=>rw[hf]at h;cases h
 | some x=>
  rw[hf]at h;have b:=tx hf;have e:=sj hf;have d:x.1=k:=by simpa using b
  have a:x.2=v:=by simpa using h
  rw[←d,←a];exact e
theorem JP {α:Type}{l:List (Int×α)}{k:Int}:(bW l k).isSome=true↔k∈l.map (·.1):=by
 unfold bW;rw[Option.isSome_map,y7];simp
def E9 (U:Hp)(s:Sl)(b:Nat)(f:Nat->Int):Prop:=s.a=some ⟨b,0,none⟩/\s.len=32/\32<=s.cap/\∃cs,bY U b cs/\32<=cs.length/\∀j,j<32->cs[j]?=some (.int .i64 (f j))
structure fF (U:Hp) (F:Rg) (p q r:Nat) (l:List (Int×Sl)) (B:Nat->Nat) (sp:Sp):Prop where
 hd:∃cap,sp.st.length<=cap/\bY U p [.slice (some ⟨q,0,none⟩) sp.st.length cap,.map (some r),.int .i64 (sp.pk:Int)]
 row:∃rest,bY U q (gM sp.st++rest)
 map:dH U r .i64 .s l
 keys:∀x:Int,(bW l x).isSome=true↔∃k:Nat,x=k/\sp.st[k]?=some 2
 wd:∀(k:Nat) s,bW l (k:Int)=some s->E9 U s (B k) λj=>sp.wd (32*k+j)
 inj:∀k k':Nat,sp.st[k]?=some 2->sp.st[k']?=some 2->B k=B k'->k=k'
 out:∀k:Nat,sp.st[k]?=some 2->F (B k)/\B k≠p/\B k≠q/\B k≠r
 fs:F p/\F q/\F r/\p≠q/\p≠r/\q≠r
 zero:∀w:Nat,sp.st[w/32]?≠some 2->sp.wd w=0
 n1:1<=sp.st.length
 n2:sp.st.length<=1024
 rh:∀x∈sp.st,x<=2
 pk:sp.pk<=1024
def dL (U:Hp)(F:Rg)(p:Nat)(sp:Sp):Prop:=∃q r l B,fF U F p q r l B sp
theorem fF.entry {l:List (Int×Sl)}{B:Nat->Nat}(h:fF U F p q r l B sp){k:Nat}(hk:sp.st[k]?=some 2):∃s,bW l (k:Int)=some s/\E9 U s (B k) λj=>sp.wd (32*k+j):=by
 have:=(h.keys (k:Int)).2 ⟨k,rfl,hk⟩;obtain⟨s,a⟩:=pM.1 this;exact⟨s,a,h.wd k s a⟩
theorem fF.lg {l:List (Int×Sl)}{B:Nat->Nat}(h:fF U F p q r l B sp){k:Nat}{s:Sl}(hs:bW l (k:Int)=some s):sp.st[k]?=some 2:=by
 obtain⟨k',e,a⟩:=(h.keys (k:Int)).1 (by rw[hs];rfl);have:k=k':=by omega
 subst this;exact a
theorem dL.loc:dM λU F=>dL U F p sp:=λU J F G ⟨q,r,l,B,h⟩ P D=>by
 have d:∀{b:Nat} {g:List Value},bY U b g->F b->bY J b g/\G b:=by
  rintro b g ⟨e,x⟩ M;have:=D b (bY.lt ⟨e,x⟩) M;exact⟨⟨e,this.2.trans x⟩,this.1⟩
 obtain⟨c,H,hd⟩:=h.hd;obtain⟨m,a⟩:=h.row;obtain⟨K,w,C,L⟩:=h.map;have j:=D r (zt.1 C).1 h.fs.2.2.1;refine⟨q,r,l,B,⟨c,H,(d hd h.fs.1).1⟩,⟨m,(d a h.fs.2.1).1⟩,⟨K,w,j.2.trans C,L⟩,h.keys,λk s i=>?_,h.inj,λk i=>?_,⟨(d hd h.fs.1).2,(d a h.fs.2.1).2,j.1,h.fs.2.2.2⟩,h.zero,h.n1,h.n2,h.rh,h.pk⟩
 ·obtain⟨y,A,E,g,u,z⟩:=h.wd k s i;exact⟨y,A,E,g,(d u (h.out k (h.lg i)).1).1,z⟩
 ·obtain⟨s,N,y,A,E,g,u,z⟩:=h.entry i;exact⟨(d u (h.out k i).1).2,(h.out k i).2⟩
theorem dL.bO {σ':Hp}(h:dL U F p sp)(e:bK U σ'):dL σ' F p sp:=dM.bO dL.loc h e
variable {l:List (Int×Sl)}{B:Nat->Nat}
theorem fF.rS (h:fF U F p q r l B sp){K:Sl->Prop}(hK:∀cap,sp.st.length<=cap->K ⟨some ⟨q,0,none⟩,sp.st.length,cap⟩):jj (Addr.add ⟨p,0,none⟩ 0) U K:=by
 obtain⟨c,a,hd⟩:=h.hd;exact hd.rS rfl (hK c a)
theorem fF.rM (h:fF U F p q r l B sp){K:Option Nat->Prop}(hK:K (some r)):ld (Addr.add ⟨p,0,none⟩ 1) U K:=by
 obtain⟨c,a,hd⟩:=h.hd;exact hd.rM rfl hK
theorem fF.xC (h:fF U F p q r l B sp){i x:Nat}(hx:sp.st[i]?=some x){K:Bool->Bool->Prop}(hK:K (fX x).1 (fX x).2):lL (Addr.add ⟨q,2*i,none⟩ 0) U λa=>lL (Addr.add ⟨q,2*i,none⟩ 1) U λb=>K a b:=by
 obtain⟨e,d⟩:=h.row;have j:=(cV.1 hx).1;have g:=Dm hx;refine d.rB (x:=(fX x).1) ?_ (d.rB (x:=(fX x).2) ?_ hK)
 ·rw[j7,ze (by rw[Vn];omega)];exact g.1
 ·rw[ze (by rw[Vn];omega)];exact g.2
theorem yP (h:dL U F p sp){R:aO}(hR:R true U):Xu.c (aW p) U R:=by
 refine Xu.o ?_;unfold Xu.v;obtain⟨q,r,l,B,h⟩:=h;have:=h.n1;refine bV.intro (cE rfl (aG (h.rS λcap _=>?_)));rw[zJ aC];exact hR
theorem FA (h:dL U F p sp){R:aN}(hR:R (sp.st.length:Int) U):Xy.c (aW p) U R:=by
 refine Xy.o ?_;unfold Xy.v;have a:=h;obtain⟨q,r,l,B,h⟩:=h;exact yP a (cB rfl (aG (h.rS λcap _=>hR)))
theorem fF.wS (h:fF U F p q r l B sp):l.length=sp.st.count 2:=by
 have m:=h.map.nodup;have j:(l.map (·.1)).Perm (((List.range sp.st.length).filter λk=>sp.st[k]?==some 2).map λk=>((k:Nat):Int)):=by
  rw[Ay m]
  ·intro x;rw[←JP,h.keys];simp only[zE,zI,zg,zT];constructor
   ·rintro⟨k,rfl,hk⟩;exact⟨k,⟨(cV.1 hk).1,hk⟩,rfl⟩
   ·rintro⟨k,⟨_,hk⟩,rfl⟩;exact⟨k,rfl,hk⟩
  ·have g:((List.range sp.st.length).filter λk=>sp.st[k]?==some 2).Pairwise (· ≠ ·):=List.Pairwise.sublist sX List.nodup_range;exact List.Pairwise.map _ (λa b (e:a≠b) d=>e (by exact_mod_cast d)) g
 have i:=j.length_eq;simp only[zl]at i;rw[i,←yA];have key:∀st:List Nat,(List.range st.length).countP (λk=>st[k]?==some 2)=st.count 2:=by
  intro st
  induction st with
  | nil=>rfl
  | cons x st ih=>
   rw[zY,List.range_succ_eq_map,vo,List.countP_map,List.count_cons,←ih]
   congr 1
 exact key sp.st
end Go.Ar
namespace Go.Ar
open Go Go.Vc Go.Proofs
open Go.Bu (Zc)
variable {U:Hp}{F:Rg}{p q r:Nat}{sp:Sp}{l:List (Int×Sl)}{B:Nat->Nat}
theorem IJ (l:List Nat)(n:Nat):gM (l.take n)=(gM l).take (2*n):=by
 induction l generalizing n with
 | nil=>simp[gM]
 | cons y l ih=>
  have e:∀z m,gM (z::m)=.bool (fX z).1 :: .bool (fX z).2::gM m:=λz m=>by simp[gM]
  cases n with
  | zero=>simp[gM]
  | succ n=>
   rw[ue,e,e,ih,show 2*(n+1)=2*n+1+1 by omega];simp
theorem IC (l:List Nat)(n:Nat):gM (l.drop n)=(gM l).drop (2*n):=by
 induction l generalizing n with
 | nil=>simp[gM]
 | cons y l ih=>
  have e:∀z m,gM (z::m)=.bool (fX z).1 :: .bool (fX z).2::gM m:=λz m=>by simp[gM]
  cases n with
  | zero=>simp[gM]
  | succ n=>
   rw[xL,e,ih,show 2*(n+1)=2*n+1+1 by omega];simp
theorem Sj (n v:Nat):gM (List.replicate n v)=(List.replicate n [Value.bool (fX v).1,.bool (fX v).2]).flatten:=by
 induction n with
 | zero=>rfl
 | succ n ih=>rw[uZ,uZ,wu,←ih];simp[gM]
theorem _root_.Go.Vc.cW.xC {s:Sl}{l:List Nat}(h:cW s 2 (gM l) U F){i x:Nat}(hx:l[i]?=some x){K:Bool->Bool->Prop}(hK:K (fX x).1 (fX x).2) :
 Ix s.a s.len (i:Int) 2 λa=>lL (a.add 0) U λu=>lL (a.add 1) U λw=>K u w:=by
 have y:=(cV.1 hx).1;have g:=Dm hx;obtain⟨b,o,j,m⟩:=h.cell g.1;obtain⟨r,o1,d,e⟩:=h.cell g.2;rw[j]at d;cases d;have p:=h.1;rw[Vn]at p;rw[j];refine ix O O ?_;rw[add_lit];refine nt ?_ (nt ?_ hK)<;>rw[add_lit]
 ·rw[show o+(i:Int).toNat*2+0=o+2*i by omega];exact m
 ·rw[show o+(i:Int).toNat*2+1=o+(2*i+1) by omega];exact e
theorem _root_.Go.Vc.cW.wG {s:Sl}{l:List Nat}(h:cW s 2 (gM l) U F):s.len=l.length:=by
 have:=h.1;rw[Vn]at this;omega
theorem Se {s:Sl}{xs:List Nat}(h:cW s 2 (gM xs) U F)(hl:xs.length<=1000000)(h2:∀x∈xs,x<=2){v:Nat}(hv:v<=2){R:aN}
 (hR:∀(t:Int) σ',bK U σ'->decide (t≥0)=xs.contains v->R t σ'):Wn.c s (fX v).1 (fX v).2 U R:=by
 refine Wn.o ?_;unfold Wn.v;have u:=h.wG;refine nw (cs:=[.bool (fX v).1,.bool (fX v).2]) λw E e z=>?_;have h:=aH.bO h e;refine ZX (a:=bN) (λ(t:Int) y=>∃i:Nat,t=(i:Int)/\i<=xs.length/\y=w/\∀j,j<i->xs[j]?≠some v) (λt _=>xs.length-t.toNat) ⟨0,rfl,O,rfl,λj g=>O⟩ ?_;rintro t y ⟨i,rfl,G,rfl,b⟩;refine cQ (λD=>?_) λC=>?_
 ·have d:i<xs.length:=by omega
  have A:xs[i]?=some xs[i]:=cU d;refine z.rB rfl (z.rB rfl (h.xC A ?_));rw[AA hv (h2 _ (j3 d))];refine cO (λp=>?_) λp=>?_
  ·have:v=xs[i]:=by simpa using p
   refine hR _ _ e ?_;have B:xs.contains v=true:=by rw[this];simp
   rw[B,zJ O]
  ·have r:¬v=xs[i]:=by simpa using p
   refine cP (m:=i+1) O O ⟨⟨i+1,rfl,O,rfl,λj g=>?_⟩,O⟩;by_cases e:j=i
   ·subst e;rw[A];intro e2;cases e2;exact r rfl
   ·exact b j O
 ·refine hR _ _ e ?_;have:xs.contains v=false:=by
   simp only[q9,decide_eq_false_iff_not];intro hm;obtain⟨j,g⟩:=zQ hm;have:=(cV.1 g).1;exact b j O g
  rw[this];rfl
theorem MQ {s:Sl}{xs:List Nat}(h:cW s 2 (gM xs) U F)(hl:xs.length<=1000000)(h2:∀x∈xs,x<=2){v:Nat}(hv:v<=2){R:aO}
 (hR:∀σ',bK U σ'->R (xs.contains v) σ'):Wj.c s (fX v).1 (fX v).2 U R:=by
 refine Wj.o ?_;unfold Wj.v;refine nw (cs:=[.bool (fX v).1,.bool (fX v).2]) λw g e a=>a.rB rfl (a.rB rfl ?_);refine Se (aH.bO h e) hl h2 hv λt σ' d b=>?_;rw[b];exact hR σ' (Ext.trans e d)
theorem MG (g:Gl U){x:Nat}(hx:x<=2){R:aO}(hR:∀σ',bK U σ'->R (x != 0) σ'):Yq.c (fX x).1 (fX x).2 U R:=by
 refine Yq.o ?_;unfold Yq.v;refine nw (cs:=[.bool (fX x).1,.bool (fX x).2]) λv d e a=>a.rB rfl (a.rB rfl ?_);have g:=g.bO e;refine nt (by rw[←g.u0];rfl) (nt (by rw[←g.u1];rfl) ?_);have b:(((fX x).1==false)&&(((fX x).2==false)&&true))=(x==0):=AA hx (y:=0) O;rw[b];exact hR v e
theorem PN {s:Sl}{xs:List Nat}(h:cW s 2 (gM xs) U F)(g:Gl U)(hl:xs.length<=1000000)(h2:∀x∈xs,x<=2){R:aO}
 (hR:∀σ',bK U σ'->R (xs.any (· != 0)) σ'):Wf.c s ⟨309,#[],#[]⟩ U R:=by
 refine Wf.o ?_;unfold Wf.v;refine Wm.o ?_;unfold Wm.v;have z:=h.wG;refine ZX (a:=bN) (λ(t:Int) C=>∃i:Nat,t=(i:Int)/\i<=xs.length/\bK U C/\∀(j x:Nat),j<i->xs[j]?=some x->x=0) (λt _=>xs.length-t.toNat) ⟨0,rfl,O,Ext.refl _ _,λj x r=>O⟩ ?_;rintro t w ⟨i,rfl,H,e,p⟩;refine cQ (λE=>?_) λD=>?_
 ·have b:i<xs.length:=by omega
  have A:xs[i]?=some xs[i]:=cU b;refine(aH.bO h e).xC A ?_;refine py (all := #[.agg #[.bool (fX xs[i]).1,.bool (fX xs[i]).2]]) (by kernel_rfl) aA ?_;refine MG (g.bO e) (h2 _ (j3 b)) λG B=>?_;refine cO (λu=>?_) λu=>?_
  ·have:xs.any (· != 0)=true:=kC.2 ⟨_,j3 b,u⟩;have:=hR G (Ext.trans e B);rw[‹xs.any (· != 0)=true›]at this;show R (decide ((i:Int)≥0)) _;rw[zJ O];exact this
  ·have y:xs[i]=0:=by simpa using u
   refine cP (m:=i+1) O O ⟨⟨i+1,rfl,O,Ext.trans e B,λj x r d=>?_⟩,O⟩;by_cases e:j=i
   ·subst e;rw[A]at d;cases d;exact y
   ·exact p j x O d
 ·have:xs.any (· != 0)=false:=by
   rw[mF];intro x hm;obtain⟨j,r⟩:=zQ hm;have:=(cV.1 r).1;simpa using p j x O r
  have:=hR w e;rw[‹xs.any (· != 0)=false›]at this;exact this
theorem fF.part (h:fF U F p q r l B sp){x y c:Nat}(hl:x+y<=sp.st.length):cW ⟨some ⟨q,2*x,none⟩,y,c⟩ 2 (gM ((sp.st.drop x).take y)) U F:=by
 obtain⟨d,b⟩:=h.row;have a:(gM ((sp.st.drop x).take y)).length=y*2:=by rw[Vn,zZ,jZ];omega
 refine⟨a,.inr ⟨q,2*x,_,h.fs.2.1,rfl,b.q,λj e=>?_⟩⟩;rw[a]at e;rw[ze (by rw[Vn];omega),IJ,IC,zj,zC O,kW]
theorem Rz (h:dL U F p sp)(a m:Int){R:Sl->Int->Hp->Prop}(h0:Zc sp.st.length a m=false->R ⟨none,0,0⟩ 1 U)
 (h1:∀(x y:Nat) s,a=x->m=y->1<=y->x+y<=sp.st.length->cW s 2 (gM ((sp.st.drop x).take y)) U F->R s 0 U):YX.c (aW p) a m U R:=by
 refine YX.o ?_;unfold YX.v;have A:=h;obtain⟨q,r,l,B,h⟩:=h;have n2:=h.n2;have b:¬(0<=a/\1<=m/\m<=sp.st.length-a)->R ⟨none,0,0⟩ 1 U:=λw=>h0 (by simp only[Zc,←uk];exact zK w);refine yP A (cB rfl (bV.intro (cQ (λj=>bV.intro (cE rfl (bV.intro (cE rfl (cE rfl (b O)))))) λj=>?_)));refine bV.intro (cQ (λi=>bV.intro (cE rfl (cE rfl (b O)))) λi=>aG (h.rS λcap d=>?_));simp only;refine bV.intro (cQ (λz=>cE rfl (b O)) λz=>?_);refine aG (h.rS λcap d=>ar aC aC ?_);simp only;refine cQ (λg=>b O) λg=>?_;obtain⟨x,rfl⟩:=zc (show 0<=a by omega);obtain⟨y,rfl⟩:=zc (show 0<=m by omega);refine aG (h.rS λcap d=>cP (m:=x+y) O O ?_);refine iM O aC (zD _) ?_;simp only;rw[zB O];refine h1 x y _ rfl rfl O O ?_;have:=h.part (x:=x) (y:=y) (c:=cap-x) O;have e:(Option.map (λ(u:Addr)=>u.add (x*2)) (some (⟨q,0,none⟩:Addr)))=some ⟨q,2*x,none⟩:=by
  simp only[zX,add_lit];congr 2;omega
 rw[e,Ah];exact this
def Sp.jH (s:Sp)(k v:Nat):Sp:={s with st:=s.st.set k v,wd:=λw=>if k*32<=w/\w<(k+1)*32 then 0 else s.wd w}
theorem Fc {st:List Nat}(h:∀x∈st,x<=2){k v:Nat}(hv:v<=2):∀x∈st.set k v,x<=2:=by
 intro x hx;rcases yu hx with h1|h1
 ·exact h x h1
 ·omega
theorem fF.jH (h:fF U F p q r l B sp){k v:Nat}(hk:k<sp.st.length)(hv:v<=1){σ':Hp}(e:Ext (λb=>b=q\/b=r) U σ'){rest:List Value}
 (hb:bY σ' q (gM (sp.st.set k v)++rest)) (hm:dH σ' r .i64 .s (cS l (k:Int))):fF σ' F p q r (cS l (k:Int)) B (sp.jH k v):=by
 have d:∀j:Nat,(sp.st.set k v)[j]?=some 2↔j≠k/\sp.st[j]?=some 2:=λj=>by
  rw[mI];by_cases hjk:k=j
  ·subst hjk;rw[zC rfl,zC hk];constructor
   ·intro h;have:v=2:=by simpa using h
    omega
   ·intro h;exact absurd rfl h.1
  ·rw[zB hjk];exact⟨λh=>⟨λe=>hjk e.symm,h⟩,λh=>h.2⟩
 obtain⟨c,z,hd⟩:=h.hd;have D:¬(p=q\/p=r):=by have:=h.fs;omega
 refine⟨⟨c,by simpa[Sp.jH]using z,by simpa[Sp.jH]using e.bT hd D⟩,⟨rest,hb⟩,hm,λx=>?_,λj s g=>?_,λj y G m=>?_,λj a=>?_,h.fs,λw u=>?_,by simpa[Sp.jH]using h.n1,by simpa[Sp.jH]using h.n2,Fc h.rh O,h.pk⟩
 ·rw[GW];by_cases hx:x=(k:Int)
  ·rw[zC hx];constructor
   ·intro h;cases h
   ·rintro⟨j,rfl,a⟩;have:=(d j).1 a;omega
  ·rw[zB hx,h.keys];constructor
   ·rintro⟨j,rfl,a⟩;exact⟨j,rfl,(d j).2 ⟨O,a⟩⟩
   ·rintro⟨j,rfl,a⟩;exact⟨j,rfl,((d j).1 a).2⟩
 ·rw[GW]at g;by_cases hx:(j:Int)=(k:Int)
  ·rw[zC hx]at g;cases g
  ·rw[zB hx]at g;obtain⟨A,J,M,E,K,H,L⟩:=h.wd j s g;have N:=h.out j (h.lg g);refine⟨A,J,M,E,e.bT K O,H,λi C=>?_⟩;rw[L i C];simp only[Sp.jH];rw[zB O]
 ·exact h.inj j y ((d j).1 G).2 ((d y).1 m).2
 ·exact h.out j ((d j).1 a).2
 ·simp only[Sp.jH]at u ⊢;by_cases hin:k*32<=w/\w<(k+1)*32
  ·rw[zC hin]
  ·rw[zB hin];refine h.zero w λm=>u ((d _).2 ⟨O,m⟩)
theorem Sp.oS (s:Sp)(a v:Nat):s.set a 0 v=s:=by
 have b:gC s.st a (a+0) v=s.st:=by
  apply zo;intro i;rw[U5];cases s.st[i]? with
  | none=>rfl
  | some x=>simp only[zX];rw[zB O]
 have d:(λw=>if a*32<=w/\w<(a+0)*32 then 0 else s.wd w)=s.wd:=by
  funext w;rw[zB O]
 simp only[Sp.set,b,d]
theorem Sp.pj (s:Sp)(a m v:Nat)(h:a+m<s.st.length):(s.set a m v).jH (a+m) v=s.set a (m+1) v:=by
 have b:(gC s.st a (a+m) v).set (a+m) v=gC s.st a (a+(m+1)) v:=by
  apply zo;intro i;rw[mI,U5,U5,Ku];by_cases hi:a+m=i
  ·subst hi;rw[zC rfl,zC h,cU h,zX,zC O]
  ·rw[zB hi];cases s.st[i]? with
   | none=>rfl
   | some x=>
    simp only[zX];by_cases hin:a<=i/\i<a+m
    ·rw[zC hin,zC O]
    ·rw[zB hin,zB O]
 have d:(λw=>if(a+m)*32<=w/\w<(a+m+1)*32 then 0 else(if a*32<=w/\w<(a+m)*32 then 0 else s.wd w))=λw=>if a*32<=w/\w<(a+(m+1))*32 then 0 else s.wd w:=by
  funext w
  by_cases b:(a+m)*32<=w/\w<(a+m+1)*32
  ·rw[zC b,zC O]
  ·rw[zB b];by_cases d:a*32<=w/\w<(a+m)*32
   ·rw[zC d,zC O]
   ·rw[zB d,zB O]
 simp only[Sp.set,Sp.jH,b,d]
theorem IZ (h:dL U F p sp){x y v:Nat}(hl:x+y<=sp.st.length)(hv:v<=1){R:aP}(hR:∀σ',Ext F U σ'->dL σ' F p (sp.set x y v)->R σ') :
 YY.c (aW p) x y (fX v).1 (fX v).2 U R:=by
 refine YY.o ?_;unfold YY.v;have X:sp.st.length<=1024:=by obtain⟨q,r,l,B,h⟩:=h;exact h.n2
 have s:dL U (Cut F U) p sp:=dM.cut dL.loc h;refine nw (cs:=[.bool (fX v).1,.bool (fX v).2]) λu hz e g=>?_;have Q:=s.bO e;refine ZX (a:=bN) (λ(t:Int) w=>∃i:Nat,t=((x+i:Nat):Int)/\i<=y/\Ext (Cut F U) u w/\bY w U.size [.bool (fX v).1,.bool (fX v).2]/\dL w (Cut F U) p (sp.set x i v)) (λt _=>x+y-t.toNat)
  ⟨0,rfl,O,Ext.refl _ _,g,by rw[Sp.oS];exact Q⟩ ?_
 rintro t w ⟨i,rfl,hi,J,j,q,r,l,B,d⟩;refine cP (m:=x+y) O O (cQ (λY=>?_) λS=>?_)
 ·have G:(sp.set x i v).st.length=sp.st.length:=Ku _ _ _ _;refine aG (d.rS λcap L=>j.rB rfl (j.rB rfl (ix O aC ?_)));rw[add_lit,show 0+((x+i:Nat):Int).toNat*2=2*(x+i) by omega];obtain⟨N,z⟩:=d.row;have M:x+i<(sp.set x i v).st.length:=by omega
  refine z.s1 (by rw[zO,Vn];omega) λw1 o1 W=>W.s1 (by rw[nR,zO,Vn];omega) λw2 o2 H=>?_;rw[j7,ER M]at H;have e2:Ext (· = q) w w2:=o1.ext.trans o2.ext;obtain⟨c,V,hd⟩:=d.hd;have A:=e2.bT hd d.fs.2.2.2.1;refine aG (A.rM rfl ⟨l,e2.fQ d.map (λe=>d.fs.2.2.2.2.2 e.symm),λw3 D _ C=>?_⟩);have o3:=D r rfl;have P:Ext (λb=>b=q\/b=r) w w3:=(e2.sub λb g=>.inl g).trans (o3.ext.sub λb g=>.inr g);have K:=d.jH M hv P (Ws o3 H d.fs.2.2.2.2.2) C;rw[Sp.pj _ _ _ _ O]at K;have E:Ext (Cut F U) w w3:=P.sub λb g=>by
   rcases g with rfl|rfl
   ·exact d.fs.2.1
   ·exact d.fs.2.2.1
  refine cP (m:=x+(i+1)) O O ⟨⟨i+1,rfl,O,J.trans E,E.bT j λZ=>by have:=Z.2;omega,_,_,_,_,K⟩,O⟩
 ·have:i=y:=by omega
  subst this;refine hR w (Ext.cut (e.to.trans J)) (dM.mono dL.loc ⟨q,r,l,B,d⟩ λb _ g=>g.1)
theorem Pf (h:dL U F p sp)(g:Gl U)(hF:iV F)(a m:Int){R:aN}(hR:∀σ',Ext F U σ'->dL σ' F p (fT sp a m)->R (fA sp a m) σ') :
 Y4.c (aW p) a m U R:=by
 refine Y4.o ?_;unfold Y4.v;have i:(∀x∈sp.st,x<=2)/\sp.st.length<=1024:=by obtain⟨q,r,l,B,h⟩:=h;exact⟨h.rh,h.n2⟩
 refine Rz h a m (λe=>?_) λx y s H G K u D=>?_
 ·have e1:fA sp a m=1:=by unfold fA;rw[e];rfl
  have e2:fT sp a m=sp:=by unfold fT;rw[e1];rfl
  have:=hR U (Ext.refl _ _);rw[e1,e2]at this;exact cE rfl (this h)
 ·subst H;subst G;have e:Zc sp.st.length (x:Int) (y:Int)=true:=by simp only[Zc,zF,zU];omega
  refine cB rfl (PN D g (by rw[zZ,jZ];omega) (λz C=>i.1 z (tI (vW C))) λE e1=>?_);have d:fA sp x y=if((sp.st.drop x).take y).any (· != 0)then 5 else 0:=by unfold fA;rw[e];rfl
  refine cO (λb=>?_) λb=>?_
  ·rw[b]at d;have e2:fT sp x y=sp:=by unfold fT;rw[d];rfl
   have:=hR E (bK.to e1);rw[d,e2]at this;exact this (h.bO e1)
  ·rw[b]at d;have e2:fT sp x y=sp.set x y 1:=by unfold fT;rw[d];rfl
   have j:=g.bO e1;refine nt (by rw[←j.c0];rfl) (nt (by rw[←j.c1];rfl) ?_);refine IZ (v:=1) (h.bO e1) u O λA J w=>?_;have:=hR A (Ext.trans (bK.to e1) J);rw[d,e2]at this;exact this w
theorem FW (h:dL U F p sp)(g:Gl U)(x:Int)(hx:x<=9223372036854775807){R:aN}(hR:∀σ',bK U σ'->R (eR sp x) σ') :
 Xl.c (aW p) x 1 U R:=by
 refine Xl.o ?_;unfold Xl.v;have D:=h;obtain⟨q,r,l,B,h⟩:=h;have n2:=h.n2;have i:(x<0\/x%8≠0)->R 7 U:=λj=>by
  have:=hR U (Ext.refl _ _);unfold eR at this;rw[zC j]at this;exact this
 refine yP D (cB rfl (cB rfl (bV.intro (cQ (λC=>cE rfl (i (.inl C))) λC=>nz aB ?_))));obtain⟨y,rfl⟩:=zc (show 0<=x by omega);refine cO (λd=>?_) λd=>?_
 ·refine i (.inr ?_);rw[Qp O]at d;simpa using d
 have K:y%8=0:=by
  rw[Qp O]at d;have:((y:Int)%8)=0:=by simpa using d
  omega
 have ok:¬((y:Int)<0\/(y:Int)%8≠0):=by omega
 refine nz aB (cP (m:=y/256) (by rw[XO O];simp) O (nz aB (cP (m:=y/8) (by rw[XO O];simp) O ?_)));refine cP (m:=y/8+1) O O (cP (m:=y/8) O O (nz aB (cP (m:=y/256) (by rw[XO O];simp;omega) O ?_)));have fin:∀(b:Bool) σ',bK U σ'->(b=true↔sp.st.getD (y/256) 0=0)->If b (R 7 σ') (R 0 σ'):=λb σ' e j=>by
  have:=hR σ' e;unfold eR at this;rw[zB ok]at this;refine cO (λh=>?_) λh=>?_
  ·rw[zC (by simpa using j.1 h)]at this;exact this
  ·rw[zB (λH=>by rw[j.2 (by simpa using H)]at h;cases h)]at this;exact this
 obtain⟨c,J,hd⟩:=h.hd;refine Jn.intro ⟨λm=>bY m p [.slice (some ⟨q,0,none⟩) sp.st.length c,.map (some r),.int .i64 (sp.pk:Int)]/\Gl m,⟨hd,g⟩,?_⟩;refine aG ⟨⟨some ⟨q,0,none⟩,sp.st.length,c⟩,λm a=>by rw[add_lit,a.1.cell];rfl,?_⟩;refine cQ (λs=>?_) λs=>?_
 ·simp only at s;refine fin _ U (Ext.refl _ _) ⟨λ_=>?_,λ_=>rfl⟩;rw[zP,zV O];rfl
 simp only at s;refine aG ⟨⟨some ⟨q,0,none⟩,sp.st.length,c⟩,λm a=>by rw[add_lit,a.1.cell];rfl,?_⟩;refine cP (m:=y/256+1) O O (iM O aC (zD _) ?_);simp only;rw[zB O];refine⟨false,λm a=>a.2.u0,⟨false,λm a=>a.2.u1,?_⟩⟩;have e:(Option.map (λ(u:Addr)=>u.add (y/256*2)) (some (⟨q,0,none⟩:Addr)))=some ⟨q,2*(y/256),none⟩:=by
  simp only[zX,add_lit];congr 2;omega
 rw[e,Ah];have G:=h.part (x:=y/256) (y:=1) (c:=c-y/256) O;refine MQ (v:=0) G (by rw[zZ,jZ];omega) (λz E=>h.rh z (tI (vW E))) O λσ' w=>?_;refine⟨⟨w.bT hd id,g.bO w⟩,fin _ σ' w ?_⟩;have A:y/256<sp.st.length:=by omega
 rw[zP,cU A,wQ A,ue,xw];simp[eq_comm]
theorem Nm (h:dL U F p sp){w:Nat}(hw:w<=2305843009213693952){R:aN}(hR:R (sp.wd w) U):YT.c (aW p) (w:Int) U R:=by
 refine YT.o ?_;unfold YT.v;obtain⟨q,r,l,B,h⟩:=h;refine aG (h.rM (nz aB (cP (m:=w/32) (by rw[XO O];simp) O ⟨l,h.map,?_⟩)));cases hg:bW l ((w/32:Nat):Int)with
 | none=>
  refine cB rfl ?_;have:sp.st[w/32]?≠some 2:=λd=>by
   have:=(h.keys _).2 ⟨_,rfl,d⟩;rw[hg]at this;cases this
  rw[h.zero w this]at hR;exact hR
 | some s=>
  obtain⟨b,u,x,i,e,j,g⟩:=h.wd _ s hg;refine cE rfl (nz aB ?_);simp only[pv];have a:((w:Int).tmod 32)=((w%32:Nat):Int):=by rw[Qp O];simp
  rw[b,a];refine ix O O ?_;rw[add_lit];refine e.uv ?_ hR;rw[show 0+((w%32:Nat):Int).toNat*1=w%32 by omega,g _ O];simp only;rw[show 32*(w/32)+w%32=w by omega]
theorem Rp (h:dL U F p sp)(g:Gl U)(x:Int)(hx:x<=9223372036854775807){R:Int->Int->Hp->Prop}(hR:∀σ',bK U σ'->R (if eR sp x=0 then sp.wd (x.toNat/8)else 0) (eR sp x) σ') :
 YF.c (aW p) x U R:=by
 refine YF.o ?_;unfold YF.v;refine FW h g x hx λσ' e=>?_;have:=hR σ' e;refine cO (λd=>?_) λd=>?_
 ·have i:¬eR sp x=0:=by simpa using d
  rw[zB i]at this;exact this
 ·have a:eR sp x=0:=by simpa using d
  rw[zC a,a]at this;have b:0<=x:=by
   rcases(by omega:x<0\/0<=x)with hlt|hge
   ·unfold eR at a;rw[zC (.inl hlt)]at a;cases a
   ·exact hge
  obtain⟨y,rfl⟩:=zc b;exact nz aB (cP (m:=y/8) (by rw[XO O];simp) O (Nm (h.bO e) O this))
theorem fF.Ag (h:fF U F p q r l B sp){k:Nat}(hk:k<sp.st.length)(hn:sp.st[k]?≠some 2){σ':Hp}{b:Nat}{s:Sl}{T:Rg}(e:Ext T U σ')(hT:∀i,i<U.size->T i->i=q\/i=r)(hz:U.size<=b){rest:List Value}
 (hb:bY σ' q (gM (sp.st.set k 2)++rest)) (hm:dH σ' r .i64 .s (dB l (k:Int) s)) (ha:s.a=some ⟨b,0,none⟩) (hl:s.len=32) (hc:s.cap=32) (hw:bY σ' b (List.replicate 32 (.int .i64 0))) :
 fF σ' (Grow F U) p q r (dB l (k:Int) s) (λj=>if j=k then b else B j) {sp with st:=sp.st.set k 2}:=by
 have u:∀j:Nat,(sp.st.set k 2)[j]?=some 2↔j=k\/sp.st[j]?=some 2:=λj=>by
  rw[mI];by_cases hjk:k=j
  ·subst hjk;rw[zC rfl,zC hk];simp
  ·rw[zB hjk];exact⟨λh=>.inr h,λh=>h.resolve_left λe=>hjk e.symm⟩
 obtain⟨c,J,hd⟩:=h.hd;obtain⟨_,A⟩:=h.row;have X:=hd.lt;have V:=A.lt;have S:=h.map.lt;have W:=e.1;have g:=h.fs;have z:∀{j:Nat},sp.st[j]?=some 2->B j<U.size:=λ{j} d=>by
  obtain⟨t,_,_,_,_,cs,H,_⟩:=h.entry d;exact H.lt
 have cT:∀{i:Nat} {cs:List Value},bY U i cs->i≠q->i≠r->bY σ' i cs:=λ{i cs} D E y=>e.bT D λQ=>by
  rcases hT i D.lt Q with h|h
  ·exact E h
  ·exact y h
 refine⟨⟨c,by simpa using J,by simpa using cT hd g.2.2.2.1 g.2.2.2.2.1⟩,⟨rest,hb⟩,hm,λx=>?_,λj t d=>?_,λj C E y m=>?_,λj d=>?_,⟨.inl g.1,.inl g.2.1,.inl g.2.2.1,g.2.2.2⟩,λw G=>?_,by simpa using h.n1,by simpa using h.n2,Fc h.rh O,h.pk⟩
 ·rw[VY];by_cases hx:x=(k:Int)
  ·rw[zC hx];subst hx;simp only[Option.isSome_some,true_iff];exact⟨k,rfl,(u k).2 (.inl rfl)⟩
  ·rw[zB hx,h.keys];constructor
   ·rintro⟨j,rfl,d⟩;exact⟨j,rfl,(u j).2 (.inr d)⟩
   ·rintro⟨j,rfl,d⟩;exact⟨j,rfl,((u j).1 d).resolve_left O⟩
 ·rw[VY]at d;by_cases hx:(j:Int)=(k:Int)
  ·have:j=k:=by omega
   subst this;rw[zC rfl]at d;cases d;rw[zC rfl];refine⟨ha,hl,O,_,hw,by simp,λi D=>?_⟩;rw[l7,zC D];simp only;rw[h.zero _ (by rw[show(32*j+i)/32=j by omega];exact hn)]
  ·rw[zB hx]at d;obtain⟨L,N,R,cs,H,M,P⟩:=h.wd j t d;have K:=h.out j (h.lg d);rw[zB O];exact⟨L,N,R,cs,cT H K.2.2.1 K.2.2.2,M,P⟩
 ·by_cases e1:j=k
  ·by_cases e2:C=k
   ·omega
   ·rw[zC e1,zB e2]at m;have:=z (((u C).1 y).resolve_left e2);omega
  ·rw[zB e1]at m;by_cases e2:C=k
   ·rw[zC e2]at m;have:=z (((u j).1 E).resolve_left e1);omega
   ·rw[zB e2]at m;exact h.inj j C (((u j).1 E).resolve_left e1) (((u C).1 y).resolve_left e2) m
 ·by_cases e1:j=k
  ·rw[zC e1];exact⟨.inr hz,O,O,O⟩
  ·rw[zB e1];have:=h.out j (((u j).1 d).resolve_left e1);exact⟨.inl this.1,this.2⟩
 ·refine h.zero w λy=>G ((u _).2 (.inr y))
theorem fF.BX (h:fF U F p q r l B sp){σ':Hp}{n c:Nat}(hn:n<=1024)(ho:Qo U σ' p)(hc:sp.st.length<=c)(hb:bY σ' p [.slice (some ⟨q,0,none⟩) sp.st.length c,.map (some r),.int .i64 (n:Int)]):fF σ' F p q r l B {sp with pk:=n}:=by
 have d:=h.fs;obtain⟨b,a⟩:=h.row;refine⟨⟨c,hc,hb⟩,⟨b,Ws ho a O⟩,UX ho h.map O,h.keys,λj t e=>?_,h.inj,h.out,d,h.zero,h.n1,h.n2,h.rh,hn⟩;obtain⟨s,m,x,g,u,i,w⟩:=h.wd j t e;exact⟨s,m,x,g,Ws ho u (h.out j (h.lg e)).2.1,i,w⟩
theorem fF.word (h:fF U F p q r l B sp){w:Nat}{v:Int}(hk:sp.st[w/32]?=some 2){σ':Hp}{cs:List Value}(h32:32<=cs.length)(ho:Qo U σ' (B (w/32)))(hcs:∀j,j<32->cs[j]?=some (.int .i64 (sp.wd (32*(w/32)+j))))
 (hb:bY σ' (B (w/32)) (cs.set (w%32) (.int .i64 v))):fF σ' F p q r l B {sp with wd:=λu=>if u=w then v else sp.wd u}:=by
 have y:=h.out _ hk;obtain⟨c,D,hd⟩:=h.hd;obtain⟨a,b⟩:=h.row;refine⟨⟨c,D,Ws ho hd O⟩,⟨a,Ws ho b O⟩,UX ho h.map O,h.keys,λj t x=>?_,h.inj,h.out,h.fs,λu z=>?_,h.n1,h.n2,h.rh,h.pk⟩
 ·obtain⟨s,A,C,m,G,E,H⟩:=h.wd j t x;by_cases hjk:j=w/32
  ·subst hjk;refine⟨s,A,C,_,hb,by simpa using h32,λi d=>?_⟩;rw[mI];by_cases hiw:w%32=i
   ·rw[zC hiw,zC O];simp only;rw[zC O]
   ·rw[zB hiw];simp only;rw[zB O];exact hcs i d
  ·have g:B j≠B (w/32):=λe=>hjk (h.inj _ _ (h.lg x) hk e);refine⟨s,A,C,m,Ws ho G g,E,λi d=>?_⟩;rw[H i d];simp only;rw[zB O]
 ·have:u≠w:=λe=>by subst e;exact z hk
  simp only;rw[zB this];exact h.zero u z
theorem Ml (h:dL U F p sp)(g:Gc U){w:Nat}(hw:w/32<sp.st.length)(v:Int){R:aP}(hR:∀σ',Ext F U σ'->dL σ' (Grow F U) p (nb sp w v)->R σ') :
 Y6.c (aW p) (w:Int) v U R:=by
 refine Y6.o ?_;unfold Y6.v;obtain⟨q,r,l,B,h⟩:=h;have aa:=h.n2;have j:sp.st[w/32]?=some sp.st[w/32]:=cU hw;have tm:((w:Int).tmod 32)=((w%32:Nat):Int):=by rw[Qp O];simp
 have word:∀(u:Hp) (s':Sp) (l':List (Int×Sl)) (B':Nat->Nat),Ext F U u->fF u (Grow F U) p q r l' B' s'->s'.st[w/32]?=some 2->({s' with wd:=λz=>if z=w then v else s'.wd z}:Sp)=nb sp w v →
  bU (some ⟨p,0,none⟩) λW=>ld (W.add 1) u λV=>Lk .i64 .s V ((w/32:Nat):Int) u λG=>Nz 32<|Ix (G.getD ⟨none,0,0⟩).a (G.getD ⟨none,0,0⟩).len ((w:Int).tmod 32) 1 λab=>dS ab (.int .i64 v) u λv1=>R v1:=by
  intro u s' l' B' eu hu A he;refine aG (hu.rM ⟨l',hu.map,nz aB ?_⟩);obtain⟨s,hs,w1,w2,w3,cs,w4,w5,w6⟩:=hu.entry A;rw[hs,tm];simp only[pv];rw[w1];refine ix O O ?_;rw[add_lit,show 0+((w%32:Nat):Int).toNat*1=w%32 by omega];refine w4.s0 O λu2 o2 P=>?_;have h2:=hu.word (v:=v) A w5 o2 w6 P;rw[he]at h2;exact hR u2 (eu.dT o2.ext λb d=>by subst d;exact(hu.out _ A).1) ⟨_,_,_,_,h2⟩
 refine nz aB (cP (m:=w/32) (by rw[XO O];simp) O (Jn.intro (aG (h.rS λcap J=>ix O aC ?_))));rw[add_lit,show 0+((w/32:Nat):Int).toNat*2=2*(w/32) by omega];refine h.xC j (nt (n:=true) g.d0 (nt (n:=true) g.d1 ?_));have e0:(((fX sp.st[w/32]).1==true)&&(((fX sp.st[w/32]).2==true)&&true))=(sp.st[w/32]==2):=AA (h.rh _ (j3 hw)) (y:=2) O;rw[e0];refine cO (λhd=>?_) λhd=>?_
 ·have E:sp.st[w/32]≠2:=by simpa using hd
  refine aG (h.rS λcap J=>nt (n:=true) g.d0 (nt (n:=true) g.d1 (ix O aC ?_)));rw[add_lit,show 0+((w/32:Nat):Int).toNat*2=2*(w/32) by omega];obtain⟨K,C⟩:=h.row;refine C.s1 (by rw[zO,Vn];omega) λu1 o1 b1=>b1.s1 (by rw[nR,zO,Vn];omega) λu2 o2 P=>?_;rw[j7]at P;have Q:bY u2 q (gM (sp.st.set (w/32) 2)++K):=by rw[←ER hw];exact P
  have e2:Ext (· = q) U u2:=o1.ext.trans o2.ext;obtain⟨c,hc,D⟩:=h.hd;have H:=e2.bT D h.fs.2.2.2.1;refine⟨λm=>bY m p [.slice (some ⟨q,0,none⟩) sp.st.length c,.map (some r),.int .i64 (sp.pk:Int)],H,aG ⟨some r,λm hm=>by rw[add_lit,hm.cell];rfl,?_⟩⟩;refine mk (n:=32) O O λu3 hz3 N b3=>⟨Ext.bT N H id,?_⟩;have ad:bY u3 u2.size (List.replicate 32 (.int .i64 0)):=b3;have q3:=Ext.bT N Q id;have ac:=e2.fQ h.map (λe=>h.fs.2.2.2.2.2 e.symm);refine⟨r,l,rfl,Ext.fQ N ac id,λu4 o4 Z=>?_⟩;have sz2:u2.size=U.size:=by rw[o2.1,o1.1]
  have hrlt:=h.map.lt;have ae:=D.lt;have e4:Ext (λb=>b=q\/b=r) U u4:=((e2.sub λb d=>.inl d).trans (bK.to N)).trans (o4.ext.sub λb d=>.inr d);have M:=h.Ag hw (by rw[j];simpa using E) (s:=⟨some ⟨u2.size,0,none⟩,32,32⟩) (b:=u2.size) e4 (λi _ L=>L) O (Ws o4 q3 h.fs.2.2.2.2.2) Z rfl rfl rfl (Ws o4 ad O);obtain⟨c4,Y,x⟩:=M.hd;refine aG (x.rI rfl (aG (x.rM rfl ⟨_,M.map,aG ?_⟩)));rw[M.wS];have hcl:(sp.st.set (w/32) 2).count 2<=1024:=zh List.count_le_length (by simpa using aa);have hpk:=h.pk;have hv:(if((List.count 2 (sp.st.set (w/32) 2):Nat):Int)>(sp.pk:Int)then((List.count 2 (sp.st.set (w/32) 2):Nat):Int)else(sp.pk:Int))=((max sp.pk ((sp.st.set (w/32) 2).count 2):Nat):Int):=by
   by_cases hgt:((List.count 2 (sp.st.set (w/32) 2):Nat):Int)>(sp.pk:Int)
   ·rw[zC hgt];omega
   ·rw[zB hgt];omega
  simp only;rw[hv];refine x.s1 aA λu5 o5 b5=>?_;have h5:=M.BX O o5 Y b5;have e5:Ext F U u5:=(e4.sub λb d=>by
   rcases d with rfl|rfl
   ·exact h.fs.2.1
   ·exact h.fs.2.2.1).trans (o5.ext.sub λb d=>by subst d;exact h.fs.1)
  refine word u5 _ _ _ e5 h5 (by simp only;rw[mI,zC rfl,zC hw]) ?_;unfold nb;rw[zB (by rw[zP,j];exact E)]
 ·have X:sp.st[w/32]=2:=by simpa using hd
  rw[X]at j;have S:fF U (Grow F U) p q r l B sp:={h with out:=λk A=>⟨.inl (h.out k A).1,(h.out k A).2⟩,fs:=⟨.inl h.fs.1,.inl h.fs.2.1,.inl h.fs.2.2.1,h.fs.2.2.2⟩};refine word U sp l B (Ext.refl _ _) S j ?_;unfold nb;rw[zC (by rw[zP,j];rfl)];have:sp.st.set (w/32) 2=sp.st:=by
   apply zo;intro i;rw[mI];by_cases L:w/32=i
   ·subst L;rw[zC rfl,zC hw,j]
   ·rw[zB L]
  rw[this]
theorem IX (h:dL U F p sp)(g:Gl U)(gd:Gc U)(x:Int)(hx:x<=9223372036854775807)(v:Int){R:aN}(hR:∀σ',Ext F U σ'->dL σ' (Grow F U) p (ZV sp x v)->R (eR sp x) σ') :
 Yg.c (aW p) x v U R:=by
 refine Yg.o ?_;unfold Yg.v;have j:dL U (Cut F U) p sp:=dM.cut dL.loc h;refine FW h g x hx λA e=>?_;have w:=j.bO e;have C:=g.bO e;refine cO (λr=>?_) λr=>?_
 ·have u:¬eR sp x=0:=by simpa using r
  refine hR A (bK.to e) ?_;unfold ZV;rw[zB u];exact dM.mono dL.loc w λb _ a=>.inl a.1
 ·have d:eR sp x=0:=by simpa using r
  have i:0<=x/\sp.st.getD (x.toNat/256) 0≠0:=by
   unfold eR at d;by_cases a:x<0\/x%8≠0
   ·rw[zC a]at d;cases d
   ·rw[zB a]at d;by_cases hz:sp.st.getD (x.toNat/256) 0=0
    ·rw[zC hz]at d;cases d
    ·exact⟨O,hz⟩
  obtain⟨y,rfl⟩:=zc i.1;have s:y/8/32<sp.st.length:=by
   rcases kc (y/256) sp.st.length with h|h
   ·omega
   ·exact absurd (by rw[zP,zV (by simpa using h)];rfl) i.2
  refine nz aB (cP (m:=y/8) (by rw[XO O];simp) O (Ml w (gd.bO e) s v λz e2 B=>?_));have:=hR z (Ext.cut ((bK.to e).trans e2)) ?_
  ·rw[d]at this;exact this
  ·unfold ZV;rw[zC d];exact dM.mono dL.loc B λb _ a=>by
    rcases a with a|a
    ·exact .inl a.1
    ·exact .inr (zh e.1 a)
def Va (n:Nat):Sp:=⟨List.replicate n 0,λ_=>0,0⟩
theorem NQ {U:Hp}{F:Rg}{p q r n c:Nat}(h1:1<=n)(h2:n<=1024)(hc:n<=c)(hd:bY U p [.slice (some ⟨q,0,none⟩) n c,.map (some r),.int .i64 0])(hq:bY U q (gM (List.replicate n 0)))(hr:dH U r .i64 .s [])
 (hF:F p/\F q/\F r) (hne:p≠q/\p≠r/\q≠r):fF U F p q r [] (λ_=>0) (Va n):=by
 have b:∀k:Nat,(List.replicate n 0)[k]?≠some 2:=λk a=>by
  rw[l7]at a;split at a<;>cases a
 refine⟨⟨c,by simpa[Va]using hc,by simpa[Va]using hd⟩,⟨[],by simpa[Va]using hq⟩,hr,λx=>?_,λk s e=>(by cases e),λk g h1=>absurd h1 (b k),λk a=>absurd a (b k),⟨hF.1,hF.2.1,hF.2.2,hne⟩,λw _=>rfl,by simpa[Va]using h1,by simpa[Va]using h2,λx d=>?_,by simp[Va]⟩
 ·constructor
  ·intro h;cases h
  ·rintro⟨k,_,a⟩;exact absurd a (b k)
 ·have:=Ad d;omega
theorem LH {n:Nat}(h1:1<=n)(h2:n<=1024){R:Option Addr->Int->Hp->Prop}(hR:∀σ' p',bK U σ'->U.size<=p'->dL σ' (λb=>U.size<=b) p' (Va n)->R (some ⟨p',0,none⟩) 0 σ'):QL.c (n:Int) U R:=by
 refine QL.o ?_;unfold QL.v;refine bV.intro (fR O ?_);rw[zK O];refine cB rfl (mk O O λd u e1 g=>tE λw x e2 i=>nw (cs:=[.slice (some ⟨U.size,0,none⟩) n n,.map (some d.size),.int .i64 0]) λe r a m=>?_);have j:=Ext.bT a (Ext.bT e2 g id) id;have p:=Ext.fQ a (i .i64 .s) id;refine hR e _ (Ext.trans (Ext.trans e1 e2) a) O ⟨U.size,d.size,[],_,NQ h1 h2 (zD _) m ?_ p ⟨O,O,O⟩ O⟩;rw[Sj];exact j
end Go.Ar