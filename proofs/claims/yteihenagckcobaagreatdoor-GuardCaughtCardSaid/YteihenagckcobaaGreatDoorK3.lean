/- Texts joined. -/
import Derived.Lib.Overlaps
import Derived.Laws.Externs
import Derived.Test.YteihenagckcobaaGreatDoorK2
set_option linter.unusedVariables false
set_option linter.unusedSimpArgs false
namespace Go.Proofs
open Go.Vc
set_option maxRecDepth 100000
def ZD.h:Hn:=.q .o1 (.q (.q (.cQ (.seq [.op,.op,.op,.op,.cW false 3 (RI.ops 3)])) .aK) (.q (.q .o3 (.k (.loop [(15,.I)] (.q .o1 (.q (.c .l .l) (.q (.k (.q .o6 (.q (.cQ (.gR true [1] [(37,.one .b)] (.take 0 (.all [(1,.take 2 (.take 3 (.split 23 (.take 4 (.take 5 (.take 6 (.take 7 (.take 8 (.take 9 (.take 10 (.take 11 (.take 12 (.take 13 (.take 14 (.take 15 (.take 16 (.take 17 (.done))))))))))))))) (.take 4 (.take 5 (.take 6 (.split 26 (.take 7 (.take 9 (.take 10 (.take 11 (.take 12 (.take 13 (.all [(8,.all [(14,.take 15 (.take 16 (.take 17 (.done))))]),(14,.all [(8,.take 15 (.take 16 (.take 17 (.done))))])]))))))) (.take 7 (.take 8 (.take 9 (.take 10 (.take 11 (.take 12 (.take 13 (.take 14 (.take 15 (.take 16 (.take 17 (.done)))))))))))))))))))])))) .aK))) .o2)))))) .aM))
def ZD.v (a:Sl)(b:Hp)(c:aO):Prop:=bW (λd e=>If d (c false e) (XW [bN] (λf=>f 0 e) λg (h:Int) i=>If (h<((a.len:Nat):Int)) (Ix a.a a.len h 3 λj=>aQ j 0 i λk=>aQ j 1 i λl=>aQ j 2 i λm=>aV #[.I 0,.I 0,.I 0] 137 i λn o=>aR n 0 (.I k) o λp=>aR n 1 (.I l) p λq=>aR n 2 (.I m) q λr=>Jn [.b] (λ(s:Bool) t=>If s (c false t) (bL (h+1) λu=>g u t)) λv=>dY r λw=>aS w n 0 λx=>aS w n 1 λy=>aS w n 2 λz=>QF.c x y z r λaa ab=>If (!aa) (v true ab) (If (h>0) (bL (h-1) λac=>Ix a.a a.len ac 3 λad=>(aQ n 0 ab λae=>aQ ad 0 ab λaf=>v (decide (ae<=af)) ab) ∧ (aQ ad 0 ab λag=>aQ n 0 ab λah=>v (decide (ah<=ag)) ab)) (v false ab))) (c true i))) λai=>If (((a.len:Nat):Int)<1) (ai true b) (ai (decide (((a.len:Nat):Int)>40)) b)
theorem ZD.o {a b c}(d:ZD.v a b c):ZD.c a b c:=Wa Tryz.func140 (x:=ZD.h) (R0 d)
def Qd.h:Hn:=.q .o4 (.q (.k (.q .o4 (.c .aL (.q (.cQ (.gR true [] [(13,.one .b)] (.tk [0,1,2] (.split 16 (.tk [3,4,5,6,7,8,9,10,11,12,13,14,15,16] (.done)) (.tk [3,4,5,6] (.split 20 (.tk [7,8,9,10,11,12,13,14,15,16] (.done)) (.tk [7,8,9,10] (.split 24 (.tk [11,12,13,14,15,16] (.done)) (.take 11 (.take 13 (.all [(12,.take 14 (.take 15 (.take 16 (.done))))]))))))))))) .aJ)))) (.q .o4 (.q (.q .o2 .aJ) (.q .o3 .l))))
def Qd.v (a:Sl)(b c:Int)(d:Hp)(e:Int->Int->Hp->Prop):Prop:=aV #[.I b] 3 d λf g=>aV #[.I c] 3 g λh i=>ZD.c a i λj k=>If (!j) (e 0 2 k) (Jn [.b] (λ(l:Bool) m=>If l (e 0 1 m) (Wm.c a ⟨203,#[],#[.pointer (some f),.pointer (some h)]⟩ m λn o=>If (n<0) (e 0 4 o) (e n 0 o))) λp=>dY k λq=>gG q bN f λ(r:Int)=>If (r<1) (p true k) (gG q bN h λ(s:Int)=>If (s<1) (p true k) (gG q bN h λ(t:Int)=>If (t>256) (p true k) (gG q bN h λ(u:Int)=>gG q bN h λ(v:Int)=>Qg.c u k λw x=>And (q x) <| p (w != v) x))))
theorem Qd.o {a b c d e}(f:Qd.v a b c d e):Qd.c a b c d e:=Wa Tryz.func145 (x:=Qd.h) (R0 f)
def QF.h:Hn:=.q .o2 (.q (.cQ (.seq [.op,.op,.op,.op,.cW true 3 (RI.ops 3),.op,.cW true 4 (RI.ops 4),.op,.cW true 3 (RI.ops 3),.op,.cW true 3 (RI.ops 3),.op,.cW true 6 (RI.ops 6),.op,.cW true 3 (RI.ops 3),.op,.cW true 3 (RI.ops 3),.op])) .l)
def QF.v (a b c:Int)(d:Hp)(e:aO):Prop:=aV #[.I a,.I b,.I c] 137 d λf g=>aQ f 0 g λh=>bW (λi j=>bW (λk l=>bW (λm n=>bW (λo p=>bW (λq r=>bW (λs t=>bW (λu v=>e u v) λw=>If s (aQ f 2 t λx=>w (decide (x<=32)) t) (w false t)) λy=>If q (aQ f 2 r λz=>y (decide (z≥1)) r) (y false r)) λaa=>If o (aQ f 1 p λab=>bL (ab*256) λac=>aQ f 0 p λad=>aa (decide (ac≥ad)) p) (aa false p)) λae=>If m (aQ f 1 n λaf=>ae (decide (af<=4)) n) (ae false n)) λag=>If k (aQ f 1 l λah=>ag (decide (ah≥1)) l) (ag false l)) λai=>If i (aQ f 0 j λaj=>Nz 8 <| ai ((aj.tmod 8)==0) j) (ai false j)) λak=>If (h≥8) (aQ f 0 g λal=>ak (decide (al<=512)) g) (ak false g)
theorem QF.o {a b c d e}(f:QF.v a b c d e):QF.c a b c d e:=Wa Tryz.func176 (x:=QF.h) (R0 f)
def ZI.h:Hn:=.q .o2 (.q .o7 .l)
def ZI.v (a b c:Int)(d:Hp)(e:aN):Prop:=aV #[.I a,.I b,.I c] 137 d λf g=>aQ f 1 g λh=>bL (h*256) λi=>aQ f 0 g λj=>Nz j<|bL (i.tdiv j) λk=>e k g
theorem ZI.o {a b c d e}(f:ZI.v a b c d e):ZI.c a b c d e:=Wa Tryz.func177 (x:=ZI.h) (R0 f)
def Qg.h:Hn:=.q .o1 (.q .o1 (.q (.q .o1 (.k (.loop [(3,.I),(4,.I)] (.q (.q .o3 (.c .l .l)) (.q (.k .o2) .o3))))) .aL))
def Qg.v (a:Int)(b:Hp)(c:aN):Prop:=XW [bN,bN] (λd=>d 0 1 b) λe (f:Int) (g:Int) h=>If (g<=a) (bL (g*2) λi=>e g i h) (c f h)
theorem Qg.o {a b c}(d:Qg.v a b c):Qg.c a b c:=Wa Tryz.func201 (x:=Qg.h) (R0 d)
def ZZ.h:Hn:=.q .o2 (.q (.cQ (.seq [.op,.op,.op,.op,.op,.cW true 5 (RI.ops 5),.op])) .l)
def ZZ.v (a b c:Int)(d e:Addr)(f:Hp)(g:aO):Prop:=aV #[.I a,.I b,.I c] 137 f λh i=>aQ h 0 i λj=>bM d i λk=>bW (λl m=>g l m) λn=>If (j≥k) (aQ h 0 i λo=>bM e i λp=>Nz p <| n ((o.tmod p)==0) i) (n false i)
theorem ZZ.o {a b c d e f g}(h:ZZ.v a b c d e f g):ZZ.c a b c d e f g:=Wa Tryz.func203 (x:=ZZ.h) (R0 h)
def Zx.h:Hn:=.q .o3 (.q (.q .o3 .aJ) (.q .o4 .l))
def Zx.v (a b c:Int)(d:Hp)(e:Int->Int->Hp->Prop):Prop:=aV #[.I a,.I b,.I c] 137 d λf g=>aQ f 0 g λh=>aQ f 1 g λi=>aQ f 2 g λj=>QF.c h i j g λk l=>If (!k) (e 0 1 l) (aQ f 0 l λm=>aQ f 1 l λn=>aQ f 2 l λo=>ZI.c m n o l λp q=>e p 0 q)
theorem Zx.o {a b c d e}(f:Zx.v a b c d e):Zx.c a b c d e:=Wa Tryz.func247 (x:=Zx.h) (R0 f)
end Go.Proofs
namespace Go.Ar
open Go Go.Vc Go.Proofs
variable {U:Hp}
theorem Ij (x y z:Int){R:aO}(hR:∀σ',aG U σ'->R (Us x y z) σ'):QF.c x y z U R:=by
 refine QF.o ?_;unfold QF.v;refine nw (cs:=[.int .i64 x,.int .i64 y,.int .i64 z]) λh A e b=>?_;have r:Us x y z=false->R false h:=λg=>g▸hR h e;have a:¬(8<=x/\x<=512/\x%8=0/\1<=y/\y<=4/\x<=y*256/\1<=z/\z<=32)->R false h:=λg=>r (by rw[←qn,HA];exact g);refine b.rI rfl (bW.intro ?_);refine cP (λw=>b.rI rfl (bW.intro ?_)) λw=>?_
 case refine_2=>
  iterate 6 refine bW.intro (cB rfl ?_)
  exact a O
 refine cP (λi=>b.rI rfl (nz aB (bW.intro ?_))) λi=>?_
 case refine_2=>
  iterate 5 refine bW.intro (cB rfl ?_)
  exact a O
 rw[Qq O];refine cO (λd=>b.rI rfl (bW.intro ?_)) λd=>?_
 case refine_2=>
  have:¬x%8=0:=by simpa using d
  iterate 4 refine bW.intro (cB rfl ?_)
  exact a O
 have j:x%8=0:=by simpa using d
 refine cP (λs=>b.rI rfl (bW.intro ?_)) λs=>?_
 case refine_2=>
  iterate 3 refine bW.intro (cB rfl ?_)
  exact a O
 refine cP (λu=>b.rI rfl (ar O O (b.rI rfl (bW.intro ?_)))) λu=>?_
 case refine_2=>
  iterate 2 refine bW.intro (cB rfl ?_)
  exact a O
 refine cP (λm=>b.rI rfl (bW.intro ?_)) λm=>?_
 case refine_2=>exact bW.intro (cB rfl (a O))
 refine cP (λp=>b.rI rfl ?_) λp=>a O;have:decide (z<=32)=Us x y z:=by
  rw[l9,HA];simp;omega
 rw[this];exact hR h e
theorem S2 {c:bZ}(hc:c.ok){R:aN}(hR:∀σ',aG U σ'->R (c.n:Int) σ'):ZI.c c.size c.aF c.batch U R:=by
 refine ZI.o ?_;unfold ZI.v;have h:=hc;unfold bZ.ok at h;refine nw (cs:=[.int .i64 c.size,.int .i64 c.aF,.int .i64 c.batch]) λh b e a=>?_;refine a.rI rfl (cS (m:=c.aF*256) aA O (a.rI rfl (nz O ?_)));refine cS (m:=c.n) ?_ (by have:=hc.kB;omega) (hR _ e);rw[XX O];simp[bZ.n]
theorem EZ (x y z:Int){R:Int->Int->Hp->Prop}(h1:∀c:bZ,c.ok->x=c.size->y=c.aF->z=c.batch->∀σ',aG U σ'->R (c.n:Int) 0 σ')(h0:Us x y z=false->∀σ',aG U σ'->R 0 1 σ'):Zx.c x y z U R:=by
 refine Zx.o ?_;unfold Zx.v;refine nw (cs:=[.int .i64 x,.int .i64 y,.int .i64 z]) λh j e b=>?_;refine b.rI rfl (b.rI rfl (b.rI rfl (Ij _ _ _ λm e2=>?_)));have a:=e2.bT b id;cases hk:Us x y z
 ·exact cC rfl (h0 hk _ (e.trans e2))
 ·obtain⟨c,d,_,rfl,rfl,rfl⟩:=GU hk;exact cB rfl (a.rI rfl (a.rI rfl (a.rI rfl (S2 d λi g=>h1 c d rfl rfl rfl _ ((e.trans e2).trans g)))))
end Go.Ar
namespace Go.Proofs
open Go.Vc
set_option maxRecDepth 100000
def Xm.h:Hn:=.q .o1 (.q (.cQ (.seq [.op,.op,.op,.cW true 6 (RI.ops 6),.op])) .l)
def Xm.v (a:R2)(b:Hp)(c:aO):Prop:=bW (λd e=>c d e) λf=>If (!a.isNone) (bE a 0 b λh=>f (decide (((h.len:Nat):Int)>0)) b) (f false b)
theorem Xm.o {a b c}(d:Xm.v a b c):Xm.c a b c:=Wa Tryz.func191 (x:=Xm.h) (R0 d)
def KD.h:Hn:=.q .o2 (.q (.q (.cQ (.seq [.op,.op,.op,.cW false 2 [.op,.op],.op,.cW false 3 (RI.ops 3)])) .aJ) (.q .o6 .l))
def KD.v (a:Int)(b:Hp)(c:Option Addr->Int->Hp->Prop):Prop:=bW (λd e=>bW (λf g=>If f (c none 1 g) (Mk a a 8 3 [.I 0] g λh i=>aV #[.slice h.a h.len h.cap] 280 i λj k=>c (some j) 0 k)) λl=>If d (l true e) (Nz 16 <| l ((a.tmod 16) != 0) e)) λm=>If (a<16) (m true b) (m (decide (a>1024)) b)
theorem KD.o {a b c}(d:KD.v a b c):KD.c a b c:=Wa Tryz.func198 (x:=KD.h) (R0 d)
def Xr.h:Hn:=.q .o1 (.q .o6 .l)
def Xr.v (a:R2)(b c:Int)(d:Hp)(e:aN):Prop:=aV #[.I 1] 3 d λf g=>XF.c a b c 2 ⟨some f,1,1⟩ g λh i=>e h i
theorem Xr.o {a b c d e}(f:Xr.v a b c d e):Xr.c a b c d e:=Wa Tryz.func220 (x:=Xr.h) (R0 f)
def YO.h:Hn:=.q .o1 (.q .o7 .l)
def YO.v (a:R2)(b:Hp)(c:aN):Prop:=bE a 0 b λe=>Nz 16<|bL (((e.len:Nat):Int).tdiv 16) λf=>c f b
theorem YO.o {a b c}(d:YO.v a b c):YO.c a b c:=Wa Tryz.func224 (x:=YO.h) (R0 d)
def Zg.h:Hn:=.q .o1 (.q (.o 11) .l)
def Zg.v (a:R2)(b:Int)(c:Hp)(d:Sl->Hp->Prop):Prop:=bE a 0 c λf=>bL (b*16) λg=>bL (b+1) λh=>bL (h*16) λi=>eX f 1 g i (f.cap:Nat) λj=>d j c
theorem Zg.o {a b c d}(e:Zg.v a b c d):Zg.c a b c d:=Wa Tryz.func226 (x:=Zg.h) (R0 e)
def XF.h:Hn:=.q .o2 (.q (.k (.q .o4 (.c .aM (.q (.cQ (.seq [.op,.op,.op,.cW false 2 [.op,.op],.op,.cW false 7 (RI.ops 7),.op,.cW false 9 (RI.ops 9),.op])) .aK)))) (.q .fP (.q (.q .o3 .aK) (.q .o3 .aM))))
def XF.v (a:R2)(b c d:Int)(e:Sl)(f:Hp)(g:aN):Prop:=aV #[.slice e.a e.len e.cap] 34 f λh i=>Xm.c a i λj k=>If (!j) (g 5 k) (bW (λl m=>bW (λn o=>bW (λp q=>If p (g 1 q) (bE a 0 q λs=>bL (b+c) λt=>eX s 1 b t (s.cap:Nat) λu=>Wx.c u ⟨271,#[],#[.pointer (some h)]⟩ q λv w=>If v (g 5 w) (Qt.c u d w λx=>g 0 x))) λy=>If n (y true o) (bE a 0 o λaa=>bL (((aa.len:Nat):Int)-b) λab=>y (decide (c>ab)) o)) λac=>If l (ac true m) (bE a 0 m λae=>ac (decide (b>((ae.len:Nat):Int))) m)) λaf=>If (b<0) (af true k) (af (decide (c<1)) k))
theorem XF.o {a b c d e f g}(h:XF.v a b c d e f g):XF.c a b c d e f g:=Wa Tryz.func230 (x:=XF.h) (R0 h)
def Ym.h:Hn:=.q .o2 (.q (.k (.q .o4 (.c .aL (.q (.cQ (.seq [.op,.op,.op,.cW false 4 (RI.ops 4),.op])) .aJ)))) (.q .o5 .l))
def Ym.v (a:R2)(b:Int)(c:Hp)(d:Sl->Int->Hp->Prop):Prop:=Xm.c a c λe f=>If (!e) (d ⟨none,0,0⟩ 5 f) (bW (λg h=>If g (d ⟨none,0,0⟩ 1 h) (Zg.c a b h λi j=>d i 0 j)) λk=>If (b<0) (k true f) (YO.c a f λl m=>k (decide (b≥l)) m))
theorem Ym.o {a b c d}(e:Ym.v a b c d):Ym.c a b c d:=Wa Tryz.func233 (x:=Ym.h) (R0 e)
def Qt.h:Hn:=.q .o3 (.k (.loop [(7,.I)] (.q .o1 (.q (.c .l .l) (.q (.k (.q .o2 .o5)) .o2)))))
def Qt.v (a:Sl)(b:Int)(c:Hp)(d:aP):Prop:=XW [bN] (λe=>e 0 c) λf (g:Int) h=>If (g<((a.len:Nat):Int)) (Ix a.a a.len g 1 λi=>dU i (.I b) h λj=>bL (g+1) λk=>f k j) (d h)
theorem Qt.o {a b c d}(e:Qt.v a b c d):Qt.c a b c d:=Wa Tryz.func235 (x:=Qt.h) (R0 e)
def XA.h:Hn:=.q .o1 (.q .o6 .l)
def XA.v (a:R2)(b c:Int)(d:Hp)(e:aN):Prop:=aV #[.I 2,.I 3] 3 d λf g=>XF.c a b c 1 ⟨some f,2,2⟩ g λh i=>e h i
theorem XA.o {a b c d e}(f:XA.v a b c d e):XA.c a b c d e:=Wa Tryz.func255 (x:=XA.h) (R0 f)
def Yw.h:Hn:=.q .o1 (.q .o5 .l)
def Yw.v (a:Int)(b:Addr)(c:Hp)(d:aO):Prop:=ju b c λe=>Wp.c e a c λf g=>d (!f) g
theorem Yw.o {a b c d}(e:Yw.v a b c d):Yw.c a b c d:=Wa Tryz.func271 (x:=Yw.h) (R0 e)
def XR.h:Hn:=.q .o1 (.q (.q (.cQ (.seq [.op,.op,.op,.op,.cW false 2 [.op,.op],.op,.cW false 7 (RI.ops 7)])) .aK) (.q .o8 .l))
def XR.v (a:R2)(b:Int)(c:Hp)(d:aN):Prop:=Xm.c a c λe f=>bW (λg h=>bW (λi j=>If i (d (-1) j) (bE a 0 j λl=>Ix l.a l.len b 1 λm=>bM m j λn=>d n j)) λo=>If g (o true h) (bE a 0 h λq=>o (decide (b≥((q.len:Nat):Int))) h)) λr=>If (!e) (r true f) (r (decide (b<0)) f)
theorem XR.o {a b c d}(e:XR.v a b c d):XR.c a b c d:=Wa Tryz.func281 (x:=XR.h) (R0 e)
def Yd.h:Hn:=.q .o1 (.q .o8 (.q (.k (.q .o3 (.c .aL (.q .o5 .aK)))) (.q .o2 .aM)))
def Yd.v (a:R2)(b:Int)(c:Hp)(d:aN):Prop:=Ym.c a b c λe f g=>If (f != 0) (d f g) (Ix e.a e.len 0 1 λh=>bM h g λi=>If (i != 0) (d 5 g) (Qt.c e 3 g λj=>d 0 j))
theorem Yd.o {a b c d}(e:Yd.v a b c d):Yd.c a b c d:=Wa Tryz.func287 (x:=Yd.h) (R0 e)
end Go.Proofs
namespace Go.Ar
open Go Go.Vc Go.Proofs
open Go.Bu (Zj)
variable {U:Hp}{F:Rg}{p q:Nat}{st:List Nat}
structure ik (U:Hp) (p q:Nat) (st:List Nat):Prop where
 hd:∃cap,st.length<=cap/\bY U p [.slice (some ⟨q,0,none⟩) st.length cap]
 row:∃rest,bY U q (ints st++rest)
 ne:p≠q
 n1:16<=st.length
 n2:st.length<=1024
 n3:st.length%16=0
theorem ik.bS {σ':Hp}(h:ik U p q st)(e:Ext F U σ')(hp:¬F p)(hq:¬F q):ik σ' p q st:=
 ⟨by obtain⟨c,a,b⟩:=h.hd;exact⟨c,a,e.bT b hp⟩,by obtain⟨r,a⟩:=h.row;exact⟨r,e.bT a hq⟩,h.ne,h.n1,h.n2,h.n3⟩
theorem ik.bO {σ':Hp}(h:ik U p q st)(e:aG U σ'):ik σ' p q st:=h.bS e id id
theorem ik.lt (h:ik U p q st):p<U.size/\q<U.size:=by
 obtain⟨_,_,b⟩:=h.hd;obtain⟨_,a⟩:=h.row;exact⟨b.lt,a.lt⟩
theorem ik.rS (h:ik U p q st){K:Sl->Prop}(hK:∀cap,st.length<=cap->K ⟨some ⟨q,0,none⟩,st.length,cap⟩):ju (Addr.add ⟨p,0,none⟩ 0) U K:=by
 obtain⟨c,b,a⟩:=h.hd;exact a.rS rfl (hK c b)
theorem ik.part (h:ik U p q st){s:Sl}{a n:Nat}(ha:s.a=some ⟨q,a,none⟩)(hn:s.len=n)(hl:a+n<=st.length):cT s 1 (ints ((st.drop a).take n)) U (· = q):=by
 obtain⟨r,e⟩:=h.row;have b:((st.drop a).take n).length=n:=by simp;omega
 refine e.fX ha (by rw[QS,b,hn];simp) λj d=>?_;rw[QS,b]at d;rw[zh (by rw[QS];omega)];simp[ints,zk,d,kY]
theorem jK {b o n c:Nat}{cs:List Value}(hb:bY U b cs)(hl:o+n<=cs.length)(hn:n<=1000000)(v:Nat){R:aP}
 (hR:∀σ',QB U σ' b->bY σ' b (cs.take o++List.replicate n (.int .i64 (v:Int))++cs.drop (o+n))->R σ'):Qt.c ⟨some ⟨b,o,none⟩,n,c⟩ v U R:=by
 refine Qt.o ?_;unfold Qt.v;refine Qc (a:=bN) (λ(t:Int) p=>∃i:Nat,t=(i:Int)/\i<=n/\QB U p b/\bY p b (cs.take o++List.replicate i (.int .i64 (v:Int))++cs.drop (o+i))) (λt _=>n-t.toNat) ⟨0,rfl,O,⟨rfl,λ_ _=>rfl⟩,by simpa using hb⟩ ?_;rintro t p ⟨i,rfl,x,s,j⟩;refine cP (λu=>?_) λr=>?_
 ·simp only at u;refine ix O aC ?_;rw[add_lit];refine j.s0 aE λy d g=>?_;refine cS (m:=i+1) O O ⟨⟨i+1,rfl,O,⟨d.1.trans s.1,λk w=>(d.2 k w).trans (s.2 k w)⟩,?_⟩,O⟩;have:(cs.take o++List.replicate i (Value.int .i64 (v:Int))++cs.drop (o+i)).set (o+(i:Int).toNat*1) (Value.int .i64 (v:Int))=cs.take o++List.replicate (i+1) (Value.int .i64 (v:Int))++cs.drop (o+(i+1)):=by
   rw[List.set_append_right _ _ aE];have e:o+(i:Int).toNat*1-(cs.take o++List.replicate i (Value.int .i64 (v:Int))).length=0:=by simp;omega
   rw[e,wh O,List.set_cons_zero,Cc];simp[jL,vv]
  rw[this]at g;exact g
 ·simp only at r;have:i=n:=by omega
  subst this;exact hR p s j
theorem ik.fill (h:ik U p q st){a n:Nat}{r:List Value}{σ':Hp}{v:Nat}(hrow:bY U q (ints st++r))(hl:a+n<=st.length)(ho:QB U σ' q)
 (hb:bY σ' q ((ints st++r).take a++List.replicate n (.int .i64 (v:Int))++(ints st++r).drop (a+n))):ik σ' p q (gD st a (a+n) v):=by
 obtain⟨c,g,d⟩:=h.hd;have b:=KJ st a (a+n) v;refine⟨⟨c,by rw[b];exact g,?_⟩,⟨r,?_⟩,h.ne,by rw[b];exact h.n1,by rw[b];exact h.n2,by rw[b];exact h.n3⟩
 ·rw[b];exact Ws ho d h.ne
 ·rw[Ms O hl,U5,U5];have e1:(ints st++r).take a=ints (st.take a):=by
   rw[po (by rw[QS];omega)];simp[ints]
  have e2:(ints st++r).drop (a+n)=ints (st.drop (a+n))++r:=by
   rw[List.drop_append_of_le_length (by rw[QS];omega)];simp[ints]
  have e:ints (List.replicate (a+n-a) v)=List.replicate n (.int .i64 (v:Int)):=by
   rw[Ac];simp[ints]
  rw[e1,e2]at hb;rw[e];simpa[jL]using hb
theorem ik.jK (h:ik U p q st){a n c:Nat}(hl:a+n<=st.length)(v:Nat){R:aP}(hR:∀σ',Ext (· = q) U σ'->ik σ' p q (gD st a (a+n) v)->R σ') :
 Qt.c ⟨some ⟨q,a,none⟩,n,c⟩ v U R:=by
 obtain⟨r,b⟩:=h.row;have:=h.n2;exact Ar.jK b (by simp[QS];omega) O v λσ' d e=>hR σ' d.ext (h.fill b hl d e)
theorem Af (h:ik U p q st){R:aO}(hR:R true U):Xm.c (aW p) U R:=by
 refine Xm.o ?_;unfold Xm.v;refine bW.intro (cC rfl (bK (h.rS λcap _=>?_)));have:=h.n1;rw[zJ aC];exact hR
theorem Tc (h:ik U p q st){R:aN}(hR:R ((st.length/16:Nat):Int) U):YO.c (aW p) U R:=by
 refine YO.o ?_;unfold YO.v;have:=h.n2;refine bK (h.rS λcap _=>nz aB ?_);refine cS (m:=st.length/16) ?_ O hR;rw[XX O];simp
theorem Ri (h:ik U p q st){k:Nat}(hk:16*k+16<=st.length){R:Sl->Hp->Prop}(hR:∀c,R ⟨some ⟨q,16*k,none⟩,16,c⟩ U):Zg.c (aW p) (k:Int) U R:=by
 refine Zg.o ?_;unfold Zg.v;have:=h.n2;refine bK (h.rS λcap a=>?_);refine cS (m:=16*k) O O (cS (m:=k+1) O O (cS (m:=16*k+16) O O ?_));refine iQ O aC aC ?_;have e:16*k+16-16*k=16:=by omega
 rw[zB aC,e];simp only[zZ,add_lit,ni,zH];exact hR _
theorem N8 (h:ik U p q st)(k:Int){R:Sl->Int->Hp->Prop}(h1:∀(x:Nat) c,k=(x:Int)->16*x+16<=st.length->R ⟨some ⟨q,16*x,none⟩,16,c⟩ 0 U)(h0:uE st.length k=false->R ⟨none,0,0⟩ 1 U) :
 Ym.c (aW p) k U R:=by
 refine Ym.o ?_;unfold Ym.v;have n3:=h.n3;refine Af h (cB rfl (bW.intro (cP (λa=>cC rfl (h0 ?_)) λa=>Tc h ?_)))
 ·simp[uE];omega
 ·refine cP (λb=>h0 ?_) λd=>?_
  ·simp[uE];omega
  ·obtain⟨x,rfl⟩:=zc (show 0<=k by omega);exact Ri h O λc=>h1 x c rfl O
theorem IF {n x:Nat}(h:16*x+16<=n):uE n (x:Int)=true:=by simp[uE];omega
theorem ik.first (h:ik U p q st){x c:Nat}(hx:16*x+16<=st.length){K:Int->Prop}(hK:K ((st.getD (16*x) 0:Nat):Int)) :
 Ix (some ⟨q,16*x,none⟩) 16 0 1 λa=>gE .i64 a U K:=by
 have b:=h.part (s:=⟨some ⟨q,16*x,none⟩,16,c⟩) (n:=16) rfl rfl hx;refine b.rH (i:=0) (x:=st.getD (16*x) 0) ?_ hK;simp[zk,kY,zP];rw[cU O];simp
theorem ML (h:ik U p q st)(k:Int){R:aN}(hR:∀σ',Ext (· = q) U σ'->ik σ' p q (iO st k)->R (kC st k) σ'):Yd.c (aW p) k U R:=by
 refine Yd.o ?_;unfold Yd.v;refine N8 h k (λx c g d=>?_) λg=>?_
 ·subst g;have a:=IF d;refine cB rfl (h.first (c:=c) d (cO (λi=>?_) λi=>?_))
  ·have e1:¬st.getD (16*x) 0=0:=by simpa using i
   have:kC st (x:Int)=5:=by simp only[kC,a,dD,zS,zB e1]
   have e2:iO st (x:Int)=st:=by simp[iO,this]
   have:=hR U (Ext.refl _ _);rw[e2]at this;simpa[*]using this h
  ·have e1:st.getD (16*x) 0=0:=by simpa using i
   have b:kC st (x:Int)=0:=by simp only[kC,a,dD,zS,e1]
   have e2:iO st (x:Int)=gD st (16*x) (16*x+16) 3:=by simp[iO,b]
   refine h.jK d 3 λσ' e j=>?_;have:=hR σ' e;rw[b,e2]at this;exact this j
 ·have b:kC st k=1:=by simp[kC,g]
  have e2:iO st k=st:=by simp[iO,b]
  refine cC rfl ?_;have:=hR U (Ext.refl _ _);rw[b,e2]at this;exact this h
theorem Em {s:Sl}{xs:List Nat}(h:cT s 1 (ints xs) U F)(hl:xs.length<=1000000)(v:Nat){R:aN}(h1:∀i:Nat,xs[i]?=some v->(∀j:Nat,j<i->xs[j]?≠some v)->R (i:Int) U)(h0:v∉xs->R (-1) U) :
 WF.c s (v:Int) U R:=by
 refine WF.o ?_;unfold WF.v;have x:=h.pJ;refine Qc (a:=bN) (λ(t:Int) w=>∃i:Nat,t=(i:Int)/\i<=xs.length/\w=U/\∀j,j<i->xs[j]?≠some v) (λt _=>xs.length-t.toNat) ⟨0,rfl,O,rfl,λj d=>O⟩ ?_;rintro t w ⟨i,rfl,B,rfl,b⟩;refine cP (λA=>?_) λz=>?_
 ·have p:i<xs.length:=by omega
  have g:xs[i]?=some xs[i]:=cU p;refine h.rH g ?_;rw[lR];refine cO (λu=>?_) λu=>?_
  ·have:v=xs[i]:=by simpa using u
   exact h1 i (by rw[g,this]) b
  ·have r:¬v=xs[i]:=by simpa using u
   refine cS (m:=i+1) O O ⟨⟨i+1,rfl,O,rfl,λj d=>?_⟩,O⟩;by_cases e:j=i
   ·subst e;rw[g];intro e2;cases e2;exact r rfl
   ·exact b j O
 ·refine h0 λy=>?_;obtain⟨j,d⟩:=zQ y;have:=(cX.1 d).1;exact b j O d
theorem J8 {s:Sl}{xs:List Nat}(h:cT s 1 (ints xs) U F)(hl:xs.length<=1000000)(v:Nat){R:aO}(hR:R (xs.contains v) U):Wp.c s (v:Int) U R:=by
 refine Wp.o ?_;unfold Wp.v;refine Em h hl v (λi a _=>?_) λb=>?_
 ·have:xs.contains v=true:=by simpa using zG a
  rw[this]at hR;rw[zJ O];exact hR
 ·have:xs.contains v=false:=by simpa using b
  rw[this]at hR;exact hR
theorem MS {s:Sl}{xs:List Int}(h:cT s 1 (xs.map (Value.int .i64)) U F)(hl:xs.length<=1000000000)(v:Int){R:aO}(hR:R (xs.contains v) U):Wp.c s v U R:=by
 refine Wp.o ?_;unfold Wp.v;refine WF.o ?_;unfold WF.v;have x:s.len=xs.length:=by have:=h.1;simp at this;omega
 refine Qc (a:=bN) (λ(t:Int) u=>∃i:Nat,t=(i:Int)/\i<=xs.length/\u=U/\∀j,j<i->xs[j]?≠some v) (λt _=>xs.length-t.toNat) ⟨0,rfl,O,rfl,λj d=>O⟩ ?_;rintro t u ⟨i,rfl,A,rfl,b⟩;refine cP (λz=>?_) λy=>?_
 ·have g:i<xs.length:=by omega
  have w:xs[i]?=some xs[i]:=cU g;refine h.mI w (cO (λr=>?_) λr=>?_)
  ·have e:v=xs[i]:=by simpa using r
   have:xs.contains v=true:=by rw[e];simp
   rw[this]at hR;show R (decide ((i:Int)≥0)) _;rw[zJ O];exact hR
  ·have p:¬v=xs[i]:=by simpa using r
   refine cS (m:=i+1) O O ⟨⟨i+1,rfl,O,rfl,λj d=>?_⟩,O⟩;by_cases e:j=i
   ·subst e;rw[w];intro e2;cases e2;exact p rfl
   ·exact b j O
 ·have:xs.contains v=false:=by
   simp only[r8,decide_eq_false_iff_not];intro hm;obtain⟨j,d⟩:=zQ hm;have:=(cX.1 d).1;exact b j O d
  rw[this]at hR;exact hR
def FF (f:Fv)(p:Nat->Bool)(U:Hp):Prop:=∀(x:Nat) (σ':Hp) (R:aO),aG U σ'->(∀σ'',aG σ' σ''->R (p x) σ'')->V5 Tryz.prog f [.int .i64 (x:Int)] [.one .b] σ' R
theorem G7 {s:Sl}{xs:List Nat}(h:cT s 1 (ints xs) U F)(hl:xs.length<=1000000){f:Fv}{pr:Nat->Bool}(hf:FF f pr U){R:aO}(hR:∀σ',aG U σ'->R (xs.any pr) σ') :
 Wx.c s f U R:=by
 refine Wx.o ?_;unfold Wx.v;refine WU.o ?_;unfold WU.v;have w:=h.pJ;refine Qc (a:=bN) (λ(t:Int) u=>∃i:Nat,t=(i:Int)/\i<=xs.length/\aG U u/\∀j x,j<i->xs[j]?=some x->pr x=false) (λt _=>xs.length-t.toNat) ⟨0,rfl,O,Ext.refl _ _,λj x p=>O⟩ ?_;rintro t u ⟨i,rfl,A,e,d⟩;refine cP (λz=>?_) λy=>?_
 ·have g:i<xs.length:=by omega
  have r:xs[i]?=some xs[i]:=cU g;refine(aH.bO h e).rH r (hf _ _ _ e λB e2=>?_);cases hp:pr xs[i]
  ·refine cB rfl (cS (m:=i+1) O O ⟨⟨i+1,rfl,O,e.trans e2,λj x p b=>?_⟩,O⟩);by_cases e3:j=i
   ·subst e3;rw[r]at b;cases b;exact hp
   ·exact d j x O b
  ·refine cC rfl ?_;have:xs.any pr=true:=kf.2 ⟨_,zp g,hp⟩;show R (decide ((i:Int)≥0)) _;rw[zJ O,←this];exact hR _ (e.trans e2)
 ·have:xs.any pr=false:=by
   rw[mg];intro x r;obtain⟨j,p⟩:=zQ r;have:=(cX.1 p).1;simp[d j x O p]
  show R (decide ((-1:Int)≥0)) _;rw[show decide ((-1:Int)≥0)=false from rfl,←this];exact hR _ e
theorem Ss {c:Nat}{s:Sl}{fr:List Nat}{σ0:Hp}(hb:bY σ0 c [.slice s.a s.len s.cap])(hs:cT s 1 (ints fr) σ0 F)(hl:fr.length<=1000):FF ⟨271,#[],#[.pointer (some ⟨c,0,none⟩)]⟩ (λx=>!fr.contains x) σ0:=by
 intro x σ' R e hR;refine pK (all := #[.int .i64 (x:Int),.pointer (some ⟨c,0,none⟩)]) (by kernel_rfl) aA ?_;refine Yw.o ?_;unfold Yw.v;refine(e.bT hb id).vd rfl ?_;exact J8 (aH.bO hs e) O x (hR _ (Ext.refl _ _))
theorem IP (h:ik U p q st)(a m:Int)(v:Nat){s:Sl}{fr:List Nat}(hs:cT s 1 (ints fr) U F)(hl:fr.length<=1000){R:aN}(hR:∀σ',Ext (· = q) U σ'->ik σ' p q (Uv st a m v fr)->R (oO st a m fr) σ') :
 XF.c (aW p) a m v s U R:=by
 refine XF.o ?_;unfold XF.v;have n2:=h.n2;have P:=h.lt.2;refine nw (cs:=[.slice s.a s.len s.cap]) λv1 N j E=>?_;have e:=h.bO j;have d:¬(0<=a/\1<=m/\m<=st.length-a)->R 1 v1:=λD=>by
  have b:Zj st.length a m=false:=by simp only[Zj,←ve];exact zN D
  have e1:oO st a m fr=1:=by simp[oO,b]
  have e2:Uv st a m v fr=st:=by simp[Uv,e1]
  have:=hR v1 j.to;rw[e1,e2]at this;exact this e
 refine Af e (cB rfl (bW.intro ?_));refine cP (λC=>bW.intro (cC rfl (bW.intro (cC rfl (cC rfl (d O)))))) λC=>?_;refine bW.intro (cP (λL=>bW.intro (cC rfl (cC rfl (d O)))) λL=>?_);refine bK (e.rS λcap w=>bW.intro (cP (λu=>cC rfl (d (by simp only at *;omega))) λu=>?_));simp only at u;refine bK (e.rS λcap w=>ar aC aC (cP (λB=>d (by simp only at *;omega)) λB=>?_));simp only at B;obtain⟨x,rfl⟩:=zc (show 0<=a by omega);obtain⟨y,rfl⟩:=zc (show 0<=m by omega);have i:x+y<=st.length:=by omega
 have b:Zj st.length (x:Int) (y:Int)=true:=by simp only[Zj,zF,zU];omega
 refine bK (e.rS λcap w=>cS (m:=x+y) O O (iQ O aC aC ?_));rw[zB aC];simp only[zZ,add_lit,ni,zH];have G:x+y-x=y:=by omega
 rw[G];have K:=e.part (s:=⟨some ⟨q,x,none⟩,y,cap-x⟩) (n:=y) rfl rfl i;refine G7 K aE (Ss (s:=s) E (aH.bO hs j) hl) λM e2=>?_;have A:=e.bO e2;have g:((st.drop x).take y).any (λz=>!fr.contains z) = !uo st x y fr:=by
  rw[uo,List.all_eq_not_any_not,Bool.not_not]
 rw[g];cases hA:uo st x y fr
 ·have e1:oO st (x:Int) (y:Int) fr=5:=by simp[oO,b,hA]
  have r:Uv st (x:Int) (y:Int) v fr=st:=by simp[Uv,e1]
  have:=hR M (j.to.trans e2.to);rw[e1,r]at this;exact cC rfl (this A)
 ·have e1:oO st (x:Int) (y:Int) fr=0:=by simp[oO,b,hA]
  have r:Uv st (x:Int) (y:Int) v fr=gD st x (x+y) v:=by simp[Uv,e1]
  refine cB rfl (A.jK i v λv3 J H=>?_);have:=hR v3 (j.to.trans (e2.to.trans J));rw[e1,r]at this;exact this H
theorem yG {h:Hp}{b:Nat}{xs:List Nat}{n c:Nat}(hb:bY h b (ints xs))(hn:n=xs.length):cT ⟨some ⟨b,0,none⟩,n,c⟩ 1 (ints xs) h (· = b):=
 hb.fX (o:=0) rfl (by rw[QS];simp[hn]) λj _=>by rw[zH]
theorem Oc (h:ik U p q st)(a m:Int){R:aN}(hR:∀σ',Ext (· = q) U σ'->ik σ' p q (Uv st a m 1 [2,3])->R (oO st a m [2,3]) σ'):XA.c (aW p) a m U R:=by
 refine XA.o ?_;unfold XA.v;refine nw (cs:=ints [2,3]) λv i e b=>?_;exact IP (h.bO e) a m 1 (yG b rfl) aA λσ' g d=>hR σ' (e.to.trans g) d
theorem Ni (h:ik U p q st)(a m:Int){R:aN}(hR:∀σ',Ext (· = q) U σ'->ik σ' p q (Uv st a m 2 [1])->R (oO st a m [1]) σ'):Xr.c (aW p) a m U R:=by
 refine Xr.o ?_;unfold Xr.v;refine nw (cs:=ints [1]) λv i e b=>?_;exact IP (h.bO e) a m 2 (yG b rfl) aA λσ' g d=>hR σ' (e.to.trans g) d
def x8 (st:List Nat)(x:Int):Int:=if 0<=x/\x<st.length then((st.getD x.toNat 0:Nat):Int)else -1
theorem TK (h:ik U p q st)(x:Int){R:aN}(hR:R (x8 st x) U):XR.c (aW p) x U R:=by
 refine XR.o ?_;unfold XR.v;have n2:=h.n2;unfold x8 at hR;refine Af h (bW.intro (cB rfl (bW.intro (cP (λg=>cC rfl ?_) λg=>bK (h.rS λcap i=>cP (λb=>?_) λb=>?_)))))
 ·rw[zB O]at hR;exact hR
 ·simp only at b;rw[zB O]at hR;exact hR
 ·simp only at b;rw[zC O]at hR;obtain⟨y,rfl⟩:=zc (show 0<=x by omega);refine bK (h.rS λcap i=>?_);have d:=h.part (s:=⟨some ⟨q,0,none⟩,st.length,cap⟩) (a:=0) (n:=st.length) rfl rfl O;rw[List.drop_zero,l0]at d;have e:y<st.length:=by omega
  refine d.rH (cU e) ?_;simpa[zP,cU e]using hR
theorem Hv {s:Sl}{vs:List Value}(h:cT s 1 vs U F)(h1:∀v∈vs,dO v=true)(hl:s.len<=1000000){R:Sl->Hp->Prop}
 (hR:∀s' σ',s'.len=s.len->aG U σ'->bR s' 1 vs σ' (λb=>U.size<=b)->R s' σ'):WE.c s U R:=by
 refine WE.o ?_;unfold WE.v;exact DM h aB rfl h1 aB hl hR
theorem SM {n:Nat}(h1:16<=n)(h2:n<=1024)(h3:n%16=0){R:Option Addr->Int->Hp->Prop}(hR:∀σ' p q,aG U σ'->U.size<=p->U.size<=q->ik σ' p q (List.replicate n 0)->R (some ⟨p,0,none⟩) 0 σ'):KD.c (n:Int) U R:=by
 refine KD.o ?_;unfold KD.v;refine bW.intro (fT O (bW.intro (fT O (nz aB ?_))));rw[Qq O];have:(((n:Int)%16) != 0)=false:=by
  have:((n:Int)%16)=0:=by omega
  rw[this];rfl
 rw[this];refine cB rfl (mk O O λv j e b=>nw (cs:=[.slice (some ⟨U.size,0,none⟩) n n]) λi d e2 a=>?_);have g:(List.replicate n [Value.int .i64 0]).flatten=ints (List.replicate n 0):=by
  have:[Value.int .i64 0]=ints [0]:=rfl;rw[this];clear b hR
  induction n with
  | zero=>rfl
  | succ n ih=>simp[vz,ints]
 rw[g]at b;refine hR _ _ _ (e.trans e2) O (zD _) ⟨⟨n,by simp,by simpa using a⟩,⟨[],by simpa using e2.bT b id⟩,O,by simpa using h1,by simpa using h2,by simpa using h3⟩
end Go.Ar
namespace Go.Proofs
open Go.Vc
set_option maxRecDepth 100000
def ZH.h:Hn:=.q .o1 (.q (.q .o3 .aJ) (.q (.cQ (.tail 10 (RI.ops 10) [.op])) .l))
def ZH.v (a:R2)(b:Hp)(c:Int->Int->Hp->Prop):Prop:=aV #[.I 0,.I 0] 251 b λd e=>Yp.c a e λf g=>If (!f) (aR d 0 (.I 0) g λh=>aR d 1 (.I 0) h λi=>aQ d 0 i λj=>aQ d 1 i λk=>c j k i) (bD a 0 g λm=>bV a λn=>bM ((n.add 1).add 1) g λo=>aR d 0 (.I m) g λp=>aR d 1 (.I o) p λq=>aQ d 0 q λr=>aQ d 1 q λs=>c r s q)
theorem ZH.o {a b c}(d:ZH.v a b c):ZH.c a b c:=Wa Tryz.func179 (x:=ZH.h) (R0 d)
def Yo.h:Hn:=.q .o1 (.q (.q .o3 .aK) (.q .o6 .l))
def Yo.v (a:R2)(b:Hp)(c:aN):Prop:=Yp.c a b λd e=>If (!d) (c 0 e) (bE a 4 e λg=>c ((g.len:Nat):Int) e)
theorem Yo.o {a b c}(d:Yo.v a b c):Yo.c a b c:=Wa Tryz.func182 (x:=Yo.h) (R0 d)
def Yp.h:Hn:=.q .o1 (.q (.cQ (.seq [.op,.op,.op,.cW true 6 (RI.ops 6),.op])) .l)
def Yp.v (a:R2)(b:Hp)(c:aO):Prop:=bW (λd e=>c d e) λf=>If (!a.isNone) (bE a 4 b λh=>f (decide (((h.len:Nat):Int)>0)) b) (f false b)
theorem Yp.o {a b c}(d:Yp.v a b c):Yp.c a b c:=Wa Tryz.func242 (x:=Yp.h) (R0 d)
def KE.h:Hn:=.q .o3 (.q .o7 (.q (.q (.cQ (.seq [.op,.op,.op,.cW false 2 [.op,.op],.op,.cW false 5 (RI.ops 5)])) .aJ) (.q (.cQ (.held true [] (.tk [0,1,2] (.all [(3,.take 4 (.all [(5,.take 6 (.take 7 (.done)))]))])))) .l)))
def KE.v (a b c d:Int)(e:Hp)(f:Option Addr->Int->Hp->Prop):Prop:=aV #[.I b,.I c,.I d] 137 e λg h=>aQ g 0 h λi=>aQ g 1 h λj=>aQ g 2 h λk=>Zx.c i j k h λl m n=>bW (λo p=>bW (λq r=>If q (f none 1 r) (dY r λs=>aS s g 0 λt=>aS s g 1 λu=>aS s g 2 λv=>Mk l l 8 3 [.I 0] r λw x=>And (s x) <| aV #[.I a,.I t,.I u,.I v,.slice w.a w.len w.cap,.I 0] 322 x λy z=>And (s z) <| f (some y) 0 z)) λaa=>If o (aa true p) (aQ g 1 p λab=>bL (1024-ab) λac=>aa (decide (a>ac)) p)) λad=>If (m != 0) (ad true n) (ad (decide (a<0)) n)
theorem KE.o {a b c d e f}(g:KE.v a b c d e f):KE.c a b c d e f:=Wa Tryz.func257 (x:=KE.h) (R0 g)
def Zy.h:Hn:=.q .o1 (.q .o8 (.q (.k (.q .o3 (.c .aL (.q .o9 .aK)))) (.q .o4 .aM)))
def Zy.v (a:R2)(b:Int)(c:Hp)(d:aN):Prop:=X7.c a b c λe f g=>If (f != 0) (d f g) (bE a 4 g λi=>Ix i.a i.len e 1 λj=>bM j g λk=>If (k==0) (d 9 g) (aV #[.I e] 3 g λl m=>Zd.c a 0 ⟨some l,1,1⟩ m λn=>d 0 n))
theorem Zy.o {a b c d}(e:Zy.v a b c d):Zy.c a b c d:=Wa Tryz.func278 (x:=Zy.h) (R0 e)
def Zo.h:Hn:=.q .o2 (.q (.q .o3 .aJ) (.q .o6 (.q (.q .o2 .aJ) (.q .o4 (.q .o5 .l)))))
def Zo.v (a:R2)(b:Hp)(c:Int->Int->Hp->Prop):Prop:=Yp.c a b λd e=>If (!d) (c 0 5 e) (bE a 4 e λg=>WF.c g 0 e λh i=>If (h<0) (c 0 6 i) (aV #[.I h] 3 i λj k=>Zd.c a 1 ⟨some j,1,1⟩ k λl=>Yn.c a h l λm n=>c m 0 n))
theorem Zo.o {a b c}(d:Zo.v a b c):Zo.c a b c:=Wa Tryz.func283 (x:=Zo.h) (R0 d)
def X2.h:Hn:=.q .o2 (.q (.q .o3 .aJ) (.q .o5 (.q (.q (.cQ (.gR false [] [(32,.one .b)] (.take 0 (.take 1 (.all [(2,.take 3 (.take 4 (.split 18 (.take 5 (.take 6 (.take 7 (.take 8 (.take 9 (.take 10 (.take 11 (.take 12 (.take 13 (.take 14 (.take 15 (.take 16 (.take 17 (.take 18 (.done))))))))))))))) (.take 5 (.take 6 (.take 7 (.take 8 (.take 11 (.take 12 (.take 13 (.take 14 (.all [(9,.take 10 (.all [(15,.take 16 (.take 17 (.take 18 (.done))))])),(15,.all [(9,.take 10 (.take 16 (.take 17 (.take 18 (.done)))))])]))))))))))))]))))) .aJ) (.q .o9 .l))))
def X2.v (a:R2)(b:Int)(c:Hp)(d:Int->Int->Hp->Prop):Prop:=Yp.c a c λe f=>If (!e) (d 0 5 f) (Yn.c a 0 f λg h=>bL (b-g) λi=>Jn [.b] (λ(j:Bool) k=>If j (d 0 8 k) (bV a λl=>bM ((l.add 1).add 0) k λm=>Nz m<|bL (i.tdiv m) λn=>d n 0 k)) λo=>Yn.c a 0 h λp q=>If (b<p) (o true q) (bV a λr=>bV a λs=>(aX r 4 q λt=>bM ((s.add 1).add 0) q λu=>bL (((t.len:Nat):Int)*u) λv=>o (decide (i≥v)) q) ∧ (bM ((s.add 1).add 0) q λw=>aX r 4 q λx=>bL (((x.len:Nat):Int)*w) λy=>o (decide (i≥y)) q)))
theorem X2.o {a b c d}(e:X2.v a b c d):X2.c a b c d:=Wa Tryz.func290 (x:=X2.h) (R0 e)
def Yv.h:Hn:=.q .o2 (.q .o8 (.q (.q .o2 (.c (.q .o3 .l) .l)) (.q .fP .l)))
def Yv.v (a:R2)(b:Int)(c:Hp)(d:Bool->Int->Hp->Prop):Prop:=X7.c a b c λe f g=>If (f != 0) (d false f g) (bE a 4 g λi=>Ix i.a i.len e 1 λj=>bM j g λk=>d (k==1) 0 g)
theorem Yv.o {a b c d}(e:Yv.v a b c d):Yv.c a b c d:=Wa Tryz.func292 (x:=Yv.h) (R0 e)
def X7.h:Hn:=.q .o2 (.q .o8 (.q (.q (.cQ (.seq [.op,.op,.op,.cW true 5 (RI.ops 5)])) .aJ) (.q .o4 .l)))
def X7.v (a:R2)(b:Int)(c:Hp)(d:Int->Int->Hp->Prop):Prop:=X2.c a b c λe f g=>bW (λh i=>If h (d 0 8 i) (d e f i)) λj=>If (f==0) (Yn.c a e g λk l=>j (k != b) l) (j false g)
theorem X7.o {a b c d}(e:X7.v a b c d):X7.c a b c d:=Wa Tryz.func304 (x:=X7.h) (R0 e)
def Zd.h:Hn:=.q .o3 (.k (.loop [(10,.I)] (.q .o1 (.q (.c .l .l) (.q (.k (.q .o3 (.q (.cQ (.tail 16 (RI.ops 16) [.op])) .o8))) .o2)))))
def Zd.v (a:R2)(b:Int)(c:Sl)(d:Hp)(e:aP):Prop:=XW [bN] (λf=>f 0 d) λg (h:Int) i=>If (h<((c.len:Nat):Int)) (Ix c.a c.len h 1 λj=>bM j i λk=>bD a 5 i λm=>bE a 4 i λo=>Ix o.a o.len k 1 λp=>bM p i λq=>bL (b-q) λr=>bL (m+r) λs=>bV a λt=>aR t 5 (.I s) i λu=>bE a 4 u λw=>Ix w.a w.len k 1 λx=>dU x (.I b) u λy=>bL (h+1) λz=>g z y) (e i)
theorem Zd.o {a b c d e}(f:Zd.v a b c d e):Zd.c a b c d e:=Wa Tryz.func305 (x:=Zd.h) (R0 f)
def Yn.h:Hn:=.q .o1 (.q (.oq 14) .l)
def Yn.v (a:R2)(b:Int)(c:Hp)(d:aN):Prop:=bD a 0 c λf=>bL (f*256) λg=>bV a λh=>bM ((h.add 1).add 0) c λi=>bL (b*i) λj=>bL (g+j) λk=>d k c
theorem Yn.o {a b c d}(e:Yn.v a b c d):Yn.c a b c d:=Wa Tryz.func306 (x:=Yn.h) (R0 e)
end Go.Proofs
namespace Go.Ar
open Go Go.Vc Go.Proofs
variable {U:Hp}{F:Rg}{p q:Nat}{c:bZ}{s:cF}
def nF (tk:List Bool):List Nat:=tk.map λb=>if b then 1 else 0
theorem vt (tk:List Bool):(nF tk).length=tk.length:=by simp[nF]
theorem Gj {tk:List Bool}{i:Nat}{b:Bool}(h:tk[i]?=some b):(nF tk)[i]?=some (if b then 1 else 0):=by simp[nF,h]
theorem My (tk:List Bool)(i:Nat)(b:Bool):nF (tk.set i b)=(nF tk).set i (if b then 1 else 0):=by simp[nF,xe]
structure ic (U:Hp) (p q:Nat) (c:bZ) (s:cF):Prop where
 hd:∃cap,c.n<=cap/\bY U p [.int .i64 (s.st:Int),.int .i64 (c.size:Int),.int .i64 (c.aF:Int),.int .i64 (c.batch:Int),.slice (some ⟨q,0,none⟩) c.n cap,.int .i64 (s.many:Int)]
 row:∃rest,bY U q (ints (nF s.tk)++rest)
 ne:p≠q
 len:s.tk.length=c.n
 ok:c.ok
 fit:s.st+c.aF<=1024
theorem ic.bS {σ':Hp}(h:ic U p q c s)(e:Ext F U σ')(hp:¬F p)(hq:¬F q):ic σ' p q c s:=
 ⟨by obtain⟨c,a,b⟩:=h.hd;exact⟨c,a,e.bT b hp⟩,by obtain⟨r,a⟩:=h.row;exact⟨r,e.bT a hq⟩,h.ne,h.len,h.ok,h.fit⟩
theorem ic.bO {σ':Hp}(h:ic U p q c s)(e:aG U σ'):ic σ' p q c s:=h.bS e id id
theorem ic.lt (h:ic U p q c s):p<U.size/\q<U.size:=by
 obtain⟨_,_,b⟩:=h.hd;obtain⟨_,a⟩:=h.row;exact⟨b.lt,a.lt⟩
theorem ic.rS (h:ic U p q c s){K:Sl->Prop}(hK:∀cap,c.n<=cap->K ⟨some ⟨q,0,none⟩,c.n,cap⟩):ju (Addr.add ⟨p,0,none⟩ 4) U K:=by
 obtain⟨b,d,a⟩:=h.hd;exact a.rS rfl (hK b d)
theorem ic.rI (h:ic U p q c s){i:Nat}{x:Int}(hx:∀a b:Value,([.int .i64 (s.st:Int),.int .i64 (c.size:Int),.int .i64 (c.aF:Int),.int .i64 (c.batch:Int),a,.int .i64 (s.many:Int)]:List Value)[0+i]?=some (.int .i64 x)){K:Int->Prop}(hK:K x):gE .i64 (Addr.add ⟨p,0,none⟩ i) U K:=by
 obtain⟨e,g,d⟩:=h.hd;exact d.rI (hx _ .nilFunc) hK
theorem ic.eZ (h:ic U p q c s){i j:Nat}{x:Int}(hx:∀a b:Value,([.int .i64 (s.st:Int),.int .i64 (c.size:Int),.int .i64 (c.aF:Int),.int .i64 (c.batch:Int),a,.int .i64 (s.many:Int)]:List Value)[0+i+j]?=some (.int .i64 x)){K:Int->Prop}(hK:K x):gE .i64 (Addr.add (Addr.add ⟨p,0,none⟩ i) j) U K:=by
 obtain⟨e,g,d⟩:=h.hd;exact d.eZ (hx _ .nilFunc) hK
theorem ic.lj (h:ic U p q c s)(cap:Nat):cT ⟨some ⟨q,0,none⟩,c.n,cap⟩ 1 (ints (nF s.tk)) U (· = q):=by
 obtain⟨r,b⟩:=h.row;refine b.fX (o:=0) rfl (by rw[QS,vt,h.len];simp) λj a=>?_;rw[zH,zh a]
theorem GX (h:ic U p q c s){R:aO}(hR:R true U):Yp.c (aW p) U R:=by
 refine Yp.o ?_;unfold Yp.v;refine bW.intro (cC rfl (bK (h.rS λcap _=>?_)));have:=h.ok.rU;rw[zJ aC];exact hR
theorem Jf (h:ic U p q c s){R:aN}(hR:R (c.n:Int) U):Yo.c (aW p) U R:=by
 refine Yo.o ?_;unfold Yo.v;exact GX h (cB rfl (bK (h.rS λcap _=>hR)))
theorem xN (h:ic U p q c s)(i:Nat)(hi:i<=1000){R:aN}(hR:R ((at_ c s i:Nat):Int) U):Yn.c (aW p) (i:Int) U R:=by
 refine Yn.o ?_;unfold Yn.v;have a:=h.ok;unfold bZ.ok at a;have:=h.fit;have b:i*c.size<=1000*512:=l5 hi O;refine bK (h.rI (λ_ _=>rfl) (cS (m:=s.st*256) aA O (bK (h.eZ (λ_ _=>rfl) ?_))));exact cS (m:=i*c.size) aA O (cS (m:=at_ c s i) (by simp[at_]) (by unfold at_;omega) hR)
theorem BL (h:ic U p q c s)(x:Int)(hx2:x<=9223372036854775807){R:Int->Int->Hp->Prop}(h1:∀i,idx c s x=some i->R (i:Int) 0 U)(h0:idx c s x=none->R 0 8 U):X2.c (aW p) x U R:=by
 refine X2.o ?_;unfold X2.v;have C:=h.ok;unfold bZ.ok at C;have A:=h.ok.kB;have u:=h.fit;have a:=h.len;have D:c.n*c.size<=128*512:=l5 A O;refine GX h (cB rfl (xN h 0 O ?_));have w:at_ c s 0=s.st*256:=by simp[at_]
 rw[w];refine xT ?_;refine Jn.intro (xN h 0 O ?_);rw[w];refine cP (λz=>cC rfl (h0 ?_)) λB=>?_
 ·unfold idx;rw[zC O]
 ·rw[UC O O];obtain⟨y,E⟩:=zc (show 0<=x by omega);have key:If (decide (x-((s.st*256:Nat):Int)≥((c.n*c.size:Nat):Int))) (R 0 8 U)
   (bV (some ⟨p,0,none⟩) λe=>gE .i64 ((e.add 1).add 0) U λb=>Nz b<|Ar .i64 ((x-((s.st*256:Nat):Int)).tdiv b) λg=>R g 0 U):=by
   refine cP (λr=>h0 ?_) λj=>bK (h.eZ (λ_ _=>rfl) (nz O ?_))
   ·unfold idx;rw[a,zC O]
   ·have:idx c s x=some ((x-((s.st*256:Nat):Int)).toNat/c.size):=by unfold idx;rw[a,zB O]
    refine cS (m:=(x-((s.st*256:Nat):Int)).toNat/c.size) ?_ ?_ (h1 _ this)
    ·rw[XX O];have:x-((s.st*256:Nat):Int)=(((x-((s.st*256:Nat):Int)).toNat:Nat):Int):=by omega
     rw[this];simp
    ·have:=Nat.div_le_self (x-((s.st*256:Nat):Int)).toNat c.size;omega
  refine bK (bK ⟨h.rS λcap d=>h.eZ (λ_ _=>rfl) (cS (m:=c.n*c.size) aA O key),h.eZ (λ_ _=>rfl) (h.rS λcap d=>cS (m:=c.n*c.size) aA O key)⟩)
theorem D0 (h:ic U p q c s)(x:Int)(hx2:x<=9223372036854775807){R:Int->Int->Hp->Prop}(h1:∀i,obj c s x=some i->i<c.n->R (i:Int) 0 U)(h0:obj c s x=none->R 0 8 U):X7.c (aW p) x U R:=by
 refine X7.o ?_;unfold X7.v;have g:=h.ok;unfold bZ.ok at g;have j:=h.ok.kB;refine BL h x hx2 (λi a=>bW.intro (cC rfl ?_)) λa=>bW.intro (cB rfl (cB rfl (h0 (by unfold obj;rw[a]))));have b:=((VV O).1 a).2.2;rw[h.len]at b;refine xN h i O (cO (λd=>h0 ?_) λd=>h1 i ?_ b)
 ·have:¬x=((at_ c s i:Nat):Int):=λe=>by rw[e]at d;simp at d
  unfold obj;rw[a];simp[this]
 ·have:x=((at_ c s i:Nat):Int):=by
   have:((at_ c s i:Nat):Int)=x:=by simpa using d
   exact this.symm
  unfold obj;rw[a];simp[this]
def cF.is (s:cF)(i:Nat):Bool:=s.tk.getD i false
theorem cF.lf {s:cF}{i:Nat}(hi:i<s.tk.length):s.tk[i]?=some (s.is i):=by
 simp[cF.is,zP,cU hi]
theorem Rp (h:ic U p q c s)(x:Int)(hx2:x<=9223372036854775807){R:Bool->Int->Hp->Prop}(h1:∀i,obj c s x=some i->R (s.is i) 0 U)(h0:obj c s x=none->R false 8 U):Yv.c (aW p) x U R:=by
 refine Yv.o ?_;unfold Yv.v;refine D0 h x hx2 (λi b a=>cB rfl (bK (h.rS λcap d=>?_))) λb=>cC rfl (h0 b);rw[←h.len]at a;refine(h.lj cap).rH (Gj (cF.lf a)) ?_;have:=h1 i b;cases hb:s.is i<;>rw[hb]at this<;>simpa using this
theorem GZ {s:cF}{i:Nat}(hi:i<s.tk.length)(v:Bool):((s.put i v).many:Int)=s.many+((if v then 1 else 0)-(if s.is i then 1 else 0)):=by
 have key:∀(l:List Bool) (i:Nat) (b:Bool),l[i]?=some b->(((l.set i v).count true:Nat):Int)=(l.count true:Nat)+((if v then 1 else 0)-(if b then 1 else 0)):=by
  intro l
  induction l with
  | nil=>intro i b h;simp at h
  | cons x l ih=>
   intro i b h;cases i with
   | zero=>
    simp at h;subst h;cases v<;>cases x<;>simp[List.count_cons]<;>omega
   | succ i=>
    have:=ih i b (by simpa using h);simp only[rZ,List.count_cons]
    push_cast
    omega
 exact key s.tk i _ (cF.lf hi)
theorem BA (s:cF):s.many<=s.tk.length:=List.count_le_length
theorem Ex (h:ic U p q c s){i:Nat}(hi:i<c.n)(v:Bool){sl:Sl}{G:Rg}(hs:cT sl 1 (ints [i]) U G){R:aP}(hR:∀σ',Ext (λb=>b=p\/b=q) U σ'->ic σ' p q c (s.put i v)->R σ') :
 Zd.c (aW p) (if v then 1 else 0) sl U R:=by
 refine Zd.o ?_;unfold Zd.v;have M:sl.len=1:=hs.pJ;have P:=h.ok.kB;have E:=h.len;have V:=BA s;have A:i<s.tk.length:=by omega
 have j:=GZ A v;refine Qc (a:=bN) (λ(t:Int) C=>t=0/\C=U\/t=1/\Ext (λb=>b=p\/b=q) U C/\ic C p q c (s.put i v)) (λt _=>1-t.toNat) (.inl ⟨rfl,rfl⟩) ?_;rintro t C (⟨rfl,rfl⟩|⟨rfl,e,N⟩)
 ·refine lF O ?_;refine hs.rH (i:=0) (x:=i) rfl (bK (h.rI (λ_ _=>rfl) (bK (h.rS λcap H=>?_))));refine(h.lj cap).rH (Gj (cF.lf A)) ?_;have L:(0:Int)<=(if v then 1 else 0)/\(if v then(1:Int)else 0)<=1:=by cases v<;>simp
  have K:(0:Int)<=((if s.is i then 1 else 0:Nat):Int)/\((if s.is i then 1 else 0:Nat):Int)<=1:=by cases s.is i<;>simp
  have g:((if s.is i then 1 else 0:Nat):Int)=(if s.is i then 1 else 0):=by cases s.is i<;>rfl
  refine ar O O (ar O O (bK ?_));obtain⟨J,D,hd⟩:=h.hd;obtain⟨r,u⟩:=h.row;refine hd.s1 aA λQ w y=>?_;have d:=Ws w u (Ne.symm h.ne);refine bK (y.rS rfl (ix O aC ?_));rw[add_lit];refine d.s0 (by simp[QS,vt];omega) λS z B=>?_;refine cS (m:=1) O O ⟨.inr ⟨rfl,?_,?_⟩,by decide⟩
  ·exact(Ext.eM (F:=λb=>b=p\/b=q) w (.inl rfl)).trans (Ext.eM z (.inr rfl))
  ·refine⟨⟨J,D,?_⟩,⟨r,?_⟩,h.ne,by simp[cF.put,h.len],h.ok,h.fit⟩
   ·have:=Ws z y h.ne;rw[j,←g];exact this
   ·have e:(ints (nF s.tk)++r).set (0+(i:Int).toNat*1) (.int .i64 (if v then 1 else 0))=ints (nF (s.put i v).tk)++r:=by
     rw[List.set_append_left _ _ (by simp[QS,vt];omega)]
     congr 1
     simp only[cF.put,My,ints,xe];have:(0+(i:Int).toNat*1)=i:=by omega
     rw[this]
     congr 1
     cases v<;>rfl
    rw[e]at B;exact B
 ·exact fT O (hR _ e N)
theorem RX (h:ic U p q c s){x:Int}{i:Nat}(hx2:x<=9223372036854775807)(ho:obj c s x=some i)(ht:s.is i=true){R:aN}(hR:∀σ',Ext (λb=>b=p\/b=q) U σ'->ic σ' p q c (s.put i false)->R 0 σ') :
 Zy.c (aW p) x U R:=by
 refine Zy.o ?_;unfold Zy.v;refine D0 h x hx2 (λj g d=>cB rfl (bK (h.rS λcap r=>?_))) λm=>by rw[ho]at m;cases m
 rw[ho]at g;cases g;have a:i<s.tk.length:=by rw[h.len];exact d
 refine(h.lj cap).rH (Gj (cF.lf a)) ?_;rw[ht];refine cB rfl (nw (cs:=ints [i]) λv z e w=>?_);have A:=h.lt;exact Ex (h.bO e) d false (yG w rfl) λσ' u y=>hR σ' (e.to.trans u) y
theorem Sg (h:ic U p q c s){i:Nat}(hlow:low s=some i){R:Int->Int->Hp->Prop}(hR:∀σ',Ext (λb=>b=p\/b=q) U σ'->ic σ' p q c (s.put i true)->R ((at_ c s i:Nat):Int) 0 σ') :
 Zo.c (aW p) U R:=by
 refine Zo.o ?_;unfold Zo.v;have E:=h.ok.kB;have d:=nm.1 hlow;obtain⟨m,A,B⟩:=d;have g:s.tk[i]=false:=by simpa using A
 refine GX h (cB rfl (bK (h.rS λcap z=>?_)));refine Em (h.lj cap) (by simp[vt,h.len];omega) 0 (λj u a=>?_) λa=>?_
 ·have r:j<s.tk.length:=by
   have:=(cX.1 u).1
   rwa [vt]at this
  have w:j=i:=by
   rcases pR j i with h1|h1|h1
   ·have:=B j h1;rw[Gj (cU r)]at u;have:s.tk[j]=true:=by simpa using this
    simp[this]at u
   ·exact h1
   ·exact absurd (by rw[Gj (cU m),g];rfl) (a i h1)
  subst w;rw[h.len]at m;refine fT O (nw (cs:=ints [j]) λv D e x=>?_);refine Ex (h.bO e) m true (yG x rfl) λσ' C y=>xN y j O (hR σ' (e.to.trans C) y)
 ·exfalso;apply a;exact zG (i:=i) (by rw[Gj (cU m),g];rfl)
theorem OJ (h:ic U p q c s){R:Int->Int->Hp->Prop}(hR:∀σ',aG U σ'->R (s.st:Int) (c.aF:Int) σ'):ZH.c (aW p) U R:=by
 refine ZH.o ?_;unfold ZH.v;refine nw (cs:=[.int .i64 0,.int .i64 0]) λv w e r=>?_;have j:=h.bO e;refine GX j (cB rfl (bK (j.rI (λ_ _=>rfl) (bK (j.eZ (λ_ _=>rfl) ?_)))));refine r.s1 aA λu b d=>d.s1 aA λv3 g a=>?_;refine a.rI rfl (a.rI rfl (hR _ ?_));exact Ext.fresh (Ext.fresh e (Ext.eM (F:=(· = U.size)) b rfl) λi m=>O) (Ext.eM (F:=(· = U.size)) g rfl) λi m=>by omega
theorem I3 (n:Nat):(List.replicate n [Value.int .i64 0]).flatten=ints (List.replicate n 0):=by
 induction n with
 | zero=>rfl
 | succ n ih=>simp only[vz,wc,ih];rfl
theorem Md (hc:c.ok){st:Nat}(hf:st+c.aF<=1024){R:Option Addr->Int->Hp->Prop}(hR:∀σ' p q,aG U σ'->U.size<=p->U.size<=q->ic σ' p q c ⟨st,List.replicate c.n false⟩->R (some ⟨p,0,none⟩) 0 σ') :
 KE.c (st:Int) c.size c.aF c.batch U R:=by
 refine KE.o ?_;unfold KE.v;have E:=hc;unfold bZ.ok at E;have L:=hc.kB;refine nw (cs:=[.int .i64 c.size,.int .i64 c.aF,.int .i64 c.batch]) λv K e y=>?_;refine y.rI rfl (y.rI rfl (y.rI rfl (EZ _ _ _ (λg H e1 e2 D B z=>?_) λs=>?_)))
 case refine_2=>rw[(C1 c).2 hc]at s;cases s
 have:g=c:=by
  obtain⟨a,b,d⟩:=c;obtain⟨N,J,M⟩:=g;simp only at e1 e2 D
  congr 1<;>omega
 subst this;have i:=z.bT y id;refine bW.intro (cB rfl (bW.intro (fT O (i.rI rfl (cS (m:=1024-g.aF) O O (fT O ?_))))));refine⟨λx=>bY x U.size [.int .i64 g.size,.int .i64 g.aF,.int .i64 g.batch],i,⟨_,λx w=>by rw[add_lit,w.cell];rfl,⟨_,λx w=>by rw[add_lit,w.cell];rfl,⟨_,λx w=>by rw[add_lit,w.cell];rfl,?_⟩⟩⟩⟩;refine mk O O λP C j u=>⟨j.bT i id,nw (cs:=[.int .i64 (st:Int),.int .i64 g.size,.int .i64 g.aF,.int .i64 g.batch,.slice (some ⟨B.size,0,none⟩) g.n g.n,.int .i64 0]) λv3 G r A=>⟨(j.trans r).bT i id,?_⟩⟩;rw[I3]at u;have F:=z.1;refine hR _ _ _ (((e.trans z).trans j).trans r) O (show U.size<=B.size by omega) ⟨⟨g.n,zD _,?_⟩,⟨[],?_⟩,O,by simp,hc,hf⟩
 ·have:cF.many ⟨st,List.replicate g.n false⟩=0:=by simp[cF.many,yN]
  rw[this];exact A
 ·have:nF (List.replicate g.n false)=List.replicate g.n 0:=by simp[nF]
  rw[this,kI];exact r.bT u id
end Go.Ar
namespace Go.Proofs
open Go.Vc
set_option maxRecDepth 100000
def XQ.h:Hn:=.q .o1 (.q (.q .o3 .aK) (.q .o1 (.q .fP .aL)))
def XQ.v (a:R2)(b:Hp)(c:Sl->Hp->Prop):Prop:=WJ.c a b λd e=>If (!d) (c ⟨none,0,0⟩ e) (aV #[.slice none 0 0] 181 e λf g=>bE a 3 g λi=>We.c i ⟨223,#[],#[.pointer (some f)]⟩ g λj k=>bV a λl=>aR l 3 (.slice j.a j.len j.cap) k λm=>ju f m λn=>c n m)
theorem XQ.o {a b c}(d:XQ.v a b c):XQ.c a b c:=Wa Tryz.func166 (x:=XQ.h) (R0 d)
def WJ.h:Hn:=.q .o1 (.q (.cQ (.seq [.op,.op,.op,.cW true 6 (RI.ops 6),.op])) .l)
def WJ.v (a:R2)(b:Hp)(c:aO):Prop:=bW (λd e=>c d e) λf=>If (!a.isNone) (bV a λg=>bM ((g.add 0).add 0) b λh=>f (decide (h>0)) b) (f false b)
theorem WJ.o {a b c}(d:WJ.v a b c):WJ.c a b c:=Wa Tryz.func178 (x:=WJ.h) (R0 d)
def Qf.h:Hn:=.q .o3 (.q (.q .o7 (.q .o2 .aJ)) (.q .o5 .l))
def Qf.v (a b c:Int)(d:Hp)(e:Option Addr->Int->Hp->Prop):Prop:=aV #[.I a,.I b,.I c] 137 d λf g=>aQ f 0 g λh=>aQ f 1 g λi=>aQ f 2 g λj=>Zx.c h i j g λk l m=>If (l != 0) (e none 1 m) (aQ f 0 m λn=>aQ f 1 m λo=>aQ f 2 m λp=>aV #[.I n,.I o,.I p,.slice none 0 0] 257 m λq r=>e (some q) 0 r)
theorem Qf.o {a b c d e}(f:Qf.v a b c d e):Qf.c a b c d e:=Wa Tryz.func199 (x:=Qf.h) (R0 f)
def W6.h:Hn:=.q .o2 (.q (.k (.q .o4 (.c .aL (.q .o3 .aJ)))) (.q .o1 (.q (.k (.loop [(6,.one .s)] (.q (.q .o4 (.c .l .l)) (.k (.q .o7 (.q (.q .o2 (.c .l .l)) .o5)))))) (.q .o3 .l))))
def W6.v (a:R2)(b:Int)(c:Hp)(d:Sl->Int->Hp->Prop):Prop:=WJ.c a c λe f=>If (!e) (d ⟨none,0,0⟩ 5 f) (If (b<0) (d ⟨none,0,0⟩ 1 f) (XW [.s] (λg=>g ⟨none,0,0⟩ f) λh (i:Sl) j=>If (((i.len:Nat):Int)<b) (YQ.c a j λk l m=>If (!l) (d i 0 m) (aV #[.I k] 3 m λn o=>App i 1 8 3 [.I 0] ⟨some n,1,1⟩ o λp q=>h p q)) (d i 0 j)))
theorem W6.o {a b c d}(e:W6.v a b c d):W6.c a b c d:=Wa Tryz.func208 (x:=W6.h) (R0 e)
def YT.h:Hn:=.q .o1 (.q (.q .o3 .aK) (.q (.o 11) (.q (.q .o2 .aJ) (.q (.q .o6 (.k (.loop [(31,.I)] (.q .o1 (.q (.c .l .l) (.q (.k (.q .o4 (.q (.oq 17) .aK))) .o2)))))) (.q (.o 11) (.q (.o 15) .aM))))))
def YT.v (a:R2)(b:Int)(c:Hp)(d:aN):Prop:=WJ.c a c λe f=>If (!e) (d 5 f) (bV a λg=>bM ((g.add 0).add 0) f λh=>bM ((g.add 0).add 1) f λi=>bM ((g.add 0).add 2) f λj=>KE.c b h i j f λk l m=>If (l != 0) (d l m) (bE a 3 m λo=>XW [bN] (λp=>p 0 m) λq (r:Int) s=>If (r<((o.len:Nat):Int)) (Ix o.a o.len r 3 λt=>aQ t 0 s λu=>aQ t 1 s λv=>aY t 2 s λw=>aV #[.I 0,.I 0,.pointer none] 262 s λx y=>aR x 0 (.I u) y λz=>aR x 1 (.I v) z λaa=>aR x 2 (.pointer w) aa λab=>bM ((x.add 0).add 1) ab λac=>bM ((x.add 0).add 1) ab λad=>bL ((if b>ac then b else ac)-(if b<ad then b else ad)) λae=>bV a λaf=>bM ((af.add 0).add 1) ab λag=>If (ae<ag) (d 9 ab) (bL (r+1) λah=>q ah ab)) (bE a 3 s λaj=>Wb.c aj b ⟨259,#[],#[]⟩ s λak al am=>bE a 3 am λao=>aV #[.I 0,.I b,.pointer k] 262 am λap aq=>Wg.c ao ak ⟨some ap,1,1⟩ aq λar au=>bV a λav=>aR av 3 (.slice ar.a ar.len ar.cap) au λaw=>d 0 aw)))
theorem YT.o {a b c d}(e:YT.v a b c d):YT.c a b c d:=Wa Tryz.func210 (x:=YT.h) (R0 e)
def XT.h:Hn:=.q .o2 (.kA [] (.q .o4 (.c (.cQ (.held true [6] (.tk [0,1,2] (.all [(3,.all [(4,.all [(5,.all [(6,.done)])])])])))) .l)) (.q .o5 .l))
def XT.v (a b:Int)(c:R2)(d:Addr)(e:Hp)(f:aO):Prop:=aV #[.I a,.I b,.pointer c] 262 e λg h=>Jn [] (λi=>bM ((g.add 0).add 0) i λj=>f (j==0) i) λk=>bM ((g.add 0).add 0) h λl=>If (l==0) (dY h λm=>gG m .s d λ(n:Sl)=>aU m g 2 λo=>ZH.c o h λp q r=>And (m r) <| aV #[.I p,.I q] 251 r λs t=>And (m t) <| App n 2 16 251 [.I 0,.I 0] ⟨some s,1,1⟩ t λu v=>And (m v) <| dU d (.slice u.a u.len u.cap) v λw=>k w) (k h)
theorem XT.o {a b c d e f}(g:XT.v a b c d e f):XT.c a b c d e f:=Wa Tryz.func223 (x:=XT.h) (R0 g)
def YM.h:Hn:=.q .o2 (.q (.q .o3 .aJ) (.q .o1 (.q (.q .o3 (.k (.loop [(6,.one .b),(19,.I)] (.q .o1 (.q (.c .l .l) (.q (.k (.q .o5 (.q .o8 (.q (.q .o2 (.c (.q .o3 .l) .l)) (.cQ (.seq [.op,.op,.cW false 2 [.op,.op],.op,.cW false 5 (RI.ops 5),.op])))))) .o2)))))) (.q (.q .o1 .aJ) (.q (.q .o3 (.k (.loop [(49,.I)] (.q .o1 (.q (.c .l .l) (.q (.k (.q .o3 (.q .o4 (.q .o6 .fP)))) .o2)))))) (.q .o4 .l))))))
def YM.v (a:R2)(b:Sl)(c:Hp)(d:Sl->Int->Hp->Prop):Prop:=WJ.c a c λe f=>If (!e) (d ⟨none,0,0⟩ 5 f) (XW [.b,bN] (λg=>g false 0 f) λh (i:Bool) (j:Int) k=>If (j<((b.len:Nat):Int)) (Ix b.a b.len j 1 λl=>bM l k λm=>W3.c a m k λn o p=>If (o != 0) (d ⟨none,0,0⟩ o p) (bW (λq r=>bW (λs t=>bL (j+1) λu=>h s u t) λv=>If q (v true r) (eX b 1 0 j (b.cap:Nat) λw=>Wp.c w m r λx y=>v x y)) λz=>If i (z true p) (z (!n) p))) (If i (d ⟨none,0,0⟩ 9 k) (XW [bN] (λaa=>aa 0 k) λab (ac:Int) ad=>If (ac<((b.len:Nat):Int)) (Ix b.a b.len ac 1 λae=>bM ae ad λaf=>XI.c a af ad λag ah=>bF ag 2 ah λaj=>Zy.c aj af ah λak al=>bV ag λam=>bM ((am.add 0).add 0) al λan=>bL (an-1) λao=>bV ag λap=>dU ((ap.add 0).add 0) (.I ao) al λaq=>bL (ac+1) λar=>ab ar aq) (XQ.c a ad λau av=>d au 0 av))))
theorem YM.o {a b c d}(e:YM.v a b c d):YM.c a b c d:=Wa Tryz.func241 (x:=YM.h) (R0 e)
def YQ.h:Hn:=.q .o2 (.q .o1 (.q (.q .o6 (.k (.loop [(4,.one .p),(14,.I)] (.q .o1 (.q (.c .l .l) (.q (.k (.q .o2 (.q .o7 (.q (.cQ (.gR true [] [(48,.one .b)] (.tk [0,1,2,3,4,5,6,7,8] (.all [(9,.take 10 (.take 11 (.split 34 (.take 12 (.take 13 (.take 14 (.split 37 (.take 15 (.take 16 (.take 17 (.take 18 (.take 19 (.take 20 (.take 21 (.take 22 (.take 23 (.take 24 (.take 25 (.done)))))))))))) (.take 15 (.take 16 (.take 17 (.take 19 (.take 20 (.take 21 (.all [(18,.all [(22,.all [(23,.take 24 (.take 25 (.done)))])]),(22,.all [(18,.all [(23,.take 24 (.take 25 (.done)))])])]))))))))))) (.take 12 (.take 13 (.take 14 (.take 15 (.take 16 (.take 17 (.take 18 (.take 19 (.take 20 (.take 21 (.take 22 (.take 23 (.take 24 (.take 25 (.done))))))))))))))))))])))) (.c .o2 .l))))) .o2)))))) (.q (.q .o2 .aJ) (.q .fP (.q .fP (.q .o3 .l))))))
def YQ.v (a:R2)(b:Hp)(c:Int->Bool->Hp->Prop):Prop:=bE a 3 b λe=>XW [.p,bN] (λf=>f none 0 b) λg (h:R2) (i:Int) j=>If (i<((e.len:Nat):Int)) (bE a 3 j λl=>Ix l.a l.len i 3 λm=>Jn [.b] (λ(n:Bool) o=>If n (bL (i+1) λp=>g (some m) p o) (bL (i+1) λq=>g h q o)) λr=>dY j λs=>bV (some m) λt=>gG s bN ((t.add 0).add 0) λ(u:Int)=>bV (some m) λv=>aU s v 2 λw=>Yo.c w j λx y=>And (s y) <| If (u<x) (If h.isNone (r true y) (bV (some m) λz=>bV h λaa=>(bM ((z.add 0).add 0) y λab=>bM ((z.add 0).add 1) y λac=>And (s y) <| bM ((aa.add 0).add 0) y λad=>bM ((aa.add 0).add 1) y λae=>And (s y) <| WY.c ab ac ad ae y λaf ag=>And (s ag) <| r af ag) ∧ (bM ((aa.add 0).add 0) y λah=>bM ((aa.add 0).add 1) y λai=>And (s y) <| bM ((z.add 0).add 0) y λaj=>bM ((z.add 0).add 1) y λak=>And (s y) <| WY.c aj ak ah ai y λal am=>And (s am) <| r al am))) (r false y)) (If h.isNone (c 0 false j) (bF h 2 j λao=>Zo.c ao j λap aq ar=>bV h λau=>bM ((au.add 0).add 0) ar λav=>bL (av+1) λaw=>bV h λax=>dU ((ax.add 0).add 0) (.I aw) ar λay=>c ap true ay))
theorem YQ.o {a b c}(d:YQ.v a b c):YQ.c a b c:=Wa Tryz.func252 (x:=YQ.h) (R0 d)
def YH.h:Hn:=.q .o2 (.q .o6 .l)
def YH.v (a b:Int)(c:R2)(d:Int)(e:Hp)(f:aN):Prop:=aV #[.I a,.I b,.pointer c] 262 e λg h=>bM ((g.add 0).add 1) h λi=>bL (i-d) λj=>f j h
theorem YH.o {a b c d e f}(g:YH.v a b c d e f):YH.c a b c d e f:=Wa Tryz.func259 (x:=YH.h) (R0 g)
def Yr.h:Hn:=.q .o2 (.q (.q .o3 .aJ) (.q .o4 (.q (.q .o2 .aJ) (.q (.o 11) (.q (.oq 16) .l)))))
def Yr.v (a:R2)(b:Int)(c:Hp)(d:Int->Int->Hp->Prop):Prop:=WJ.c a c λe f=>If (!e) (d 0 5 f) (XI.c a b f λg h=>If g.isNone (d 0 8 h) (bF g 2 h λj=>X2.c j b h λk l m=>bV g λn=>bM ((n.add 0).add 1) m λo=>bL (o*256) λp=>bV a λq=>bM ((q.add 0).add 0) m λr=>bL (k*r) λs=>bL (p+s) λt=>d t 0 m))
theorem Yr.o {a b c d}(e:Yr.v a b c d):Yr.c a b c d:=Wa Tryz.func262 (x:=Yr.h) (R0 e)
def W3.h:Hn:=.q .o2 (.q (.q .o3 .aJ) (.q .o4 (.q (.q .o2 .aJ) (.q .fP .l))))
def W3.v (a:R2)(b:Int)(c:Hp)(d:Bool->Int->Hp->Prop):Prop:=WJ.c a c λe f=>If (!e) (d false 5 f) (XI.c a b f λg h=>If g.isNone (d false 8 h) (bF g 2 h λj=>Yv.c j b h λk l m=>d k l m))
theorem W3.o {a b c d}(e:W3.v a b c d):W3.c a b c d:=Wa Tryz.func265 (x:=W3.h) (R0 e)
def XI.h:Hn:=.q .o1 (.q (.q .o6 (.k (.loop [(13,.I)] (.q .o1 (.q (.c .l .l) (.q (.k (.q .o2 (.q (.o 15) (.q .o2 (.c (.q .o7 .l) .l))))) .o2)))))) .aM)
def XI.v (a:R2)(b:Int)(c:Hp)(d:Option Addr->Hp->Prop):Prop:=bE a 3 c λf=>XW [bN] (λg=>g 0 c) λh (i:Int) j=>If (i<((f.len:Nat):Int)) (bE a 3 j λl=>Ix l.a l.len i 3 λm=>aY m 2 j λn=>X2.c n b j λo p q=>If (p==0) (bE a 3 q λs=>Ix s.a s.len i 3 λt=>d (some t) q) (bL (i+1) λu=>h u q)) (d none j)
theorem XI.o {a b c d}(e:XI.v a b c d):XI.c a b c d:=Wa Tryz.func277 (x:=XI.h) (R0 e)
def WY.h:Hn:=.q .o3 (.q (.cQ (.seq [.op,.op,.op,.op,.op,.op,.cW false 12 [.op,.op,.op,.op,.op,.op,.cW true 5 (RI.ops 5)],.op])) .l)
def WY.v (a b c d:Int)(e:Hp)(f:aO):Prop:=aV #[.I a,.I b] 259 e λg h=>aV #[.I c,.I d] 259 h λi j=>aQ g 0 j λk=>aQ i 0 j λl=>bW (λm n=>f m n) λo=>If (k>l) (o true j) (aQ g 0 j λp=>aQ i 0 j λq=>bW (λr s=>o r s) λt=>If (p==q) (aQ g 1 j λu=>aQ i 1 j λv=>t (decide (u<v)) j) (t false j))
theorem WY.o {a b c d e f}(g:WY.v a b c d e f):WY.c a b c d e f:=Wa Tryz.func282 (x:=WY.h) (R0 g)
end Go.Proofs
namespace Go.Ar
open Go Go.Vc Go.Proofs
variable {U:Hp}{F:Rg}{p:Nat}{c:bZ}{ps:List (Nat×Nat)}{ss:List cF}
def eA (ps:List (Nat×Nat)):List Nat:=ps.flatMap λx=>[x.1,x.2]
theorem Hg {ps:List (Nat×Nat)}{b:Nat}:b∈eA ps↔∃x∈ps,b=x.1\/b=x.2:=by simp[eA]
def dQ:List (Nat×Nat)->List cF->List Value
 | x::ps,s::ss=>.int .i64 (s.many:Int) :: .int .i64 (s.st:Int) :: .pointer (some ⟨x.1,0,none⟩)::dQ ps ss
 | _,_=>[]
theorem Ka:∀{ps:List (Nat×Nat)} {ss:List cF},ps.length=ss.length->(dQ ps ss).length=3*ss.length
 | [],[],_=>rfl
 | x::ps,s::ss,h=>by simp only[dQ,zX]at *;rw[Ka O];omega
theorem QN:∀{ps:List (Nat×Nat)} {ss:List cF} {i:Nat} {x:Nat×Nat} {s:cF},ps[i]?=some x->ss[i]?=some s →
 (dQ ps ss)[3*i]?=some (.int .i64 (s.many:Int))/\(dQ ps ss)[3*i+1]?=some (.int .i64 (s.st:Int))/\(dQ ps ss)[3*i+2]?=some (.pointer (some ⟨x.1,0,none⟩))
 | [],_,_,_,_,h,_=>by simp at h
 | _::_,[],_,_,_,_,h=>by simp at h
 | y::ps,t::ss,0,x,s,h1,h2=>by simp at h1 h2;subst h1;subst h2;simp[dQ]
 | y::ps,t::ss,i+1,x,s,h1,h2=>by
  have:=QN (ps:=ps) (ss:=ss) (i:=i) (by simpa using h1) (by simpa using h2);simp only[dQ];rw[show 3*(i+1)=3*i+3 by omega];simpa using this
theorem Vk:∀{ps ps':List (Nat×Nat)} {ss ss':List cF},ps.length=ss.length->dQ (ps++ps') (ss++ss')=dQ ps ss++dQ ps' ss'
 | [],_,[],_,_=>rfl
 | x::ps,_,s::ss,_,h=>by simp only[lu,dQ,Vk (ps:=ps) (ss:=ss) (by simpa using h)]
theorem CT:∀{ps:List (Nat×Nat)} {ss:List cF},∀v∈dQ ps ss,dO v=true
 | [],_,v,h=>by simp[dQ]at h
 | _::_,[],v,h=>by simp[dQ]at h
 | x::ps,s::ss,v,h=>by
  simp only[dQ,zV]at h;rcases h with rfl|rfl|rfl|h
  ·rfl
  ·rfl
  ·rfl
  ·exact CT v h
structure fC (U:Hp) (F:Rg) (p:Nat) (c:bZ) (ps:List (Nat×Nat)) (ss:List cF):Prop where
 hd:∃sl:Sl,bY U p [.int .i64 (c.size:Int),.int .i64 (c.aF:Int),.int .i64 (c.batch:Int),.slice sl.a sl.len sl.cap]/\bR sl 3 (dQ ps ss) U (λb=>F b/\b≠p/\b∉eA ps)
 sp:∀(i:Nat) (x:Nat×Nat) s,ps[i]?=some x->ss[i]?=some s->ic U x.1 x.2 c s
 fp:F p
 fb:∀b∈eA ps,F b
 nd:(p::eA ps).Nodup
 len:ps.length=ss.length
 ok:c.ok
 mM:ss.Pairwise (λa b=>a.st<b.st)
theorem fC.loc:dM λU F=>fC U F p c ps ss:=λU B F G h H m=>by
 obtain⟨sl,a,w⟩:=h.hd;have bS:∀b,b<U.size->F b->B[b]?=U[b]? := λb a d=>(m b a d).2;have z:∀{b:Nat} {cs:List Value},bY U b cs->F b->bY B b cs:=by
  rintro b cs ⟨e,D⟩ d;exact⟨e,(bS b (bY.lt ⟨e,D⟩) d).trans D⟩
 have lt:∀b∈eA ps,b<U.size:=by
  intro b a;obtain⟨x,j,A⟩:=Hg.1 a;obtain⟨i,C⟩:=zQ j;have u:=(cX.1 C).1;have:=(h.sp i x _ C (cU (by rw[←h.len];exact u))).lt;rcases A with rfl|rfl
  ·exact this.1
  ·exact this.2
 refine⟨⟨sl,z a h.fp,bR.loc _ _ _ _ _ _ _ w H λb a d=>⟨⟨(m b a d.1).1,d.2⟩,(m b a d.1).2⟩⟩,λi x s j y=>?_,(m p a.lt h.fp).1,λb a=>(m b (lt b a) (h.fb b a)).1,h.nd,h.len,h.ok,h.mM⟩;have g:=h.sp i x s j y;have L:x.1∈eA ps:=Hg.2 ⟨x,zG j,.inl rfl⟩;have K:x.2∈eA ps:=Hg.2 ⟨x,zG j,.inr rfl⟩;obtain⟨E,J,hd⟩:=g.hd;obtain⟨r,w⟩:=g.row;exact⟨⟨E,J,z hd (h.fb _ L)⟩,⟨r,z w (h.fb _ K)⟩,g.ne,g.len,g.ok,g.fit⟩
theorem fC.bO {σ':Hp}(h:fC U F p c ps ss)(e:aG U σ'):fC σ' F p c ps ss:=dM.bO fC.loc h e
theorem fC.qf (h:fC U F p c ps ss):ss.length<=1024:=by
 have key:∀i (hi:i<ss.length),i<=ss[i].st:=by
  intro i
  induction i with
  | zero=>intro _;omega
  | succ i ih=>
   intro hi;have e:=ih O;have d:=k6.1 h.mM i (i+1) O hi O;omega
 rcases Au ss.length with h0|h0
 ·omega
 ·have a:ss.length-1<ss.length:=by omega
  have e:=key _ a;have b:ss.length-1<ps.length:=by rw[h.len];exact a
  have d:=(h.sp _ _ _ (cU b) (cU a)).fit;have:=h.ok.2.2.2.1;omega
structure sq (U:Hp) (F:Rg) (p:Nat) (ps:List (Nat×Nat)) (ss:List cF) (sl:Sl) (rb:Nat) (cs:List Value):Prop where
 a:sl.a=some ⟨rb,0,none⟩
 bT:bY U rb cs
 fr:F rb/\rb≠p/\rb∉eA ps
 get:∀{j:Nat} {v:Value},(dQ ps ss)[j]?=some v->cs[j]?=some v
 Cd:3*ss.length<=cs.length
theorem fC.sl (h:fC U F p c ps ss):∃sl:Sl,bY U p [.int .i64 (c.size:Int),.int .i64 (c.aF:Int),.int .i64 (c.batch:Int),.slice sl.a sl.len sl.cap]/\sl.len=ss.length/\(ss≠[]->∃rb cs,sq U F p ps ss sl rb cs):=by
 obtain⟨sl,r,g⟩:=h.hd;have m:=g.1;rw[Ka h.len]at m;refine⟨sl,r,O,λe=>?_⟩;have i:0<ss.length:=qe.2 e;rcases g.2 with⟨h0,_⟩|⟨b,cs,hq,ha,hbb,hle,hcl,ht⟩
 ·omega
 ·refine⟨b,cs,ha,hbb,hq,λ{j v} d=>?_,?_⟩
  ·rw[←ht,zk]at d;split at d
   ·exact d
   ·cases d
  ·have:=congrArg List.length ht;rw[za,Ka h.len]at this;omega
theorem fC.jC (h:fC U F p c ps ss){i:Nat}(hi:i<ss.length):∃x s,ps[i]?=some x/\ss[i]?=some s/\ic U x.1 x.2 c s:=by
 have a:i<ps.length:=by rw[h.len];exact hi
 have b:ps[i]?=some ps[i]:=cU a;exact⟨_,_,b,cU hi,h.sp i _ _ b (cU hi)⟩
theorem VX (h:fC U F p c ps ss){R:aO}(hR:R true U):WJ.c (aW p) U R:=by
 refine WJ.o ?_;unfold WJ.v;obtain⟨sl,a,e,d⟩:=h.sl;have b:=h.ok;unfold bZ.ok at b;refine bW.intro (cC rfl (bK (a.eZ rfl ?_)));rw[zJ O];exact hR
def iG (x:Int):Prop:=x<=9223372036854775807
theorem CL (h:fC U F p c ps ss)(x:Int)(hx:iG x){R:Option Addr->Hp->Prop}(h0:kL c ss x=none->R none U)
 (h1:∀(i:Nat) sl rb cs,kL c ss x=some i->i<ss.length->bY U p [.int .i64 (c.size:Int),.int .i64 (c.aF:Int),.int .i64 (c.batch:Int),.slice sl.a sl.len sl.cap]->sq U F p ps ss sl rb cs->R (some ⟨rb,3*i,none⟩) U):XI.c (aW p) x U R:=by
 refine XI.o ?_;unfold XI.v;obtain⟨sl,A,Q,H⟩:=h.sl;have G:=h.qf;refine bK (A.rS rfl ?_);refine Qc (a:=bN) (λ(t:Int) D=>∃i:Nat,t=(i:Int)/\i<=ss.length/\D=U/\∀(j:Nat) s,j<i->ss[j]?=some s->idx c s x=none) (λt _=>ss.length-t.toNat) ⟨0,rfl,O,rfl,λj s y=>O⟩ ?_;rintro t D ⟨i,rfl,S,rfl,g⟩;refine cP (λC=>?_) λB=>?_
 ·simp only at C;have b:i<ss.length:=by omega
  obtain⟨L,s,J,z,P⟩:=h.jC b;obtain⟨rb,cs,E⟩:=H (by rintro rfl;simp at b);have N:=QN J z;refine bK (A.rS rfl ?_);rw[E.a];refine ix O O ?_;rw[add_lit];refine E.bT.rP (x:=some ⟨L.1,0,none⟩) ?_ ?_
  ·have:=E.get N.2.2;rw[show 0+(i:Int).toNat*3+2=3*i+2 by omega];exact this
  have w:∀r,idx c s x=some r->kL c ss x=some i:=by
   intro r u;refine nm.2 ⟨b,?_,λj y=>?_⟩
   ·have:ss[i]=s:=by rw[cU b]at z;simpa using z
    rw[this,u];rfl
   ·rw[g j _ y (cU O)];simp
  refine BL P x hx (λr u=>cC rfl (bK (A.rS rfl ?_))) λK=>cB rfl ?_
  ·rw[E.a];refine ix O O ?_;rw[add_lit,show 0+(i:Int).toNat*3=3*i by omega];exact h1 i sl rb cs (w r u) b A E
  ·refine cS (m:=i+1) O O ⟨⟨i+1,rfl,O,rfl,λj M y d=>?_⟩,O⟩;by_cases e:j=i
   ·subst e;rw[z]at d;cases d;exact K
   ·exact g j M O d
 ·refine h0 ?_;refine uh.2 λs z=>?_;obtain⟨j,y⟩:=zQ z;have:=(cX.1 y).1;rw[g j s (by simp only at B;omega) y];rfl
theorem VI {x:Int}{k:Nat}{s:cF}(hk:kL c ss x=some k)(hs:ss[k]?=some s):eB c ss x=(obj c s x).map s.is:=by
 unfold eB;rw[hk];simp only[hs];rfl
theorem Cg {x:Int}(hk:kL c ss x=none):eB c ss x=none:=by unfold eB;rw[hk]
theorem FC (h:fC U F p c ps ss)(x:Int)(hx:iG x){R:Bool->Int->Hp->Prop}(h1:∀b,eB c ss x=some b->R b 0 U)(h0:eB c ss x=none->R false 8 U):W3.c (aW p) x U R:=by
 refine W3.o ?_;unfold W3.v;refine VX h (cB rfl (CL h x hx (λa=>cC rfl (h0 (Cg a))) λi sl B A d m C E=>cB rfl (bK ?_)));obtain⟨z,s,u,g,y⟩:=h.jC m;have w:=QN u g;refine E.bT.rP (x:=some ⟨z.1,0,none⟩) (E.get w.2.2) ?_;have e:=VI d g;exact Rp y x hx (λj r=>h1 _ (by rw[e,r];rfl)) λa=>h0 (by rw[e,a];rfl)
theorem HP {x:Int}{k:Nat}{s:cF}(hk:kL c ss x=some k)(hs:ss[k]?=some s):qX c ss x=(idx c s x).map (at_ c s):=by
 unfold qX;rw[hk];simp only[hs]
theorem Dc {x:Int}(hk:kL c ss x=none):qX c ss x=none:=by unfold qX;rw[hk]
theorem TH {x:Int}{k:Nat}{s:cF}(hk:kL c ss x=some k)(hs:ss[k]?=some s):∃i,idx c s x=some i:=by
 obtain⟨b,a,_⟩:=nm.1 hk;have:ss[k]=s:=by rw[cU b]at hs;simpa using hs
 rw[this]at a;exact qi.1 a
theorem LJ (h:fC U F p c ps ss)(x:Int)(hx:iG x){R:Int->Int->Hp->Prop}(h1:∀a,qX c ss x=some a->R (a:Int) 0 U)(h0:qX c ss x=none->R 0 8 U):Yr.c (aW p) x U R:=by
 refine Yr.o ?_;unfold Yr.v;refine VX h (cB rfl (CL h x hx (λd=>cC rfl (h0 (Dc d))) λi sl M L e D H E=>cB rfl (bK ?_)));obtain⟨B,s,A,j,w⟩:=h.jC D;have z:=QN A j;obtain⟨r,g⟩:=TH e j;have C:=HP e j;have G:=h.ok;unfold bZ.ok at G;have u:=((VV O).1 g).2.2;rw[w.len]at u;have d:=h.ok.kB;have y:=w.fit;have K:r*c.size<=128*512:=l5 O O;refine E.bT.rP (x:=some ⟨B.1,0,none⟩) (E.get z.2.2) ?_;refine BL w x hx (λJ b=>?_) λd=>by rw[g]at d;cases d
 rw[g]at b;cases b;refine bK (E.bT.eZ (x:=s.st) (E.get z.2.1) (cS (m:=s.st*256) aA O (bK (H.eZ rfl ?_))));refine cS (m:=r*c.size) aA O (cS (m:=at_ c s r) (by simp[at_]) (by unfold at_;omega) (h1 _ (by rw[C,g];rfl)))
theorem vO {h:Hp}{rb i:Nat}{cs:List Value}{x y:Int}{z:Option Addr}{e:Nat}(hb:bY h rb cs)(h0:cs[3*i]?=some (.int .i64 x))(h1:cs[3*i+1]?=some (.int .i64 y))(h2:cs[3*i+2]?=some (.pointer z))
 {K:Int->Int->Option Addr->Prop} (hK:K x y z):gE .i64 (Addr.add ⟨rb,3*i,none⟩ 0) h λu=>gE .i64 (Addr.add ⟨rb,3*i,none⟩ 1) h λv=>fW (Addr.add ⟨rb,3*i,none⟩ 2) h λw=>K u v w:=
 hb.rI h0 (hb.rI h1 (hb.rP h2 hK))
theorem FM {h:Hp}{x y:Int}{z:Option Addr}{e:Nat}{K:Addr->Hp->Prop}(hK:∀h',aG h h'->bY h' h.size [.int .i64 x,.int .i64 y,.pointer z]->K ⟨h.size,0,none⟩ h') :
 Nw (.cells #[.int .i64 0,.int .i64 0,.pointer none] e (0,0)) h λn v=>dU (n.add 0) (.int .i64 x) v λv1=>dU (n.add 1) (.int .i64 y) v1 λv2=>dU (n.add 2) (.pointer z) v2 λv3=>K n v3:=by
 refine nw (cs:=[.int .i64 0,.int .i64 0,.pointer none]) λv m e g=>g.s1 aA λv1 o1 d=>d.s1 aA λv2 o2 b=>b.s1 aA λv3 o3 j=>?_;refine hK v3 ?_ j;exact Ext.fresh (Ext.fresh (Ext.fresh e o1.ext λi a=>O) o2.ext λi a=>O) o3.ext λi a=>by omega
def iJ (c:bZ)(l:List Nat):List Value:=l.flatMap λ(s:Nat)=>[.int .i64 (s:Int),.int .i64 (c.aF:Int)]
theorem Tu (c:bZ)(l:List Nat):(iJ c l).length=2*l.length:=by
 induction l with
 | nil=>rfl
 | cons x l ih=>simp only[iJ,nJ,zO,zX,lz]at *;omega
theorem Sq (hc:c.ok){R:Option Addr->Int->Hp->Prop}(hR:∀σ' p,aG U σ'->U.size<=p->p<σ'.size->fC σ' (· = p) p c [] []->R (some ⟨p,0,none⟩) 0 σ'):Qf.c c.size c.aF c.batch U R:=by
 refine Qf.o ?_;unfold Qf.v;refine nw (cs:=[.int .i64 c.size,.int .i64 c.aF,.int .i64 c.batch]) λv x e d=>?_;refine d.rI rfl (d.rI rfl (d.rI rfl (EZ _ _ _ (λu r e1 e2 y s j=>?_) λb=>?_)))
 case refine_2=>rw[(C1 c).2 hc]at b;cases b
 have a:=j.bT d id;refine cB rfl (a.rI rfl (a.rI rfl (a.rI rfl (nw (cs:=[.int .i64 c.size,.int .i64 c.aF,.int .i64 c.batch,.slice none 0 0]) λw m i g=>?_))));exact hR _ _ ((e.trans j).trans i) (by have:=j.1;omega) O ⟨⟨⟨none,0,0⟩,g,bR.nil _ _ _ _⟩,by simp,rfl,by simp[eA],by simp[eA],rfl,hc,by simp⟩
theorem L7 (a b a' b':Nat){R:aO}(hR:∀σ',aG U σ'->R (decide (a>a')||(a==a'&&decide (b<b'))) σ'):WY.c (a:Int) (b:Int) (a':Int) (b':Int) U R:=by
 refine WY.o ?_;unfold WY.v;refine nw (cs:=[.int .i64 a,.int .i64 b]) λv s e p=>nw (cs:=[.int .i64 a',.int .i64 b']) λr m e1 i=>?_;have g:=e1.bT p id;have d:=hR _ (e.trans e1);refine g.rI rfl (i.rI rfl (bW.intro (cP (λh=>?_) λh=>?_)))
 ·have:decide (a>a')=true:=by simpa using h
  rw[this,Bool.true_or]at d;exact d
 ·have:decide (a>a')=false:=by simpa using h
  rw[this,xY]at d;refine g.rI rfl (i.rI rfl (bW.intro ?_));rw[lR];refine cO (λj=>?_) λj=>?_
  ·rw[j,qA]at d;refine g.rI rfl (i.rI rfl ?_);have:decide ((b:Int)<(b':Int))=decide (b<b'):=by rw[decide_eq_decide];omega
   rw[this];exact d
  ·rw[j,uz]at d;exact d
theorem QR:∀{i k:Nat},Zi ss i=some k->k<i/\∃s,ss[k]?=some s/\s.many<s.tk.length
 | 0,_,h=>by simp[Zi]at h
 | i+1,k,h=>by
  have up:Zi ss i=some k->k<i+1/\∃s,ss[k]?=some s/\s.many<s.tk.length:=λh=>by
   have:=QR h;exact⟨O,this.2⟩
  simp only[Zi]at h;split at h
  ·rename_i x hx;split at h
   ·rename_i hlt;have a:i<i+1/\∃s,ss[i]?=some s/\s.many<s.tk.length:=⟨O,x,hx,hlt⟩;split at h
    ·rename_i j hj;split at h
     ·split at h
      ·cases h;exact a
      ·cases h;exact up hj
     ·cases h;exact a
    ·cases h;exact a
   ·exact up h
  ·exact up h
theorem GT {s:cF}(h:s.many<s.tk.length):∃i,low s=some i/\i<s.tk.length/\s.is i=false:=by
 unfold low;cases hf:s.tk.findIdx? (· == false)with
 | some i=>
  obtain⟨a,b,_⟩:=nm.1 hf;refine⟨i,rfl,a,?_⟩;have:s.tk[i]=false:=by simpa using b
  simp[cF.is,zP,cU a,this]
 | none=>
  exfalso;have d:=uh.1 hf;have:s.many=s.tk.length:=by
   unfold cF.many;rw[List.count_eq_length];intro x hx;have:=d x hx;cases x
   ·simp at this
   ·rfl
  omega
theorem C2:∀{ps:List (Nat×Nat)} {ss:List cF} {k:Nat} {s s':cF},ps.length=ss.length->ss[k]?=some s->s'.st=s.st->dQ ps (ss.set k s')=(dQ ps ss).set (3*k) (.int .i64 (s'.many:Int))
 | [],[],_,_,_,_,h,_=>by simp at h
 | [],_::_,_,_,_,h,_,_=>by simp at h
 | _::_,[],_,_,_,_,h,_=>by simp at h
 | x::ps,t::ss,0,s,s',_,h,e=>by simp at h;subst h;simp[dQ,e]
 | x::ps,t::ss,k+1,s,s',hl,h,e=>by
  simp only[rZ,dQ];rw[C2 (ps:=ps) (ss:=ss) (s:=s) (by simpa using hl) (by simpa using h) e];rw[show 3*(k+1)=3*k+1+1+1 by omega];simp
theorem LD {h:Hp}{b:Nat}{cs cs':List Value}(h1:bY h b cs)(h2:bY h b cs'):cs=cs':=by
 obtain⟨e,d⟩:=h1;obtain⟨g,a⟩:=h2;rw[d]at a;simp only[Option.some.injEq,Obj.cells.injEq]at a;simpa using congrArg Array.toList a.1
theorem Qr {x:Nat×Nat}{i:Nat}(hx:ps[i]?=some x):x.1∈eA ps/\x.2∈eA ps:=
 ⟨Hg.2 ⟨x,zG hx,.inl rfl⟩,Hg.2 ⟨x,zG hx,.inr rfl⟩⟩
theorem F3:∀{ps:List (Nat×Nat)},(eA ps).Nodup->∀{i j:Nat} {x y:Nat×Nat},ps[i]?=some x->ps[j]?=some y->i≠j->∀b,(b=x.1\/b=x.2)->¬(b=y.1\/b=y.2)
 | [],_,_,_,_,_,h,_,_=>by simp at h
 | z::ps,hn,i,j,x,y,h1,h2,hij=>by
  have hn':z.1∉eA ps/\z.2∉eA ps/\z.1≠z.2/\(eA ps).Nodup:=by
   simp only[eA,nJ,lu,tW,zo,zV,not_or]at hn;exact⟨hn.1.2,hn.2.1,hn.1.1,hn.2.2⟩
  intro b hb hb'
  match i,j,hij with
  | 0,0,h=>exact h rfl
  | 0,j+1,_=>
   simp at h1;subst h1;have:=Qr (ps:=ps) (i:=j) (by simpa using h2);rcases hb with rfl|rfl<;>rcases hb' with e|e<;>rw[e]at hn'<;>simp[this]at hn'
  | i+1,0,_=>
   simp at h2;subst h2;have:=Qr (ps:=ps) (i:=i) (by simpa using h1);rcases hb with rfl|rfl<;>rcases hb' with e|e<;>rw[←e]at hn'<;>simp[this]at hn'
  | i+1,j+1,h=>exact F3 hn'.2.2.2 (by simpa using h1) (by simpa using h2) O b hb hb'
theorem fC.pB (h:fC U F p c ps ss){k:Nat}{x:Nat×Nat}{s s':cF}(hx:ps[k]?=some x)(hs:ss[k]?=some s)(hst:s'.st=s.st){σ1:Hp}(e1:Ext (λb=>b=x.1\/b=x.2) U σ1)(hS:ic σ1 x.1 x.2 c s')
 {sl:Sl} {rb:Nat} {cs:List Value} (hb:bY U p [.int .i64 (c.size:Int),.int .i64 (c.aF:Int),.int .i64 (c.batch:Int),.slice sl.a sl.len sl.cap]) (E:sq U F p ps ss sl rb cs)
 {K:aP} (hK:∀σ2,Ext F U σ2->fC σ2 F p c ps (ss.set k s')->K σ2):dU ⟨rb,3*k,none⟩ (.int .i64 (s'.many:Int)) σ1 K:=by
 obtain⟨mP,D,Q⟩:=h.hd;have J:mP=sl:=by
  have:=LD D hb;simp at this;obtain⟨a,n,c⟩:=sl;obtain⟨W,S,V⟩:=mP;simp at this ⊢;exact this
 subst J;have g:=Qr hx;have e:=h.nd;simp only[zo]at e;have w:=(cX.1 hs).1;have H:=(bR.loc mP 3 (dQ ps ss)).bS Q e1 λb hb P=>λd=>P.2.2 (by rcases d with rfl|rfl;exact g.1;exact g.2);have G:=e1.bT hb λd=>e.1 (by rcases d with h|h<;>rw[h];exact g.1;exact g.2)
 refine H.st (j:=3*k) (by rw[Ka h.len];omega) (λb u=>by rw[E.a]at u;cases u;rfl) λσ2 e2 A=>?_;have B:Ext F U σ2:=(e1.sub λi C=>h.fb i (by rcases C with rfl|rfl;exact g.1;exact g.2)).trans (e2.sub λi C=>C.1);refine hK σ2 B ⟨⟨mP,e2.bT G λd=>d.2.1 rfl,?_⟩,λi y t r z=>?_,h.fp,h.fb,h.nd,by simpa using h.len,h.ok,?_⟩
 ·rw[C2 h.len hs hst];exact A
 ·have m:=Qr r;have N:ic σ1 y.1 y.2 c t:=by
   by_cases hik:i=k
   ·subst hik;rw[hx]at r;cases r;rw[zM w]at z;cases z;exact hS
   ·rw[zj (Ne.symm hik)]at z;have M:=F3 e.2 r hx hik;exact(h.sp i y t r z).bS e1 (M _ (.inl rfl)) (M _ (.inr rfl))
  exact N.bS e2 (λd=>d.2.2 m.1) (λd=>d.2.2 m.2)
 ·have:(ss.set k s').map (·.st)=ss.map (·.st):=by
   apply zr;intro i;simp only[zg];by_cases hik:i=k
   ·subst hik;rw[zM w,hs];simp[hst]
   ·rw[zj (Ne.symm hik)]
  have L:=h.mM;rw[←pf (f:=cF.st) (R:=(· < ·))]at L ⊢;rw[this];exact L
theorem RN (h:fC U F p c ps ss){R:Int->Bool->Hp->Prop}(h1:∀x ss',iY c ss=some (x,ss')->∀σ',Ext F U σ'->fC σ' F p c ps ss'->R (x:Int) true σ')(h0:iY c ss=none->∀σ',aG U σ'->R 0 false σ') :
 YQ.c (aW p) U R:=by
 refine YQ.o ?_;unfold YQ.v;obtain⟨sl,S,hl,hr⟩:=h.sl;have hfew:=h.qf;have hn:=h.ok.kB;obtain⟨d,cs,E⟩:∃d cs,ss≠[]->sq U F p ps ss sl d cs:=by
  by_cases hne:ss=[]
  ·exact⟨0,[],λh=>absurd hne h⟩
  ·obtain⟨d,cs,E⟩:=hr hne;exact⟨d,cs,λ_=>E⟩
 refine bK (S.rS rfl ?_);refine VO (a:=.p) (bb:=bN) (λ(iK:Option Addr) (t:Int) D=>∃i:Nat,t=(i:Int)/\i<=ss.length/\aG U D/\iK=(Zi ss i).map λk=>⟨d,3*k,none⟩) (λ_ t _=>ss.length-t.toNat) ⟨0,rfl,O,Ext.refl _ _,rfl⟩ ?_;rintro iK t D ⟨i,rfl,hi,e,rfl⟩;refine cP (λV=>?_) λhge=>?_
 ·simp only at V;have L:i<ss.length:=by omega
  have E:=E (by rintro rfl;simp at L);obtain⟨P,s,N,G,A⟩:=h.jC L;have w:=QN N G;have Y:=A.len;refine bK ((e.bT S id).rS rfl ?_);rw[E.a];refine ix O O ?_;rw[add_lit,show 0+(i:Int).toNat*3=3*i by omega];have Eb:=e.bT E.bT id;have B:Zi ss (i+1)=if s.many<s.tk.length then(match Zi ss i with
   | some j=>match ss[j]? with
    | some y=>if Gn s y then some i else some j
    | none=>some i
   | none=>some i)else Zi ss i:=by
   simp only[Zi,G];rfl
  have J:∀(r:Bool) (v:Hp),aG U v->(if r then some i else Zi ss i)=Zi ss (i+1) →
   If r (Ar .i64 ((i:Int)+1) λb=>(∃j:Nat,b=(j:Int)/\j<=ss.length/\aG U v/\some (⟨d,3*i,none⟩:Addr)=(Zi ss j).map λk=>⟨d,3*k,none⟩)/\ss.length-b.toNat<ss.length-(i:Int).toNat)
    (Ar .i64 ((i:Int)+1) λb=>(∃j:Nat,b=(j:Int)/\j<=ss.length/\aG U v/\((Zi ss i).map λk=>(⟨d,3*k,none⟩:Addr))=(Zi ss j).map λk=>⟨d,3*k,none⟩)/\ss.length-b.toNat<ss.length-(i:Int).toNat):=by
   intro r v ev hr';cases r
   ·refine cB rfl (cS (m:=i+1) O O ⟨⟨i+1,rfl,O,ev,?_⟩,O⟩);rw[←hr'];rfl
   ·refine cC rfl (cS (m:=i+1) O O ⟨⟨i+1,rfl,O,ev,?_⟩,O⟩);rw[←hr'];rfl
  refine Jn.intro ⟨λH=>bY H d cs,Eb,bK ⟨_,λH A=>by rw[add_lit,add_lit,A.cell];exact E.get w.1,bK ⟨_,λH A=>by rw[add_lit,A.cell];exact E.get w.2.2,?_⟩⟩⟩;refine Jf (A.bO e) ⟨Eb,?_⟩;refine cP (λhlt2=>?_) λhge2=>?_
  ·have hm:s.many<s.tk.length:=by omega
   rw[zC hm]at B;cases hbf:Zi ss i with
   | none=>
    rw[hbf]at B J;exact cC rfl (J true D e B.symm)
   | some j=>
    rw[hbf]at B J;obtain⟨hji,y,hy,hym⟩:=QR hbf;simp only[hy]at B;have aa:j<ps.length:=by rw[h.len];omega
    have u:=QN (cU aa) hy;have fin:WY.c (s.many:Int) (s.st:Int) (y.many:Int) (y.st:Int) D λac v3=>bY v3 d cs ∧
     If ac (Ar .i64 ((i:Int)+1) λb=>(∃j:Nat,b=(j:Int)/\j<=ss.length/\aG U v3/\some (⟨d,3*i,none⟩:Addr)=(Zi ss j).map λk=>⟨d,3*k,none⟩)/\ss.length-b.toNat<ss.length-(i:Int).toNat)
      (Ar .i64 ((i:Int)+1) λb=>(∃j':Nat,b=(j':Int)/\j'<=ss.length/\aG U v3/\((some j).map λk=>(⟨d,3*k,none⟩:Addr))=(Zi ss j').map λk=>⟨d,3*k,none⟩)/\ss.length-b.toNat<ss.length-(i:Int).toNat):=by
     refine L7 _ _ _ _ λv3 e3=>⟨e3.bT Eb id,J _ v3 (e.trans e3) ?_⟩;rw[B];rfl
    refine cB rfl (bK (bK ⟨?_,?_⟩))
    ·exact Eb.eZ (E.get w.1) (Eb.eZ (E.get w.2.1) ⟨Eb,Eb.eZ (E.get u.1) (Eb.eZ (E.get u.2.1) ⟨Eb,fin⟩)⟩)
    ·exact Eb.eZ (E.get u.1) (Eb.eZ (E.get u.2.1) ⟨Eb,Eb.eZ (E.get w.1) (Eb.eZ (E.get w.2.1) ⟨Eb,fin⟩)⟩)
  ·have hm:¬s.many<s.tk.length:=by omega
   rw[zB hm]at B;exact J false D e B.symm
 ·have Q:i=ss.length:=by simp only at hge;omega
  subst Q;cases hbf:Zi ss ss.length with
  | none=>
   refine cC rfl (h0 ?_ _ e);simp[iY,iK,hbf]
  | some k=>
   obtain⟨hk,s,G,Z⟩:=QR hbf;have E:=E (by rintro rfl;simp at hk);obtain⟨P,s',N,K,A⟩:=h.jC hk;rw[G]at K;cases K;have w:=QN N G;obtain⟨r,C,hr1,ab⟩:=GT Z;have D:=h.bO e;have one:iY c ss=some (at_ c s r,ss.set k (s.put r true)):=by simp[iY,iK,hbf,G,C]
   have E':sq _ F p ps ss sl d cs:=⟨E.a,e.bT E.bT id,E.fr,E.get,E.Cd⟩;refine cB rfl (bK (E'.bT.rP (x:=some ⟨P.1,0,none⟩) (E.get w.2.2) ?_));refine Sg (A.bO e) C λv5 e5 W=>bK ?_;have M:=Qr N;have X:¬(d=P.1\/d=P.2):=λhh=>E.fr.2.2 (by rcases hh with h|h<;>rw[h];exact M.1;exact M.2)
   have hml:=BA s;have g:=GZ hr1 true;rw[ab]at g;have z:(s.put r true).many=s.many+1:=by simp at g;omega
   have Y:=A.len;refine(e5.bT E'.bT X).eZ (E.get w.1) (cS (m:=s.many+1) O O (bK ?_));rw[add_lit,add_lit,j9,j9,←z];exact D.pB (s':=s.put r true) N G rfl e5 W (e.bT S id) E' λv6 e6 h6=>h1 _ _ one v6 (e.to.trans e6) h6
theorem Jz {k:Nat}{s s':cF}(hs:ss[k]?=some s):pA (ss.set k s')+(s.tk.length-s.many)=pA ss+(s'.tk.length-s'.many):=by
 unfold pA
 induction ss generalizing k with
 | nil=>simp at hs
 | cons x ss ih=>
  cases k with
  | zero=>simp at hs;subst hs;simp;omega
  | succ k=>
   have:=ih (by simpa using hs);simp only[rZ,zR,nf];omega
theorem TF {x:Nat}{ss':List cF}(h:iY c ss=some (x,ss')):pA ss'+1=pA ss:=by
 unfold iY at h;split at h
 ·rename_i k hk;obtain⟨_,s,e,a⟩:=QR hk;rw[e]at h;simp only at h;split at h
  ·rename_i i hi;cases h;obtain⟨r,g,b,d⟩:=GT a;rw[hi]at g;cases g;have p:=Jz (s':=s.put i true) e;have j:=GZ b true;rw[d]at j;have m:(s.put i true).tk.length=s.tk.length:=by simp[cF.put]
   simp at j;omega
  ·cases h
 ·cases h
theorem fC.room (h:fC U F p c ps ss):pA ss<=131072:=by
 have key:∀l:List cF,(∀s∈l,s.tk.length<=128)->pA l<=128*l.length:=by
  intro l
  induction l with
  | nil=>intro _;simp[pA]
  | cons x l ih=>
   intro hl;have r:=hl x aA;have j:=ih λs b=>hl s (by simp[b]);simp only[pA,zR,nf,zX]at *;omega
 have:=key ss λs b=>by
  obtain⟨i,e⟩:=zQ b;have d:=(cX.1 e).1;obtain⟨x,m,_,a,g⟩:=h.jC d;rw[e]at a;cases a;rw[g.len];exact h.ok.kB
 have:=h.qf;omega
theorem HR {m:Nat}{x:Nat}{ss':List cF}(h:iY c ss=some (x,ss')):Kb c (m+1) ss=(x::(Kb c m ss').1,(Kb c m ss').2):=by
 simp[Kb,h]
theorem TA (h:fC U F p c ps ss)(m:Int)(hm:0<=m){R:Sl->Int->Hp->Prop}
 (hR:∀s σ',Ext F U σ'->bR s 1 (ints (Kb c m.toNat ss).1) σ' (λb=>U.size<=b)->fC σ' (Cut F U) p c ps (Kb c m.toNat ss).2->R s 0 σ'):W6.c (aW p) m U R:=by
 refine W6.o ?_;unfold W6.v;have h:=fC.loc.cut h;have L:=fC.room h;refine VX h (cB rfl (fT O ?_));refine Qc (a:=.s) (λ(out:Sl) B=>∃j d,Ext F U B/\bR out 1 (ints j) B (λb=>U.size<=b)/\fC B (Cut F U) p c ps d/\j.length<=m.toNat/\j.length+pA d=pA ss/\Kb c m.toNat ss=(j++(Kb c (m.toNat-j.length) d).1,(Kb c (m.toNat-j.length) d).2))
  (λout _=>m.toNat-out.len) ⟨[],ss,Ext.refl _ _,bR.nil _ _ _ _,h,by simp,by simp,by simp⟩ ?_
 rintro out B ⟨j,d,e,g,K,Y,V,u⟩;have N:=g.pJ;refine cP (λW=>?_) λX=>?_
 ·have r:m.toNat-j.length=(m.toNat-(j.length+1))+1:=by omega
  refine RN K (λx E w v2 e2 H=>cB rfl ?_) λz v2 e2=>cC rfl ?_
  ·have C:Ext F U v2:=e.trans (e2.sub λi G=>G.1);have y:=aI.bS g e2 λb _ D M=>by have:=M.2;omega
   refine y.push (vs:=[.int .i64 (x:Int)]) (λb D=>zY C.1 D) rfl rfl (by simp[dO]) O O λs' v4 Z P J=>?_;have Q:=TF w;refine⟨⟨j++[x],E,C.dW P λi G=>.inr G,by rw[U5];exact J,fC.loc.bS H P λb _ D M=>(by have:=D.2;omega),by simp;omega,by simp;omega,?_⟩,O⟩;rw[u,r,HR w];simp
  ·have:Kb c (m.toNat-j.length) d=([],d):=by rw[r];simp[Kb,z]
   rw[this]at u;have A:=hR out v2 (e.trans e2.to);rw[u,kI]at A;exact A (aI.bO g e2) (K.bO e2)
 ·have S:m.toNat-j.length=0:=by omega
  rw[S]at u;have A:=hR out B e;rw[u]at A;simp only[Kb,kI]at A;exact A g K
theorem Sh (h:fC U F p c ps ss)(m:Int)(hm:m<0){R:Sl->Int->Hp->Prop}(hR:R ⟨none,0,0⟩ 1 U):W6.c (aW p) m U R:=by
 refine W6.o ?_;unfold W6.v;exact VX h (cB rfl (lF O hR))
def iR:List (Nat×Nat)->List cF->List (Nat×Nat)
 | x::ps,s::ss=>if s.many != 0 then x::iR ps ss else iR ps ss
 | _,_=>[]
theorem H5:∀{ps:List (Nat×Nat)} {ss:List cF},ps.length=ss.length->(iR ps ss).length=(cH ss).length
 | [],[],_=>rfl
 | x::ps,s::ss,h=>by
  have ih:=H5 (ps:=ps) (ss:=ss) (by simpa using h);simp only[iR,cH,sP]at *;split<;>simp[ih]
theorem B0:∀{ps:List (Nat×Nat)} {ss:List cF},(iR ps ss).Sublist ps
 | [],_=>by simp[iR]
 | _::_,[]=>by simp[iR]
 | x::ps,s::ss=>by
  simp only[iR];split
  ·exact B0.cons_cons x
  ·exact B0.cons x
theorem Ev:∀{ps ps':List (Nat×Nat)} {ss ss':List cF},ps.length=ss.length->iR (ps++ps') (ss++ss')=iR ps ss++iR ps' ss'
 | [],_,[],_,_=>rfl
 | x::ps,_,s::ss,_,h=>by
  simp only[lu,iR,Ev (ps:=ps) (ss:=ss) (by simpa using h)];split<;>rfl
theorem Iz:∀{ps:List (Nat×Nat)} {ss:List cF} {i:Nat} {x:Nat×Nat} {s:cF},ps.length=ss.length->(iR ps ss)[i]?=some x->(cH ss)[i]?=some s->∃j:Nat,ps[j]?=some x/\ss[j]?=some s
 | [],[],_,_,_,_,h,_=>by simp[iR]at h
 | y::ps,t::ss,i,x,s,hl,h1,h2=>by
  have ih:=λi=>Iz (ps:=ps) (ss:=ss) (i:=i) (x:=x) (s:=s) (by simpa using hl);simp only[iR,cH,sP]at h1 h2;cases hm:(t.many != 0)
  ·rw[hm]at h1 h2;obtain⟨j,a,b⟩:=ih i h1 h2;exact⟨j+1,by simpa using a,by simpa using b⟩
  ·rw[hm]at h1 h2;cases i with
   | zero=>simp at h1 h2;exact⟨0,by simp[h1],by simp[h2]⟩
   | succ i=>
    obtain⟨j,a,b⟩:=ih i (by simpa using h1) (by simpa[cH]using h2);exact⟨j+1,by simpa using a,by simpa using b⟩
theorem OP (a b:List cF):cH (a++b)=cH a++cH b:=by simp[cH]
theorem Om (a b:List cF):Qo (a++b)=Qo a++Qo b:=by simp[Qo]
theorem LR (c:bZ)(a b:List Nat):iJ c (a++b)=iJ c a++iJ c b:=by simp[iJ]
theorem Lu {a b:List (Nat×Nat)}(h:a.Sublist b):(eA a).Sublist (eA b):=by
 induction h with
 | slnil=>exact List.Sublist.refl _
 | cons x _ ih=>exact(ih.cons _).cons _
 | cons_cons x _ ih=>exact(ih.cons_cons _).cons_cons _
theorem F2 {h:Hp}{Q:Rg}{n3:Nat}{o:Sl}{l:List Nat}{x1 x2:Nat}{s:cF}(hb:bY h n3 [.slice o.a o.len o.cap])(hrow:bR o 2 (iJ c l) h Q)(hQ:∀b,Q b->n3<b)(hl:l.length<=2000)(hS:ic h x1 x2 c s){R:aO}
 (hR:∀h' o',Ext (λb=>b=n3\/Q b) h h'->bY h' n3 [.slice (Sl.a o') o'.len o'.cap]->bR o' 2 (iJ c (l++if s.many=0 then[s.st]else[])) h' (Grow Q h)->R (s.many==0) h') :
 V5 Tryz.prog ⟨223,#[],#[.pointer (some ⟨n3,0,none⟩)]⟩ [.agg #[.int .i64 (s.many:Int),.int .i64 (s.st:Int),.pointer (some ⟨x1,0,none⟩)]] [.one .b] h R:=by
 refine pK (all := #[.agg #[.int .i64 (s.many:Int),.int .i64 (s.st:Int),.pointer (some ⟨x1,0,none⟩)],.pointer (some ⟨n3,0,none⟩)]) (by kernel_rfl) aA ?_;refine XT.o ?_;unfold XT.v;refine nw (cs:=[.int .i64 (s.many:Int),.int .i64 (s.st:Int),.pointer (some ⟨x1,0,none⟩)]) λv Z e d=>?_;have P:=hb.lt;have g:=e.bT hb id;have hrow:=(bR.loc o 2 (iJ c l)).mono hrow (G:=λb=>Q b/\b<h.size) λb hb x=>⟨x,hb⟩;refine Jn.intro (d.eZ rfl ?_);rw[tu];refine cO (λH=>?_) λH=>?_
 ·have r:s.many=0:=by simpa using H
  rw[zC r]at hR;refine⟨λh'=>bY h' h.size [.int .i64 (s.many:Int),.int .i64 (s.st:Int),.pointer (some ⟨x1,0,none⟩)]/\bY h' n3 [.slice o.a o.len o.cap],⟨d,g⟩,⟨o,λh' hS=>by rw[hS.2.cell];rfl,⟨some ⟨x1,0,none⟩,λh' hS=>by rw[add_lit,hS.1.cell];rfl,?_⟩⟩⟩;refine OJ (hS.bO e) λY e2=>⟨⟨e2.bT d id,e2.bT g id⟩,?_⟩;have y:=e.trans e2;have m:=aI.bO hrow y;have z:=m.1;rw[Tu]at z;refine nw (cs:=[.int .i64 (s.st:Int),.int .i64 (c.aF:Int)]) λv3 V w C=>⟨⟨(e2.trans w).bT d id,(e2.trans w).bT g id⟩,?_⟩;have p:=aI.bO m w;have W:=y.1;refine p.app (ys:=[.int .i64 (s.st:Int),.int .i64 (c.aF:Int)]) rfl rfl ?_ (by simp[dO]) ?_ ?_ mU λN L X E F=>?_
  ·intro j u hu;rw[add_lit,zH,C.cell];exact hu
  ·simp only;have:(o.len+1)*16<=2001*16:=l5 O O;omega
  ·simp only;omega
  ·have J:bY L h.size [.int .i64 (s.many:Int),.int .i64 (s.st:Int),.pointer (some ⟨x1,0,none⟩)]:=E.bT ((e2.trans w).bT d id) λB=>by have:=B.2;omega
   have K:bY L n3 [.slice o.a o.len o.cap]:=E.bT ((e2.trans w).bT g id) λB=>by have:=hQ _ B.1;omega
   refine⟨⟨J,K⟩,K.s0 aA λv5 o5 S=>(Ws o5 J O).eZ rfl ?_⟩;have A:Ext (λb=>b=n3\/Q b) h v5:=(aG.to ((e.trans e2).trans w)).trans (E.sub λi D=>.inr D.1)|>.trans (o5.ext.sub λi D=>.inl D);rw[tu];refine hR v5 N A S ?_;rw[LR];have:iJ c [s.st]=[.int .i64 (s.st:Int),.int .i64 (c.aF:Int)]:=rfl;rw[this];have U:=aI.mono F (G:=Grow Q h) λb _ M=>by
    rcases M with h|h
    ·exact .inl h.1
    ·exact .inr O
   exact aI.bS U o5.ext λb _ x he=>by
    rcases x with h|h
    ·have:=hQ _ h;omega
    ·omega
 ·have r:¬s.many=0:=by simpa using H
  rw[zB r,kI]at hR;refine d.eZ rfl ?_;rw[tu];exact hR v o e.to g (aI.bO (aI.mono hrow λb _ x=>.inl x.1) e)
def yA (n3:Nat)(c:bZ)(l:List Nat)(h:Hp):Prop:=∃o:Sl,bY h n3 [.slice o.a o.len o.cap]/\bR o 2 (iJ c l) h (λb=>n3<b)
theorem B3 {A D:List Value}{x y z:Value}{k:Nat}(hk:k=A.length)(hD:3<=D.length):(((A++D).set k x).set (k+1) y).set (k+2) z=A++[x,y,z]++D.drop 3:=by
 subst hk
 match D,hD with
 | d0::d1::d2::D,_=>simp[List.set_append]
theorem HX {i:Nat}{s:cF}(hs:ss[i]?=some s):Qo (ss.take (i+1))=Qo (ss.take i)++(if s.many=0 then[s.st]else[]):=by
 rw[kN,hs,Om]
 congr 1
 by_cases hm:s.many=0<;>simp[Qo,hm]
theorem HE {i:Nat}{s:cF}(hs:ss[i]?=some s):cH (ss.take (i+1))=cH (ss.take i)++(if s.many=0 then[]else[s]):=by
 rw[kN,hs,OP]
 congr 1
 by_cases hm:s.many=0<;>simp[cH,hm]
theorem Bs {i:Nat}{x:Nat×Nat}{s:cF}(hl:ps.length=ss.length)(hx:ps[i]?=some x)(hs:ss[i]?=some s):iR (ps.take (i+1)) (ss.take (i+1))=iR (ps.take i) (ss.take i)++(if s.many=0 then[]else[x]):=by
 rw[kN,kN,hs,hx,Ev (by simp[hl])]
 congr 1
 by_cases hm:s.many=0<;>simp[iR,hm]
theorem Nf (l:List cF):(Qo l).length<=l.length:=by unfold Qo;rw[zl];exact rh _ _
theorem Mu (l:List cF):(cH l).length<=l.length:=rh _ _
theorem M6 (h:fC U F p c ps ss){sl:Sl}{rb n3:Nat}{cs:List Value}{σ1:Hp}(e1:aG U σ1)(hlen:sl.len=ss.length)(hn3:U.size<=n3)(hE:ss≠[]->sq U F p ps ss sl rb cs/\sl.len<=sl.cap/\cs.length=sl.cap*3)(h0:yA n3 c [] σ1){R:Sl->Hp->Prop}
 (hR:∀h' mP,Ext (λb=>F b/\b≠p/\b∉eA ps\/n3<=b) σ1 h'->yA n3 c (Qo ss) h'->(mP=sl/\Qo ss=[]/\cH ss=ss/\iR ps ss=ps/\Ext (λb=>n3<=b) σ1 h'\/(bR mP 3 (dQ (iR ps ss) (cH ss)) h' (λb=>F b/\b≠p/\b∉eA ps)))->R mP h') :
 We.c sl ⟨223,#[],#[.pointer (some ⟨n3,0,none⟩)]⟩ σ1 R:=by
 refine We.o ?_;unfold We.v;refine Wh.o ?_;unfold Wh.v;have hfew:=h.qf;have r:=h.len;refine Qc (a:=bN) (λ(t:Int) h'=>∃i:Nat,t=(i:Int)/\i<=ss.length/\Ext (λb=>n3<=b) σ1 h'/\yA n3 c [] h'/\Qo (ss.take i)=[]/\cH (ss.take i)=ss.take i/\iR (ps.take i) (ss.take i)=ps.take i) (λt _=>ss.length-t.toNat) ⟨0,rfl,O,Ext.refl _ _,h0,by simp[Qo],by simp[cH],by simp[iR]⟩ ?_;rintro t h' ⟨i,rfl,hi,e,⟨o,Q,Y⟩,q1,q2,q3⟩;have eo:∀{v:Hp},Ext (λb=>n3<=b) σ1 v->Ext (λb=>n3<=b) U v:=λe=>e1.to.trans e;refine cP (λhlt=>?_) λhge=>?_
 ·have ac:i<ss.length:=by omega
  obtain⟨E,hcap,hcl⟩:=hE (by rintro rfl;simp at ac);obtain⟨xx,s,hp,L,hS⟩:=h.jC ac;have eg:=QN hp L;have hrl:=E.bT.lt;have hSl:=hS.lt;rw[E.a];refine ix O O ?_;rw[add_lit,show 0+(i:Int).toNat*3=3*i by omega];refine vO (e:=0) ((eo e).bT E.bT O) (E.get eg.1) (E.get eg.2.1) (E.get eg.2.2) ?_;have hn3h:n3<h'.size:=Q.lt;refine F2 Q Y (λb h=>h) aA (hS.bS (eo e) O O) λh2 o2 e2 ad A=>?_;have e2:Ext (λb=>n3<=b) h' h2:=e2.sub λb g=>by omega
  have A:=aI.mono A (G:=λb=>n3<b) λb _ g=>by
   rcases g with h|h
   ·exact h
   ·omega
  refine cO (λhm=>?_) λhm=>?_
  ·-- the first that goes
   have x:s.many=0:=by simpa using hm
   rw[zC x,tW]at A;have B:((i:Int)==(-1))=false:=by rw[l6];omega
   show If ((i:Int)==(-1)) _ _;refine cB B (cS (m:=i+1) O O ?_);have q1':Qo (ss.take (i+1))=[s.st]:=by rw[HX L,q1,zC x];rfl
   have P:cH (ss.take (i+1))=ss.take i:=by rw[HE L,q2,zC x,kI]
   have q3':iR (ps.take (i+1)) (ss.take (i+1))=ps.take i:=by rw[Bs r hp L,q3,zC x,kI]
   have hke:∀k,k<=ss.length->(dQ (iR (ps.take k) (ss.take k)) (cH (ss.take k))).length=3*(cH (ss.take k)).length:=λk _=>Ka (H5 (by simp[r]));have Eb2:bY h2 rb cs:=(eo (e.trans e2)).bT E.bT O;refine VO (a:=bN) (bb:=bN) (λ(i1 j1:Int) v=>∃j:Nat,j1=(j:Int)/\i<j/\j<=ss.length/\i1=((cH (ss.take j)).length:Int)/\(cH (ss.take j)).length<j/\Ext (λb=>b=rb\/n3<=b) σ1 v/\yA n3 c (Qo (ss.take j)) v ∧
    bY v rb (dQ (iR (ps.take j) (ss.take j)) (cH (ss.take j))++cs.drop (3*(cH (ss.take j)).length))) (λ_ j1 _=>ss.length-j1.toNat) ?_ ?_
   ·refine⟨i+1,rfl,O,O,?_,?_,(e.trans e2).sub λb g=>.inr g,?_,?_⟩
    ·rw[P,za];omega
    ·rw[P,za];omega
    ·rw[q1'];exact⟨o2,ad,A⟩
    ·rw[P,q3',za,pU O];have:dQ (ps.take i) (ss.take i)++cs.drop (3*i)=cs:=by
      have h1:(dQ (ps.take i) (ss.take i)).length=3*i:=by rw[Ka (by simp[r]),za];omega
      apply zr;intro k;rcases kE k (3*i)with hk|hk
      ·rw[zh O];have h2:(dQ ps ss)[k]?=(dQ (ps.take i) (ss.take i))[k]? := by
        conv=>lhs;rw[←oc i ps,←oc i ss,Vk (by simp[r])]
        rw[zh O]
       rw[←h2];have h3:k<(dQ ps ss).length:=by rw[Ka r];omega
       rw[cU h3];exact(E.get (cU h3)).symm
      ·rw[zt O,kY,h1]
       congr 1;omega
     rw[this];exact Eb2
   ·rintro i1 j1 v ⟨j,rfl,hij,hj,rfl,hKj,ev,⟨o3,C,M⟩,z⟩;have y:=hke j hj;have evo:Ext (λb=>b=rb\/n3<=b) U v:=e1.to.trans ev;refine cP (λhlt2=>?_) λhge2=>?_
    ·have hj':j<ss.length:=by omega
     obtain⟨yy,u,V,H,Z⟩:=h.jC hj';have S:=QN V H;have hSul:=Z.lt;have ae:=Qr V;refine ix O O ?_;rw[add_lit,show 0+(j:Int).toNat*3=3*j by omega];have get:∀d,d<3->∀w,(dQ ps ss)[3*j+d]?=some w->(dQ (iR (ps.take j) (ss.take j)) (cH (ss.take j))++cs.drop (3*(cH (ss.take j)).length))[3*j+d]?=some w:=by
      intro d hd w hw;rw[zt O,kY,y,show 3*(cH (ss.take j)).length+(3*j+d-3*(cH (ss.take j)).length)=3*j+d by omega];exact E.get hw
     refine vO (e:=0) z (get 0 O _ S.1) (get 1 O _ S.2.1) (get 2 O _ S.2.2) (FM λv5 X b5=>b5.rI rfl (b5.rI rfl (b5.rP rfl ?_)));have hn3v:n3<v.size:=C.lt;have ab:=aI.mono M (G:=λb=>n3<b/\b<v.size) λb g hf=>⟨hf,g⟩;have K:=Nf (ss.take j);rw[za]at K;refine F2 (X.bT C id) (aI.bO ab X) (λb g=>g.1) O ((Z.bS evo (λN=>by rcases N with h|h;exact E.fr.2.2 (h▸ae.1);omega) (λN=>by rcases N with h|h;exact E.fr.2.2 (h▸ae.2);omega)).bO X) λv6 o6 e6 ag D=>?_;have hsz5:=X.1;have D:=aI.mono D (G:=λb=>n3<b) λb _ g=>by
      rcases g with h|h
      ·exact h.1
      ·omega
     have b6:bY v6 v.size [.int .i64 (u.many:Int),.int .i64 (u.st:Int),.pointer (some ⟨yy.1,0,none⟩)]:=e6.bT b5 λN=>by rcases N with h|h;omega;have:=h.2;omega
     have hrb:rb<U.size:=E.bT.lt;have J:=e6.bT (X.bT z id) λN=>by rcases N with h|h;omega;have:=h.1;omega
     have af:Ext (λb=>b=rb\/n3<=b) σ1 v6:=(ev.trans X.to).trans (e6.sub λb g=>by rcases g with h|h;omega;have:=h.1;omega);rw[←HX H]at D;have st:=HE H;have kt:=Bs r V H;by_cases hum:u.many=0
     ·rw[zC hum,kI]at st kt;have:(u.many==0)=true:=by simp[hum]
      rw[this];refine cB rfl (cS (m:=j+1) O O ⟨⟨j+1,rfl,O,O,?_,?_,af,⟨o6,ag,D⟩,?_⟩,O⟩)
      ·rw[st]
      ·rw[st];omega
      ·rw[st,kt];exact J
     ·rw[zB hum]at st kt;have:(u.many==0)=false:=by simp[hum]
      rw[this];refine cC rfl (b6.rI rfl (b6.rI rfl (b6.rP rfl (ix O O ?_))));rw[add_lit,show 0+((cH (ss.take j)).length:Int).toNat*3=3*(cH (ss.take j)).length by omega];have hlen6:(dQ (iR (ps.take j) (ss.take j)) (cH (ss.take j))++cs.drop (3*(cH (ss.take j)).length)).length=cs.length:=by
       rw[zO,y,ka];omega
      refine J.s1 O λv7 o7 b7=>b7.s1 aE λv8 o8 b8=>b8.s1 aE λv9 o9 b9=>?_;rw[j9,B3 y.symm (by rw[ka];omega),List.drop_drop]at b9;have ev9:Ext (λb=>b=rb\/n3<=b) σ1 v9:=((af.trans (o7.ext.sub λb g=>.inl g)).trans (o8.ext.sub λb g=>.inl g)).trans (o9.ext.sub λb g=>.inl g);have ah:Ext (· = rb) v6 v9:=(o7.ext.trans o8.ext).trans o9.ext;refine cS (m:=(cH (ss.take j)).length+1) O O (cS (m:=j+1) O O ⟨⟨j+1,rfl,O,O,?_,?_,ev9,⟨o6,ah.bT ag O,aI.bS D ah λb _ g he=>O⟩,?_⟩,O⟩)
      ·rw[st];simp
      ·rw[st];simp;omega
      ·rw[st,kt,Vk (H5 (by simp[r]))];simp only[zO,zX,lz,dQ];rw[show 3*((cH (ss.take j)).length+(0+1))=3*(cH (ss.take j)).length+3 by omega];exact b9
    ·have hjj:j=ss.length:=by omega
     subst hjj;rw[l0]at *;have W:ps.take ss.length=ps:=by rw[←r,l0]
     rw[W]at z y;have K:=Mu ss;refine iQ O O O ?_;have hK3:3*(cH ss).length<=cs.length:=by omega
     have hlt3:(cH ss).length<ss.length:=hKj;rw[zB O];simp only[E.a,zZ,add_lit,zH];refine⟨by simp[dO],?_⟩;simp only;have hz:(List.replicate (sl.len-(cH ss).length) [Value.int .i64 0,.int .i64 0,.pointer none]).flatten.length=3*(sl.len-(cH ss).length):=by
      rw[xq,uH,xd];simp;omega
     refine V6 (o:=(cH ss).length*3) (i:=0) z (by rw[hz,zO,y,ka];omega) λv10 fP b10=>?_;refine iQ (lo:=0) O O O ?_;have aa:Ext (λb=>b=rb\/n3<=b) σ1 v10:=ev.trans (fP.ext.sub λb g=>.inl g);refine hR v10 _ (aa.sub λb g=>?_) ⟨o3,Ws fP C (by have:=E.bT.lt;omega),aI.bS M fP.ext λb _ g he=>by have:=E.bT.lt;omega⟩ (.inr ?_)
     ·rcases g with rfl|h
      ·exact .inl E.fr
      ·exact .inr h
     ·refine⟨by rw[Ka (H5 r)];simp;omega,.inr ⟨rb,_,E.fr,?_,b10,?_,?_,?_⟩⟩
      ·simp only[E.a];split<;>simp[add_lit]
      ·simp only;omega
      ·simp only[zO,za,ka,hz,y];omega
      ·rw[Ka (H5 r),j9,show(cH ss).length*3=3*(cH ss).length by omega];rw[jL,po (by rw[za,zO,y];omega),ym,Nat.min_self];rw[po O,mW O]
  ·have x:¬s.many=0:=by simpa using hm
   rw[zB x,kI]at A;refine cS (m:=i+1) O O ⟨⟨i+1,rfl,O,e.trans e2,⟨o2,ad,A⟩,?_,?_,?_⟩,O⟩
   ·rw[HX L,q1,zB x];rfl
   ·rw[HE L,q2,zB x,kN,L];rfl
   ·rw[Bs r hp L,q3,zB x,kN,hp];rfl
 ·have hii:i=ss.length:=by omega
  subst hii;rw[l0]at *;have W:ps.take ss.length=ps:=by rw[←r,l0]
  rw[W]at q3;have B:((-1:Int)==(-1))=true:=rfl;refine cC B (hR h' sl (e.sub λb g=>.inr g) ?_ (.inl ⟨rfl,q1,q2,q3,e⟩));rw[q1];exact⟨o,Q,Y⟩
theorem fC.mP (h:fC U F p c ps ss):∃sl:Sl,bY U p [.int .i64 (c.size:Int),.int .i64 (c.aF:Int),.int .i64 (c.batch:Int),.slice sl.a sl.len sl.cap]/\sl.len=ss.length/\bR sl 3 (dQ ps ss) U (λb=>F b/\b≠p/\b∉eA ps) ∧
 ∃rb cs,(ss≠[]->sq U F p ps ss sl rb cs/\sl.len<=sl.cap/\cs.length=sl.cap*3):=by
 obtain⟨sl,m,g⟩:=h.hd;have i:=g.1;rw[Ka h.len]at i;refine⟨sl,m,O,g,?_⟩;rcases g.2 with⟨h0,_⟩|⟨b,cs,hq,ha,hbb,hle,hcl,ht⟩
 ·exact⟨0,[],λe=>by have:=qe.2 e;omega⟩
 ·refine⟨b,cs,λ_=>⟨⟨ha,hbb,hq,λ{j v} d=>?_,?_⟩,hle,hcl⟩⟩
  ·rw[←ht,zk]at d;split at d
   ·exact d
   ·cases d
  ·have:=congrArg List.length ht;rw[za,Ka h.len]at this;omega
theorem Rj (h:fC U F p c ps ss){R:Sl->Hp->Prop}
 (hR:∀o σ',Ext F U σ'->bR o 2 (iJ c (Qo ss)) σ' (λb=>U.size<=b)->fC σ' (Cut F U) p c (iR ps ss) (cH ss)->R o σ'):XQ.c (aW p) U R:=by
 refine XQ.o ?_;unfold XQ.v;have h:=fC.loc.cut h;obtain⟨sl,a,B,u,S,cs,L⟩:=h.mP;refine VX h (cB rfl (nw (cs:=[.slice none 0 0]) λV M e1 G=>bK ((e1.bT a id).rS rfl ?_)));refine M6 h e1 B (zD _) L ⟨⟨none,0,0⟩,G,bR.nil _ _ _ _⟩ λW mP e2 ⟨o,A,C⟩ r=>bK ?_;have J:=a.lt;have e:=h.nd;have d:=Lu (B0 (ps:=ps) (ss:=ss));simp only[zo]at e;refine(e2.bT (e1.bT a id) λE=>by rcases E with h|h;exact h.2.1 rfl;omega).s1 aA λv3 o3 H=>?_;have w:=Ws o3 A (by have:=A.lt;omega);refine w.vd rfl (hR o v3 ?_ (aI.bS (aI.mono C λb _ a=>O) o3.ext λb _ a g=>O) ?_)
 ·refine(e1.to.dW e2 λb a=>?_).dW o3.ext λb a=>?_
  ·rcases a with h|h
   ·exact .inl h.1.1
   ·exact .inr h
  ·subst a;exact .inl h.fp.1
 ·have z:∀b,b∈eA ps->b<U.size->¬(Cut F U b/\b≠p/\b∉eA ps\/U.size<=b):=λb a N E=>by
   rcases E with h|h
   ·exact h.2.2 a
   ·omega
  refine⟨⟨mP,H,?_⟩,λi x s P Q=>?_,h.fp,λb a=>h.fb b (d.subset a),?_,H5 h.len,h.ok,h.mM.sublist tU⟩
  ·rcases r with⟨rfl,_,q2,q3,ex⟩|hr
   ·rw[q2,q3];exact aI.bS (aI.bS (aI.bO u e1) ex λb _ a g=>by have:=a.1.2;omega) o3.ext λb _ a g=>a.2.1 g
   ·exact aI.bS (aI.mono hr λb _ a=>⟨a.1,a.2.1,λm=>a.2.2 (d.subset m)⟩) o3.ext λb _ a g=>a.2.1 g
  ·obtain⟨j,y,D⟩:=Iz h.len P Q;have K:=h.sp j x s y D;have m:=Qr y;have B:=K.lt;exact((K.bO e1).bS e2 (z _ m.1 B.1) (z _ m.2 B.2)).bS o3.ext (λg=>e.1 (g▸m.1)) (λg=>e.1 (g▸m.2))
  ·simp only[zo];exact⟨λm=>e.1 (d.subset m),e.2.sublist d⟩
theorem PT {x:Int}{k i:Nat}{s:cF}(hc:0<c.size)(hk:kL c ss x=some k)(hs:ss[k]?=some s)(v:Bool)(y:Int):kL c (ss.set k (s.put i v)) y=kL c ss y:=by
 have a:∀t:cF,∀j w z,idx c (t.put j w) z=idx c t z:=λt j w z=>by unfold idx cF.put;simp only[ns]
 unfold kL;have b:=(cX.1 hs).1;have:(ss.set k (s.put i v)).map (λs=>(idx c s y).isSome)=ss.map (λs=>(idx c s y).isSome):=by
  apply zr;intro j;simp only[zg];by_cases hjk:j=k
  ·subst hjk;rw[zM b,hs];simp[a]
  ·rw[zj (Ne.symm hjk)]
 have d:∀l:List cF,l.findIdx? (λs=>(idx c s y).isSome)=(l.map λs=>(idx c s y).isSome).findIdx? id:=λl=>by rw[List.findIdx?_map];rfl
 rw[d,d,this]
def kv (c:bZ)(ss:List cF)(xs:List Int):Prop:=(∀x∈xs,eB c ss x=some true)/\xs.Nodup
theorem G0 {x:Int}{b:Bool}(h:eB c ss x=some b):∃k s i,kL c ss x=some k/\ss[k]?=some s/\obj c s x=some i/\s.is i=b:=by
 unfold eB at h;split at h
 ·rename_i k hk;split at h
  ·rename_i s hs;cases ho:obj c s x with
   | none=>rw[ho]at h;cases h
   | some i=>rw[ho]at h;exact⟨k,s,i,hk,hs,ho,by simpa[cF.is]using h⟩
  ·cases h
 ·cases h
theorem yP {x:Int}{k i:Nat}{s:cF}(hk:kL c ss x=some k)(hs:ss[k]?=some s)(ho:obj c s x=some i):fD c ss x=ss.set k (s.put i false):=by
 simp[fD,hk,hs,ho]
theorem Ou {x y:Int}(hc:0<c.size)(hx:eB c ss x=some true)(hne:y≠x):eB c (fD c ss x) y=eB c ss y:=by
 obtain⟨k,s,i,A,d,u,_⟩:=G0 hx;rw[yP A d u];have r:=(cX.1 d).1;have a:=PT hc A d false (i:=i) y;have g:∀t:cF,∀j w z,obj c (t.put j w) z=obj c t z:=λt j w z=>by unfold obj idx at_ cF.put;simp only[ns]
 cases hy:kL c ss y with
 | none=>rw[Cg (a.trans hy),Cg hy]
 | some m=>
  by_cases hmk:m=k
  ·subst hmk;rw[VI (a.trans hy) (zM r),VI hy d,g];cases hoy:obj c s y with
   | none=>rfl
   | some j=>
    simp only[zZ,Option.some.injEq];have p:i≠j:=λe=>by
     subst e;exact hne (((UN hc).1 hoy).1.trans ((UN hc).1 u).1.symm)
    simp[cF.is,cF.put,zP,zj p]
  ·have b:m<ss.length:=(nm.1 hy).1;rw[VI (a.trans hy) ((zj (Ne.symm hmk)).trans (cU b)),VI hy (cU b)]
theorem kv.next {x:Int}{xs:List Int}(hc:0<c.size)(h:kv c ss (x::xs)):kv c (fD c ss x) xs:=by
 have b:=zo.1 h.2;refine⟨λy a=>?_,b.2⟩;rw[Ou hc (h.1 x aA) λe=>b.1 (e▸a)];exact h.1 y (by simp[a])
theorem Df {xs:List Int}(h:iF c ss xs=0):kv c ss xs:=by
 unfold iF at h;split at h
 ·cases h
 ·rename_i h1;split at h
  ·cases h
  ·rename_i h2;simp only[nG,not_or,qn,mg,Bool.not_eq_false',zU,zT]at h1 h2;refine⟨λx d=>?_,h2.2⟩;have a:=h1 x d;have b:=h2.1 x d;cases ht:eB c ss x with
   | none=>rw[ht]at a;simp at a
   | some v=>
    cases v
    ·rw[ht]at b;exact absurd rfl b
    ·rfl
theorem Tj {sl:Sl}{xs:List Int}{X:Rg}(h:fC U F p c ps ss)(hs:cT sl 1 (xs.map (Value.int .i64)) U X)(hX:∀b,X b->¬F b)(hi:∀x∈xs,iG x)(hA:kv c ss xs)(hl:xs.length<=1000000){K:aP}
 (hK:∀σ',Ext F U σ'->fC σ' F p c ps (xs.foldl (fD c) ss)->K σ') :
 XW [bN] (λI1=>I1 0 U) λJ3 (t49:Int) v6=>If (decide (t49<((sl.len:Nat):Int))) (Ix sl.a sl.len t49 1 λa51=>gE .i64 a51 v6 λaddr1=>
  XI.c (aW p) addr1 v6 λvx v7=>bV vx λa57=>fW (a57.add 2) v7 λt59=>Zy.c t59 addr1 v7 λt61 v8=>bV vx λa63=>gE .i64 ((a63.add 0).add 0) v8 λt66=>
  Ar .i64 (t66-1) λt67=>bV vx λa68=>dU ((a68.add 0).add 0) (.int .i64 t67) v8 λv9=>Ar .i64 (t49+1) λt71=>J3 t71 v9) (K v6):=by
 have hlen:sl.len=xs.length:=by have:=hs.1;simp at this;omega
 have z:0<c.size:=by have:=h.ok.1;omega
 refine Qc (a:=bN) (λ(t:Int) J=>∃(i:Nat) (r:List cF),t=(i:Int)/\i<=xs.length/\Ext F U J/\fC J F p c ps r/\kv c r (xs.drop i)/\(xs.drop i).foldl (fD c) r=xs.foldl (fD c) ss) (λt _=>xs.length-t.toNat) ⟨0,ss,rfl,O,Ext.refl _ _,h,by simpa using hA,by simp⟩ ?_;rintro t J ⟨i,r,rfl,hil,e,N,y,A⟩;refine cP (λhlt=>?_) λhge=>?_
 ·have w:i<xs.length:=by omega
  have hx:xs[i]?=some xs[i]:=cU w;have hd:xs.drop i=xs[i]::xs.drop (i+1):=wh w;rw[hd]at y A;refine(aH.bS hs e λb _ Q hF=>hX b Q hF).mI hx ?_;obtain⟨k,s,j,L,g,M,G⟩:=G0 (y.1 xs[i] oh);have D:=hi xs[i] (zp w);refine CL N xs[i] D (λhn=>by rw[L]at hn;cases hn) λk' mP rb cs C V Q E=>bK ?_;rw[L]at C;cases C;obtain⟨S,s',W,B,Z⟩:=N.jC V;rw[g]at B;cases B;have eg:=QN W g;have hj:=((UN z).1 M).2;refine E.bT.rP (x:=some ⟨S.1,0,none⟩) (E.get eg.2.2) ?_;refine RX Z D M G λv8 e8 Y=>bK ?_;have H:=Qr W;have R:¬(rb=S.1\/rb=S.2):=λhh=>E.fr.2.2 (by rcases hh with h|h<;>rw[h];exact H.1;exact H.2)
  have hml:=BA s;have d:=GZ hj false;rw[G]at d;have hsl:=Z.len;have hnl:=Z.ok.kB;have u:((s.put j false).many:Int)=s.many-1:=by simp at d;omega
  refine(e8.bT E.bT R).eZ (E.get eg.1) (ar O O (bK ?_));simp only[add_lit,j9];rw[←u];refine N.pB (s':=s.put j false) W g rfl e8 Y Q E λv9 e9 P=>?_;refine cS (m:=i+1) O O ⟨⟨i+1,_,rfl,O,e.trans e9,P,?_,?_⟩,O⟩
  ·have:=kv.next z y
   rwa [yP L g M]at this
  ·rw[qW,yP L g M]at A;exact A
 ·have:i=xs.length:=by omega
  subst this;rw[List.drop_length,List.foldl_nil]at A;subst A;exact hK J e N
theorem Mr (h:fC U F p c ps ss){sl:Sl}{xs:List Int}{X:Rg}(hs:cT sl 1 (xs.map (Value.int .i64)) U X)(hX:∀b,X b->¬F b)(hi:∀x∈xs,iG x)(hl:xs.length<=1000000)(hcap:sl.len<=sl.cap){R:Sl->Int->Hp->Prop}
 (h0:iF c ss xs≠0->R ⟨none,0,0⟩ (iF c ss xs) U)
 (h1:iF c ss xs=0->∀o σ',Ext F U σ'->bR o 2 (iJ c (Qo (xs.foldl (fD c) ss))) σ' (λb=>U.size<=b)->fC σ' (Cut F U) p c (iR ps (xs.foldl (fD c) ss)) (cH (xs.foldl (fD c) ss))->R o 0 σ') :
 YM.c (aW p) sl U R:=by
 refine YM.o ?_;unfold YM.v;have hlen:sl.len=xs.length:=by have:=hs.1;simp at this;omega
 refine VX h (cB rfl ?_);have S:∀i,(xs.take i).any (λx=>eB c ss x==some false)=true\/¬(xs.take i).Nodup->(∀x∈xs,(eB c ss x).isSome=true)->iF c ss xs=9:=by
  intro i d hall;unfold iF;rw[zB,zC]
  ·rcases d with d|d
   ·rw[kf]at d;obtain⟨x,u,ae⟩:=d;have:xs.any (λx=>eB c ss x==some false)=true:=kf.2 ⟨x,vn u,ae⟩;rw[this];rfl
   ·have:¬xs.Nodup:=λE=>d (E.sublist (AO _ _));simp[this]
  ·simp only[qn,mg];intro x u;have:=hall x u;cases ht:eB c ss x
   ·rw[ht]at this;cases this
   ·simp
 refine VO (a:=.b) (bb:=bN) (λ(S:Bool) (t:Int) B=>∃i:Nat,t=(i:Int)/\i<=xs.length/\B=U/\(∀x∈xs.take i,(eB c ss x).isSome=true)/\(S=true↔(xs.take i).any (λx=>eB c ss x==some false)=true\/¬(xs.take i).Nodup)) (λ_ t _=>xs.length-t.toNat)
  ⟨0,rfl,O,rfl,by simp,by simp⟩ ?_
 rintro w t B ⟨i,rfl,hil,rfl,g,C⟩;refine cP (λhlt=>?_) λhge=>?_
 ·have D:i<xs.length:=by omega
  have u:xs[i]?=some xs[i]:=cU D;have ac:=hi xs[i] (zp D);have J:xs.take (i+1)=xs.take i++[xs[i]]:=by rw[kN,u];rfl
  refine hs.mI u (FC h xs[i] ac (λb d=>cB rfl ?_) λE=>cC rfl ?_)
  ·have A:∀x∈xs.take (i+1),(eB c ss x).isSome=true:=by
    rw[J];intro x u;rcases zK.1 u with h1|h1
    ·exact g x h1
    ·simp at h1;subst h1;rw[d];rfl
   have fin:∀L:Bool,(L=true↔(xs.take (i+1)).any (λx=>eB c ss x==some false)=true\/¬(xs.take (i+1)).Nodup)->Ar .i64 ((i:Int)+1) λs=>
    (∃j:Nat,s=(j:Int)/\j<=xs.length/\B=B/\(∀x∈xs.take j,(eB c ss x).isSome=true)/\(L=true↔(xs.take j).any (λx=>eB c ss x==some false)=true\/¬(xs.take j).Nodup))/\xs.length-s.toNat<xs.length-(i:Int).toNat:=
    λL ad=>cS (m:=i+1) O O ⟨⟨i+1,rfl,O,rfl,A,ad⟩,O⟩
   have W:∀y:Int,(xs.take i++[y]).Nodup↔(xs.take i).Nodup/\y∉xs.take i:=λy=>by
    rw[nC];constructor
    ·exact λh=>⟨h.1,λM=>h.2.2 y M y aA rfl⟩
    ·exact λh=>⟨h.1,by simp,λa ha z hz e=>by simp at hz;subst hz;exact h.2 (e▸ha)⟩
   have ex:(xs.take (i+1)).any (λx=>eB c ss x==some false)=true\/¬(xs.take (i+1)).Nodup↔(w=true\/b=false)\/xs[i]∈xs.take i:=by
    rw[J,W,List.any_append,C];simp only[List.any_cons,List.any_nil,Bool.or_false,nG,d];have aa:((some b==some false)=true)↔b=false:=by cases b<;>simp
    rw[aa];constructor
    ·rintro((h|h)|h)
     ·exact .inl (.inl (.inl h))
     ·exact .inl (.inr h)
     ·by_cases E:(xs.take i).Nodup
      ·by_cases M:xs[i]∈xs.take i
       ·exact .inr M
       ·exact absurd ⟨E,M⟩ h
      ·exact .inl (.inl (.inr E))
    ·rintro(((h|h)|h)|h)
     ·exact .inl (.inl h)
     ·exact .inr λK=>h K.1
     ·exact .inl (.inr h)
     ·exact .inr λK=>K.2 h
   have J1:∀r:Bool,(r=true↔w=true\/b=false)->bW (λL v4=>Ar .i64 ((i:Int)+1) λs=>
    (∃j:Nat,s=(j:Int)/\j<=xs.length/\v4=B/\(∀x∈xs.take j,(eB c ss x).isSome=true)/\(L=true↔(xs.take j).any (λx=>eB c ss x==some false)=true\/¬(xs.take j).Nodup))/\xs.length-s.toNat<xs.length-(i:Int).toNat) λJ2=>
    If r (J2 true B) (eX sl 1 0 (i:Int) (sl.cap:Nat) λZ=>Wp.c Z xs[i] B λab v5=>J2 ab v5):=by
    intro r hr;refine bW.intro ?_;cases r
    ·refine cB rfl ?_;refine iQ (lo:=0) O O O ?_;have G:cT ⟨if sl.cap=0 then sl.a else sl.a.map (·.add (0*1)),i-0,sl.cap-0⟩ 1 ((xs.take i).map (Value.int .i64)) B X:=by
      refine⟨by simp;omega,?_⟩;rcases hs.2 with h0|⟨b',o',cs',hf',ha',hb',hc'⟩
      ·left;have:xs=[]:=by simpa using h0
       simp[this]
      ·refine .inr ⟨b',o',cs',hf',?_,hb',λj hj=>?_⟩
       ·rw[zB O,ha'];simp[add_lit]
       ·simp only[zl,za]at hj;rw[hc' j aE,List.map_take,zk,zC O]
     refine MS G aE _ (fin _ ?_);rw[ex,←hr];simp
    ·refine cC rfl (fin true ?_);rw[ex,←hr];simp
   refine bW.intro ?_;cases w
   ·refine cB rfl (J1 _ ?_);cases b<;>simp
   ·exact cC rfl (J1 _ aA)
  ·have:iF c ss xs=8:=by
    unfold iF;rw[zC];exact kf.2 ⟨xs[i],zp D,by rw[E];rfl⟩
   have h0:=h0 (by rw[this];decide);rw[this]at h0;exact h0
 ·have:i=xs.length:=by omega
  subst this;rw[l0]at *;cases w
  ·refine cB rfl ?_;have hE:iF c ss xs=0:=by
    unfold iF;have Y:¬(xs.any (λx=>eB c ss x==some false)=true\/¬xs.Nodup):=λK=>by have:=C.2 K;cases this
    rw[zB,zB]
    ·simp only[not_or,qn,Decidable.not_not]at Y;rw[Y.1];simp[Y.2]
    ·simp only[qn,mg];intro x u;have:=g x u;cases ht:eB c ss x
     ·rw[ht]at this;cases this
     ·simp
   refine Tj (fC.loc.cut h) hs (λb d hf=>hX b d hf.1) hi (Df hE) hl λv6 e6 Q=>?_;refine Rj Q λo V P N H=>?_;exact h1 hE o V ((e6.trans P).sub λb d=>d.1) (aI.mono N λb _ d=>zY e6.1 d) (fC.loc.mono H λb _ d=>d.1)
  ·refine cC rfl ?_;have h9:=S xs.length (by rw[l0];exact C.1 rfl) g;have h0:=h0 (by rw[h9];decide);rw[h9]at h0;exact h0
theorem R7 {x y:Sl}{a o b o':Nat}{cs ds:List Value}(hx:x.a=some ⟨a,o,none⟩)(hy:y.a=some ⟨b,o',none⟩)(ha:bY U a cs)(hb:bY U b ds)(hne:a≠b)(hd:ds≠[]){K:aO}(hK:K false U) :
 tf Tryz.prog 288 [.slice x.a x.len x.cap,.slice y.a y.len y.cap] U K:=by
 rintro w rfl;obtain⟨d,ha⟩:=ha;obtain⟨g,hb⟩:=hb;refine⟨false,w,?_,.refl _,hK⟩;rw[hx,hy,run_callFunc_extern Tryz.func288 (by kernel_rfl) (by kernel_rfl) (by kernel_rfl) (e:=Extern.SlicesOverlaps.overlaps #[255,255] #[4]) (by kernel_rfl)];have:=Lib.run_overlaps_apart (P:=Tryz.prog) w 255 4 262 Tryz.underlying255 3 Tryz.sizeOf262
  ⟨a,o,none⟩ ⟨b,o',none⟩ x.len x.cap y.len y.cap hne d g cs.length ds.length (by simp[World.shape?,ha]) (by simp[World.shape?,hb]) (by simpa using hd) (by simp[World.frozen?,ha]) (by simp[World.frozen?,ha])
 rw[this];rfl
theorem Lh {Q:Rg}{s:Sl}{xs:List Value}{i m vb:Nat}{x y z:Value}(h:bR s 3 xs U Q)(hlen:s.len=m)(hm:m<=2000)(hi:i<=m)(hv:bY U vb [x,y,z])(hvb:¬Q vb)(h1:∀v∈xs,dO v=true)(h2:dO x=true/\dO y=true/\dO z=true)
 {R:Sl->Hp->Prop} (hR:∀s' σ',Ext Q U σ'->bR s' 3 (xs.take (3*i)++[x,y,z]++xs.drop (3*i)) σ' (Grow Q U)->R s' σ') :
 Wg.c s (i:Int) ⟨some ⟨vb,0,none⟩,1,1⟩ U R:=by
 refine Wg.o ?_;unfold Wg.v;have hxl:=h.1;have hcap:s.len<=s.cap:=by
  rcases h.2 with⟨h0,h0'⟩|⟨b,cs,_,_,_,K,_⟩
  ·omega
  ·exact K
 have ad:Rd U (some ⟨vb,0,none⟩) [x,y,z]:=by
  intro j u hu;rw[add_lit,zH,hv.cell];exact hu
 have ho:∀v∈[x,y,z],dO v=true:=by simp[h2]
 refine iQ O O O (cB rfl (cO (λhe=>?_) λhe=>?_))
 ·have Y:i=m:=by
   have:(i:Int)=((s.len:Nat):Int):=by simpa using he
   omega
  refine h.app (ys:=[x,y,z]) rfl rfl ad ho aD aD mU λs' h' hl' e' ae=>hR s' h' e' ?_
  rw[mW O,List.drop_of_length_le O,kI];exact ae
 ·have Y:i<m:=by
   have:¬(i:Int)=((s.len:Nat):Int):=by simpa using he
   omega
  obtain⟨b,cs,P,W,E,K,H,ht⟩:∃b cs,Q b/\s.a=some ⟨b,0,none⟩/\bY U b cs/\s.len<=s.cap/\cs.length=s.cap*3/\cs.take xs.length=xs:=by
   rcases h.2 with⟨h0,_⟩|h
   ·omega
   ·exact h
  have G:vb≠b:=λe=>hvb (e▸P);have w:∀j v,xs[j]?=some v->cs[j]?=some v:=λj v p=>by
   rw[←ht,zk]at p;split at p
   ·exact p
   ·cases p
  refine cS (m:=m+1) aD O (cP (λhgt=>?_) λhle2=>?_)
  ·-- no room: a new row
   refine iQ (lo:=0) O O O (cS (m:=m+1) aD O (cS (m:=m+1-i) O O ?_))
   have B:¬s.cap=0:=by omega
   rw[zB B];simp only[W,zZ,add_lit,uW,j9,Nat.sub_zero];refine⟨O,xs.take (3*i),by rw[za];simp only;omega,?_,by simp[dO],by simp only;omega,by simp only;omega,O,λX=>by simp only at X;omega,λ_ cc J=>?_⟩
   ·intro j v p;rw[add_lit,zH,E.cell];rw[zk]at p;split at p
    ·exact w j v p
    ·cases p
   simp only[dD]at J ⊢;have aa:i+(m+1-i)=m+1:=by omega
   rw[aa]at J ⊢;refine nw λv2 hz2 e2 ac=>?_;have A:∀k,(List.replicate k [Value.int .i64 0,.int .i64 0,.pointer none]).flatten.length=3*k:=λk=>by
    rw[xq,uH,xd];simp;omega
   have g:(xs.take (3*i)).length=3*i:=by rw[za];omega
   refine iQ aD aD aD ?_
   have hv2:=e2.bT hv id;have n1:(if cc=i then(some ⟨U.size,0,none⟩:Option Addr)else(some ⟨U.size,0,none⟩:Option Addr).map (·.add (i*3)))=some ⟨U.size,i*3,none⟩:=by
    have:¬cc=i:=by omega
    rw[zB this];simp[add_lit]
   rw[n1];refine⟨[x,y,z],by simp only;rw[pU O];rfl,?_,ho,?_⟩
   ·intro j u hu;rw[add_lit,zH,hv2.cell];exact hu
   simp only;refine V6 (o:=i*3) (i:=0) ac (by simp only[zO,g,A,zX,lz];omega) λv3 o3 S=>?_;refine cS (m:=i+1) aD O (iQ aD aD aD (iQ O O O ?_))
   have M:bY v3 b cs:=Ws o3 (e2.bT E id) (by have:=E.lt;omega);have d:(xs.drop (3*i)).length=3*(m-i):=by rw[ka];omega
   refine⟨xs.drop (3*i),by simp only;rw[pU O,d];omega,?_,λv hv=>h1 v (sC hv),?_⟩
   ·have r:¬s.cap=i:=by omega
    rw[zB r];simp only[W,zZ,add_lit];intro j v p;rw[add_lit,M.cell];rw[kY]at p;have:=w _ _ p;rw[show 0+i*3+j=3*i+j by omega];exact this
   have hbig:(xs.take (3*i)++(List.replicate (m+1-i) [Value.int .i64 0,.int .i64 0,.pointer none]).flatten++(List.replicate (cc-(m+1)) [Value.int .i64 0,.int .i64 0,.pointer none]).flatten).length=3*cc:=by
    simp only[zO,g,A];omega
   have tk:∀L:List Value,((xs.take (3*i)++(List.replicate (m+1-i) [Value.int .i64 0,.int .i64 0,.pointer none]).flatten++(List.replicate (cc-(m+1)) [Value.int .i64 0,.int .i64 0,.pointer none]).flatten).take (3*i))=xs.take (3*i):=λ_=>by
    rw[jL,po O,mW O]
   have fin:∀v4,QB v3 v4 U.size->bY v4 U.size ((xs.take (3*i)++[x,y,z])++xs.drop (3*i)++((xs.take (3*i)++(List.replicate (m+1-i) [Value.int .i64 0,.int .i64 0,.pointer none]).flatten++(List.replicate (cc-(m+1)) [Value.int .i64 0,.int .i64 0,.pointer none]).flatten).drop (3*i+3)).drop (3*(m-i)))->R ⟨some ⟨U.size,0,none⟩,m+1,cc⟩ v4:=by
    intro v4 o4 b4;refine hR _ v4 ?_ ⟨?_,.inr ⟨U.size,_,.inr (zD _),rfl,b4,by simp only;omega,?_,?_⟩⟩
    ·exact((e2.to.dW o3.ext λi hi=>by subst hi;exact .inr (zD _)).dW o4.ext λi hi=>by subst hi;exact .inr (zD _))
    ·simp only[zO,g,d,zX,lz];omega
    ·simp only[zO,g,d,zX,lz,ka,A];omega
    ·rw[jL (xs.take (3*i)++[x,y,z]),←jL,xF];rfl
   have e3:(xs.take (3*i)++(List.replicate (m+1-i) [Value.int .i64 0,.int .i64 0,.pointer none]).flatten++(List.replicate (cc-(m+1)) [Value.int .i64 0,.int .i64 0,.pointer none]).flatten).take (i*3+0)=xs.take (3*i):=by
    rw[show i*3+0=3*i by omega];exact tk []
   rw[e3]at S;have D:(xs.take (3*i)++[x,y,z]++(xs.take (3*i)++(List.replicate (m+1-i) [Value.int .i64 0,.int .i64 0,.pointer none]).flatten++(List.replicate (cc-(m+1)) [Value.int .i64 0,.int .i64 0,.pointer none]).flatten).drop (i*3+0 + [x,y,z].length)).length=3*cc:=by
    simp only[zO,ka,g,A,zX,lz];omega
   by_cases r:cc=i+1
   ·exfalso;omega
   ·rw[zB r];simp only[zZ,add_lit,zH];refine V6 (o:=(i+1)*3) (i:=0) S (by rw[D,d];omega) λv4 o4 b4=>fin v4 o4 ?_;have q1:(i+1)*3+0=(xs.take (3*i)++[x,y,z]).length:=by rw[zO,g];simp;omega
    have q2:(i+1)*3+0+(xs.drop (3*i)).length=(xs.take (3*i)++[x,y,z]).length+3*(m-i):=by rw[d,q1]
    rw[q2,q1,xF,List.drop_append]at b4
    ·rw[List.drop_of_length_le (show(xs.take (3*i)++[x,y,z]).length<=(xs.take (3*i)++[x,y,z]).length+3*(m-i) by omega),tW]at b4;have q3:i*3+0 + [x,y,z].length=3*i+3:=by simp;omega
     rw[q3]at b4;have q4:(xs.take (3*i)++[x,y,z]).length+3*(m-i)-(xs.take (3*i)++[x,y,z]).length=3*(m-i):=by omega
     rw[q4]at b4;exact b4
    ·rfl
  ·-- room: the rest moves
   have hle3:m+1<=s.cap:=by omega
   have B:¬s.cap=0:=by omega
   have r:¬s.cap=i:=by omega
   refine cS (m:=m+1) aD O (iQ (lo:=0) O O O ?_)
   rw[zB B];simp only[W,zZ,add_lit,uW,j9,Nat.sub_zero];refine cS (m:=i+1) aD O (iQ aD aD aD ?_)
   have C:cs.take (3*m)=xs:=by rw[←hlen,show 3*s.len=xs.length by omega];exact ht
   have Z:∃o',(if s.cap=i+1 then(some ⟨b,0,none⟩:Option Addr)else(some ⟨b,0,none⟩:Option Addr).map (·.add ((i+1)*3)))=some ⟨b,o',none⟩:=by
    split
    ·exact⟨0,rfl⟩
    ·exact⟨_,by simp[add_lit];rfl⟩
   obtain⟨o',Z⟩:=Z;refine R7 (x:=⟨some ⟨vb,0,none⟩,1,1⟩) (a:=vb) (o:=0) (b:=b) rfl Z hv E G (λe=>by rw[e]at H;simp at H;omega) (cC rfl ?_);refine cS (m:=i+1) aD O (iQ aD aD aD (iQ aD aD aD ?_))
   have N:¬s.cap=i+1:=by omega
   rw[zB N,zB r];simp only[zZ,add_lit,zH];have d:(xs.drop (3*i)).length=3*(m-i):=by rw[ka];omega
   refine⟨xs.drop (3*i),by simp only;rw[Nat.min_eq_right O,d];omega,?_,λv hv=>h1 v (sC hv),?_⟩
   ·intro j v p;rw[add_lit,E.cell];rw[kY]at p;have:=w _ _ p;rw[show i*3+j=3*i+j by omega];exact this
   refine V6 (o:=(i+1)*3) (i:=0) E (by rw[d];omega) λv3 o3 S=>?_;refine iQ aD aD aD ?_
   rw[zB r];simp only[zZ,add_lit,zH];have V:=Ws o3 hv G;refine⟨[x,y,z],by simp only;rw[pU O];rfl,?_,ho,?_⟩
   ·intro j u hu;rw[add_lit,zH,V.cell];exact hu
   have ab:(cs.take ((i+1)*3+0)++xs.drop (3*i)++cs.drop ((i+1)*3+0+(xs.drop (3*i)).length)).length=cs.length:=by
    simp only[zO,za,ka,d];omega
   refine V6 (o:=i*3) (i:=0) S (by rw[ab];simp;omega) λv4 o4 b4=>?_;have a1:(cs.take ((i+1)*3+0)).length=3*i+3:=by rw[za];omega
   have g:(xs.take (3*i)).length=3*i:=by rw[za];omega
   have p1:(cs.take ((i+1)*3+0)++xs.drop (3*i)++cs.drop ((i+1)*3+0+(xs.drop (3*i)).length)).take (i*3+0)=xs.take (3*i):=by
    rw[jL,po O,ym,pU O,←C,ym,pU O]
    congr 1;omega
   have p2:(cs.take ((i+1)*3+0)++xs.drop (3*i)++cs.drop ((i+1)*3+0+(xs.drop (3*i)).length)).drop (i*3+0 + [x,y,z].length)=xs.drop (3*i)++cs.drop ((i+1)*3+0+(xs.drop (3*i)).length):=by
    rw[jL,List.drop_left'];rw[a1];simp;omega
   rw[p1,p2,←jL]at b4;refine hR _ v4 ((Ext.eM (F:=Q) o3 P).trans (Ext.eM o4 P)) ⟨?_,.inr ⟨b,_,.inl P,rfl,b4,aD,?_,?_⟩⟩
   ·simp only[zO,g,zX,lz,d];omega
   ·simp only[zO,g,ka,zX,lz,d];omega
   ·rw[xF];rfl
def Zm (ss:List cF)(st:Nat):Nat:=(ss.takeWhile (λs=>s.st<st)).length
theorem Gh (l:List cF)(P:cF->Bool):l.takeWhile P=l.take (l.takeWhile P).length/\l.dropWhile P=l.drop (l.takeWhile P).length:=by
 induction l with
 | nil=>simp
 | cons x l ih=>
  simp only[List.takeWhile_cons,List.dropWhile_cons];cases P x
  ·simp
  ·simp only[zS,zX,uw,y5];exact⟨by rw[←ih.1],ih.2⟩
theorem G5 (c:bZ)(ss:List cF)(st:Nat):ij c ss st=ss.take (Zm ss st)++⟨st,List.replicate c.n false⟩::ss.drop (Zm ss st):=by
 have:=Gh ss (λs=>decide (s.st<st));unfold ij Zm;rw[this.2,←this.1]
theorem Ge (hs:ss.Pairwise (λa b=>a.st<b.st))(st:Nat):Zm ss st<=ss.length/\∀(i:Nat) s,ss[i]?=some s->(s.st<st↔i<Zm ss st):=by
 unfold Zm
 induction ss with
 | nil=>simp
 | cons x ss ih=>
  have e:=r5.1 hs;obtain⟨j,g⟩:=ih e.2;simp only[List.takeWhile_cons];by_cases hx:x.st<st
  ·simp only[hx,decide_true,zS,zX];refine⟨O,λi s d=>?_⟩;cases i with
   | zero=>simp at d;subst d;simp[hx]
   | succ i=>have:=g i s (by simpa using d);omega
  ·simp only[hx,decide_false,ze,j8,lz,Nat.zero_le,Nat.not_lt_zero,iff_false,tI];intro i s d;cases i with
   | zero=>simp at d;subst d;exact hx
   | succ i=>
    have:=e.1 s (zG (i:=i) (by simpa using d));omega
theorem MC (h:fC U F p c ps ss){σ1:Hp}(e1:aG U σ1){sl:Sl}{rb:Nat}{cs:List Value}(hl:sl.len=ss.length)(hE:ss≠[]->sq U F p ps ss sl rb cs)(st:Nat)(hst:st<=1024){R:Int->Bool->Hp->Prop}(hR:∀σ' b,aG σ1 σ'->R (Zm ss st:Int) b σ') :
 Wb.c sl (st:Int) ⟨259,#[],#[]⟩ σ1 R:=by
 refine Wb.o ?_;unfold Wb.v;have N:=h.qf;obtain⟨M,kM⟩:=Ge h.mM st;have B:∀(k:Nat) (x:Nat×Nat) s (v:Hp) (K:aN),ps[k]?=some x->ss[k]?=some s->aG σ1 v->(∀z,aG v z->K ((s.st:Int)-(st:Int)) z) →
  V5 Tryz.prog ⟨259,#[],#[]⟩ [.agg #[.int .i64 (s.many:Int),.int .i64 (s.st:Int),.pointer (some ⟨x.1,0,none⟩)],.int .i64 (st:Int)] [.one bN] v K:=by
  intro k x s v K w r ev hK;refine pK (all := #[.agg #[.int .i64 (s.many:Int),.int .i64 (s.st:Int),.pointer (some ⟨x.1,0,none⟩)],.int .i64 (st:Int)]) (by kernel_rfl) aA ?_;refine YH.o ?_;unfold YH.v;have hf:=(h.sp k x s w r).fit;refine nw (cs:=[.int .i64 (s.many:Int),.int .i64 (s.st:Int),.pointer (some ⟨x.1,0,none⟩)]) λZ hz e H=>H.eZ rfl (ar O O (hK Z e))
 refine VO (a:=bN) (bb:=bN) (λ(i j:Int) v=>∃a b:Nat,i=(a:Int)/\j=(b:Int)/\a<=Zm ss st/\Zm ss st<=b/\b<=ss.length/\aG σ1 v) (λi j _=>j.toNat-i.toNat) ⟨0,ss.length,rfl,by rw[hl],O,M,O,Ext.refl _ _⟩ ?_;rintro i j v ⟨a,b,rfl,rfl,X,H,D,ev⟩;have A:aG U v:=e1.trans ev;refine cP (λY=>?_) λaa=>?_
 ·have y:ss≠[]:=by rintro rfl;simp at D;omega
  have E:=hE y;refine cS (m:=a+b) O O ?_;have W:IntKind.u64.wrap ((a+b:Nat):Int)=((a+b:Nat):Int):=by
   unfold IntKind.wrap;simp[IntKind.bits,IntKind.signed];omega
  refine xT ?_;rw[W];refine nn O ?_;have L:min (1:Int).toNat IntKind.u64.bits=1:=by decide
  rw[L,Ef];have C:(((a+b:Nat):Int)/2^1)=(((a+b)/2:Nat):Int):=by omega
  refine cS (m:=(a+b)/2) C O ?_;have d:(a+b)/2<ss.length:=by omega
  obtain⟨x,s,w,r,hS⟩:=h.jC d;have u:=QN w r;rw[E.a];refine ix O O ?_;rw[add_lit,show 0+(((a+b)/2:Nat):Int).toNat*3=3*((a+b)/2) by omega];refine vO (e:=0) (A.bT E.bT id) (E.get u.1) (E.get u.2.1) (E.get u.2.2) (B _ x s v _ w r ev λz G=>?_);have g:=kM _ s r;show If (decide (((s.st:Int)-(st:Int))<0)) _ _;refine cP (λQ=>?_) λP=>?_
  ·exact cS (m:=(a+b)/2+1) O O ⟨⟨_,b,rfl,rfl,by have:=g.1 O;omega,H,D,ev.trans G⟩,O⟩
  ·exact⟨⟨a,_,rfl,rfl,X,by
    apply Classical.byContradiction;intro hc;have:=g.2 O;omega,O,ev.trans G⟩,O⟩
 ·have J:a=Zm ss st:=by omega
  subst J;refine bW.intro (cP (λS=>?_) λV=>hR v _ ev);have d:Zm ss st<ss.length:=by omega
  have y:ss≠[]:=by rintro rfl;simp at d
  have E:=hE y;obtain⟨x,s,w,r,hS⟩:=h.jC d;have u:=QN w r;rw[E.a];refine ix O O ?_;rw[add_lit,show 0+(Zm ss st:Int).toNat*3=3*Zm ss st by omega];refine vO (e:=0) (A.bT E.bT id) (E.get u.1) (E.get u.2.1) (E.get u.2.2) (B _ x s v _ w r ev λz G=>hR z _ (ev.trans G))
theorem PV (h:fC U F p c ps ss){st:Nat}(hf:st+c.aF<=1024){R:aN}(h9:GB c ss st=9->∀σ',aG U σ'->R 9 σ')
 (h0:GB c ss st=0->∀σ' ps',Ext F U σ'->fC σ' (Grow F U) p c ps' (ij c ss st)->R 0 σ'):YT.c (aW p) (st:Int) U R:=by
 refine YT.o ?_;unfold YT.v;have h:=fC.loc.cut h;obtain⟨sl,d,hl,hrow,rb,cs,hE⟩:=h.mP;have hfew:=h.qf;have hc:=h.ok;have hck:=hc;unfold bZ.ok at hck;refine VX h (cB rfl (bK (d.eZ rfl (d.eZ rfl (d.eZ rfl ?_)))));refine Md hc hf λv1 D M e1 hpn hqn Q=>cB rfl (bK ((e1.bT d id).rS rfl ?_));have hplt:=d.lt;refine Qc (a:=bN) (λ(t:Int) v=>∃i:Nat,t=(i:Int)/\i<=ss.length/\aG v1 v/\∀(j:Nat) s,j<i->ss[j]?=some s->¬max s.st st-min s.st st<c.aF) (λt _=>ss.length-t.toNat) ⟨0,rfl,O,Ext.refl _ _,λj s z=>O⟩ ?_;rintro t v ⟨i,rfl,Z,ev,N⟩;have w:=e1.trans ev;refine cP (λhlt=>?_) λhge=>?_
 ·simp only at hlt;have hi':i<ss.length:=by omega
  obtain⟨E,hcap,hcl⟩:=hE (by rintro rfl;simp at hi');obtain⟨x,s,y,g,hS⟩:=h.jC hi';have eg:=QN y g;have hsf:=hS.fit;rw[E.a];refine ix O O ?_;rw[add_lit,show 0+(i:Int).toNat*3=3*i by omega];refine vO (e:=0) (w.bT E.bT id) (E.get eg.1) (E.get eg.2.1) (E.get eg.2.2) (FM λv6 e6 b6=>b6.eZ rfl (b6.eZ rfl ?_));have hd:(if(st:Int)>(s.st:Int)then(st:Int)else(s.st:Int))-(if(st:Int)<(s.st:Int)then(st:Int)else(s.st:Int))=((max s.st st-min s.st st:Nat):Int):=by
   split<;>split<;>omega
  refine cS (m:=max s.st st-min s.st st) hd O (bK (((w.trans e6).bT d id).eZ rfl ?_));refine cP (λhlt2=>h9 ?_ _ (w.trans e6)) λhge2=>?_
  ·unfold GB;rw[zC];exact kf.2 ⟨s,zG g,by simpa using(by omega:max s.st st-min s.st st<c.aF)⟩
  ·refine cS (m:=i+1) O O ⟨⟨i+1,rfl,O,ev.trans e6,λj s' z W=>?_⟩,O⟩;by_cases e:j=i
   ·subst e;rw[g]at W;cases W;omega
   ·exact N j s' O W
 ·have hii:i=ss.length:=by simp only at hge;omega
  subst hii;have hE0:GB c ss st=0:=by
   unfold GB;rw[zB];simp only[qn,mg,zU];intro s g;obtain⟨j,z⟩:=zQ g;exact N j s (cX.1 z).1 z
  refine bK ((w.bT d id).rS rfl ?_);refine MC h w hl (λS=>(hE S).1) st O λv7 bb e7=>bK (((w.trans e7).bT d id).rS rfl ?_);have aa:=w.trans e7;obtain⟨hp1,kM⟩:=Ge h.mM st;refine nw (cs:=[.int .i64 0,.int .i64 st,.pointer (some ⟨D,0,none⟩)]) λv8 hz8 e8 hb8=>?_;have J:=aa.trans e8;have V:=aI.bO hrow J;have hsz7:=aa.1;refine Lh V hl O hp1 hb8 (λr=>by have:=r.1.2;omega) CT ⟨rfl,rfl,rfl⟩ λs' v9 e9 hr9=>bK ?_;have hb9:=e9.bT (J.bT d id) λr=>r.2.1 rfl;refine hb9.s1 aA λP fP hb10=>?_;have H:=h.len;have A:=h.nd;simp only[zo]at A;have hlt:=Q.lt;have hsz1:=(ev.trans e7).trans e8 |>.1;have B:∀b∈eA ps,b<U.size:=λb d=>(h.fb b d).2;have hS9:∀{a b s'},ic v8 a b c s'->¬(Cut F U a/\a≠p/\a∉eA ps)->¬(Cut F U b/\b≠p/\b∉eA ps)->a≠p->b≠p->ic P a b c s':=λhS n1 n2 m1 m2=>(hS.bS e9 n1 n2).bS fP.ext m1 m2;have hnew:=((Q.bO ev).bO e7).bO e8;have hent:dQ (ps.take (Zm ss st)++(D,M)::ps.drop (Zm ss st)) (ss.take (Zm ss st)++⟨st,List.replicate c.n false⟩::ss.drop (Zm ss st)) =
   (dQ ps ss).take (3*Zm ss st)++[.int .i64 0,.int .i64 st,.pointer (some ⟨D,0,none⟩)]++(dQ ps ss).drop (3*Zm ss st):=by
   rw[Vk (by simp[H])];have u:dQ ps ss=dQ (ps.take (Zm ss st)) (ss.take (Zm ss st))++dQ (ps.drop (Zm ss st)) (ss.drop (Zm ss st)):=by
    rw[←Vk (by simp[H]),oc,oc]
   have h2:(dQ (ps.take (Zm ss st)) (ss.take (Zm ss st))).length=3*Zm ss st:=by rw[Ka (by simp[H]),za];omega
   rw[u,xF h2,List.drop_left' h2,jL];have:cF.many ⟨st,List.replicate c.n false⟩=0:=by simp[cF.many,yN]
   simp[dQ,this]
  refine h0 hE0 P (ps.take (Zm ss st)++(D,M)::ps.drop (Zm ss st)) ?_ ?_
  ·refine(((aG.to J).trans (e9.sub λb d=>d.1.1))).trans (fP.ext.sub λb d=>d▸h.fp.1)
  ·have C:(eA (ps.take (Zm ss st)++(D,M)::ps.drop (Zm ss st))).Perm (D::M::eA ps):=by
    have:eA ps=eA (ps.take (Zm ss st))++eA (ps.drop (Zm ss st)):=by
     conv=>lhs;rw[←oc (Zm ss st) ps]
     simp only[eA,yz]
    rw[this];have h3:eA (ps.take (Zm ss st)++(D,M)::ps.drop (Zm ss st))=eA (ps.take (Zm ss st))++D::M::eA (ps.drop (Zm ss st)):=by simp[eA]
    rw[h3];exact List.perm_middle.trans ((List.perm_middle).cons D)
   have X:∀b,b∈eA (ps.take (Zm ss st)++(D,M)::ps.drop (Zm ss st))↔b=D\/b=M\/b∈eA ps:=by
    intro b;rw[C.mem_iff];simp
   refine⟨⟨s',hb10,?_⟩,λi x s y g=>?_,.inl h.fp.1,λb d=>?_,?_,?_,hc,?_⟩
   ·rw[G5,hent];refine aI.bS (aI.mono hr9 λb _ d=>?_) fP.ext λb _ d he=>d.2.1 he;rw[X];rcases d with d|d
    ·exact⟨.inl d.1.1,d.2.1,λr=>by
      rcases r with h|h|h
      ·have:=d.1.2;omega
      ·have:=d.1.2;omega
      ·exact d.2.2 h⟩
    ·exact⟨.inr O,O,λr=>by
      rcases r with h|h|h
      ·omega
      ·omega
      ·have:=B b h;omega⟩
   ·rw[G5]at g;have K:(ps.take (Zm ss st)).length=Zm ss st:=by rw[za];omega
    have L:(ss.take (Zm ss st)).length=Zm ss st:=by rw[za];omega
    have old:∀j:Nat,ps[j]?=some x->ss[j]?=some s->ic P x.1 x.2 c s:=λj u h2=>by
     have G:=Qr u;exact hS9 ((h.sp j x s u h2).bO J) (λr=>r.2.2 G.1) (λr=>r.2.2 G.2) (λe=>A.1 (e▸G.1)) (λe=>A.1 (e▸G.2))
    rcases pR i (Zm ss st)with hlt'|heq|hgt
    ·rw[zh O,zk,zC hlt']at y g;exact old i y g
    ·rw[zt O]at y g;rw[K,heq,qD]at y;rw[L,heq,qD]at g;simp at y g;subst y;subst g;exact hS9 hnew (λr=>by have:=r.1.2;simp only at this;omega) (λr=>by have:=r.1.2;simp only at this;omega) aC aC
    ·rw[zt O]at y g;rw[K]at y;rw[L]at g;obtain⟨k,hk⟩:∃k,i-Zm ss st=k+1:=⟨i-Zm ss st-1,O⟩;rw[hk,AM,kY]at y g;exact old _ y g
   ·rcases(X b).1 d with u|u|u
    ·subst u;exact .inr hpn
    ·subst u;exact .inr hqn
    ·exact .inl (h.fb b u).1
   ·simp only[zo];refine⟨λG=>?_,?_⟩
    ·rcases(X p).1 G with u|u|u
     ·omega
     ·omega
     ·exact A.1 u
    ·rw[C.nodup_iff];simp only[zo,zV,not_or];have S:=Q.ne;exact⟨⟨S,λG=>by have:=B _ G;omega⟩,λG=>by have:=B _ G;omega,A.2⟩
   ·rw[G5];simp[H]
   ·rw[G5];rw[pY];have Y:=h.mM;refine⟨Y.sublist (AO _ _),r5.2 ⟨λs g=>?_,Y.sublist (List.drop_sublist _ _)⟩,λa ha b d=>?_⟩
    ·obtain⟨j,z⟩:=zQ g;rw[kY]at z;have u:=kM _ s z;have h2:s.st≠st:=λe=>by
      have:=N (Zm ss st+j) s (cX.1 z).1 z;rw[e]at this;simp at this;omega
     show st<s.st;omega
    ·obtain⟨i,Z⟩:=zQ ha;rw[zk]at Z;split at Z
     ·rename_i hlt';have hat:=(kM i a Z).2 hlt';rcases zV.1 d with rfl|d
      ·exact hat
      ·obtain⟨j,z⟩:=zQ d;rw[kY]at z;obtain⟨hi1,hi2⟩:=cX.1 Z;obtain⟨hj1,hj2⟩:=cX.1 z;have:=k6.1 Y i (Zm ss st+j) hi1 hj1 O;rw[hi2,hj2]at this;exact this
     ·cases Z
end Go.Ar
namespace Go.Proofs
open Go.Vc
set_option maxRecDepth 100000
def Xe.h:Hn:=.q .o1 (.q (.cQ (.seq [.op,.op,.op,.cW true 5 (RI.ops 5),.op])) .l)
def Xe.v (a:R2)(b:Hp)(c:aO):Prop:=bW (λd e=>c d e) λf=>If (!a.isNone) (bD a 0 b λh=>f (decide (h>0)) b) (f false b)
theorem Xe.o {a b c}(d:Xe.v a b c):Xe.c a b c:=Wa Tryz.func180 (x:=Xe.h) (R0 d)
def ZX.h:Hn:=.q .o2 (.q (.q (.cQ (.seq [.op,.op,.op,.cW false 2 [.op,.op],.op,.cW false 2 [.op,.op],.op,.cW false 2 [.op,.op]])) .aJ) (.q .o6 .l))
def ZX.v (a b:Int)(c:Hp)(d:Option Addr->Int->Hp->Prop):Prop:=bW (λe f=>bW (λg h=>bW (λi j=>If i (d none 1 j) (aV #[.I a,.I b,.I 0,.slice none 0 0] 266 j λk l=>d (some k) 0 l)) λm=>If g (m true h) (m (decide (b>8)) h)) λn=>If e (n true f) (n (decide (b<0)) f)) λo=>If (a<1) (o true c) (o (decide (a>32)) c)
theorem ZX.o {a b c d}(e:ZX.v a b c d):ZX.c a b c d:=Wa Tryz.func200 (x:=ZX.h) (R0 e)
def WC.h:Hn:=.q .o2 (.q (.k (.q .o4 (.c .aL (.q .o7 .aJ)))) (.q .o7 (.q .o8 (.q .fP (.q .fP (.q .o3 .l))))))
def WC.v (a:R2)(b:Hp)(c:Sl->Int->Hp->Prop):Prop:=Xe.c a b λd e=>If (!d) (c ⟨none,0,0⟩ 5 e) (bE a 3 e λg=>If (((g.len:Nat):Int)==0) (c ⟨none,0,0⟩ 4 e) (bE a 3 e λi=>bL (((i.len:Nat):Int)-1) λj=>bE a 3 e λl=>Ix l.a l.len j 1 λm=>ju m e λn=>bE a 3 e λp=>eX p 1 0 j (p.cap:Nat) λq=>bV a λr=>aR r 3 (.slice q.a q.len q.cap) e λs=>bD a 2 s λu=>bV a λv=>aR v 2 (.I (if j<u then j else u)) s λw=>c n 0 w))
theorem WC.o {a b c}(d:WC.v a b c):WC.c a b c:=Wa Tryz.func207 (x:=WC.h) (R0 d)
def W4.h:Hn:=.q .o2 (.q (.k (.q .o4 (.c .aL (.q .o8 (.c .aL (.q (.oq 11) .aJ)))))) (.q (.cQ (.held true [8,11] (.tk [0,1,2,3,4,5] (.all [(6,.all [(7,.all [(8,.take 9 (.take 10 (.all [(11,.done)])))])])])))) .aL))
def W4.v (a:R2)(b:Sl)(c:Hp)(d:Bool->Int->Hp->Prop):Prop:=Xe.c a c λe f=>If (!e) (d false 5 f) (bD a 0 f λh=>If (((b.len:Nat):Int) != h) (d false 1 f) (bE a 3 f λj=>bD a 1 f λl=>If (((j.len:Nat):Int)≥l) (d false 0 f) (dY f λm=>bV a λn=>aT m n 3 λo=>WE.c b f λp q=>And (m q) <| aV #[.slice p.a p.len p.cap] 34 q λr s=>And (m s) <| App o 1 24 34 [.slice none 0 0] ⟨some r,1,1⟩ s λt u=>bV a λv=>aR v 3 (.slice t.a t.len t.cap) u λw=>d true 0 w)))
theorem W4.o {a b c d}(e:W4.v a b c d):W4.c a b c d:=Wa Tryz.func266 (x:=W4.h) (R0 e)
end Go.Proofs
namespace Go.Ar
open Go Go.Vc Go.Proofs
variable {U:Hp}{F:Rg}{p batch room:Nat}{t:gI}
def pV (s:Sl):Value:=.slice s.a s.len s.cap
def Wj (xs:List Int):List Value:=xs.map (Value.int .i64)
theorem VK {l:List Int}:∀v∈Wj l,dO v=true:=by
 intro v hv;simp only[Wj,zE]at hv;obtain⟨x,_,rfl⟩:=hv;rfl
def qO (sls:List Sl)(bs:List (List Int))(U:Hp)(D:Rg):Prop:=sls.length=bs.length/\∀(i:Nat) s xs,sls[i]?=some s->bs[i]?=some xs->cT s 1 (Wj xs) U D/\s.len<=s.cap
theorem qO.loc (sls:List Sl)(bs:List (List Int)):dM (qO sls bs):=λU j F G h g e=>⟨h.1,λi s a d b=>⟨cT.loc _ _ _ _ _ _ _ (h.2 i s a d b).1 g e,(h.2 i s a d b).2⟩⟩
def Dj (sls:List Sl):Prop:=sls.Pairwise λs t=>∀a a',s.a=some a->t.a=some a'->a.block≠a'.block
def kP (s:Sl)(b:Nat):Prop:=∃a,s.a=some a/\a.block=b
theorem _root_.Go.Vc.cT.lS {s:Sl}{sz:Nat}{xs:List Value}{D:Rg}(h:cT s sz xs U D):cT s sz xs U λb=>D b/\kP s b:=
 ⟨h.1,h.2.imp id λ⟨b,o,d,e,a,r⟩=>⟨b,o,d,⟨e,_,a,rfl⟩,a,r⟩⟩
theorem _root_.Go.Vc.cT.bT {s:Sl}{sz:Nat}{xs:List Value}{D:Rg}(h:cT s sz xs U D)(hx:xs≠[]){b:Nat}(hb:kP s b):D b/\b<U.size:=by
 rcases h.2 with h0|⟨b',o,cs,hq,ha,hc,_⟩
 ·exact absurd h0 hx
 ·obtain⟨a,d,rfl⟩:=hb;rw[ha]at d;cases d;exact⟨hq,hc.lt⟩
theorem Dj.snoc {sls:List Sl}{bs:List (List Int)}{D:Rg}{z:Nat}{s':Sl}{xs:List Value}{v:Hp}(h:Dj sls)(hB:qO sls bs U D)(hne:∀xs∈bs,xs≠[])(hz:∀b,D b->b<z)(hs:bR s' 1 xs v λb=>z<=b)(hx:xs≠[]):Dj (sls++[s']):=by
 refine pY.2 ⟨h,List.pairwise_singleton _ _,λs e u j a p x w=>?_⟩;rw[zL]at j;subst j;obtain⟨i,m⟩:=zQ e;have g:=(cX.1 m).1;have d:bs[i]?=some (bs[i]'(by rw[←hB.1];exact g)):=cU _;have r:=((hB.2 i s _ m d).1.bT (by simp only[Wj,ne_eq,yW];exact hne _ (zG d)) ⟨a,x,rfl⟩).1;have y:=(hs.fX.bT hx ⟨p,w,rfl⟩).1;have:=hz _ r;omega
structure jq (U:Hp) (F:Rg) (p batch room:Nat) (t:gI):Prop where
 mem:∃(sl:Sl) (sls:List Sl) (D:Rg),bY U p [.int .i64 (batch:Int),.int .i64 (room:Int),.int .i64 (t.low:Int),.slice sl.a sl.len sl.cap]/\bR sl 1 (sls.map pV) U (λb=>F b/\b≠p/\¬D b)/\qO sls t.bs U D/\(∀b,D b->F b/\b≠p)/\Dj sls
 fp:F p
 b1:1<=batch/\batch<=32
 r1:room<=8
 qf:t.bs.length<=room
 low:t.low<=t.bs.length
 all:∀xs∈t.bs,xs.length=batch
theorem jq.loc:dM λU F=>jq U F p batch room t:=λU x F G h m d=>by
 obtain⟨sl,i,D,a,s,u,j,w⟩:=h.mem;refine⟨⟨sl,i,λb=>D b/\b<U.size,?_,?_,?_,λb a=>⟨(d b a.2 (j b a.1).1).1,(j b a.1).2⟩,w⟩,(d p a.lt h.fp).1,h.b1,h.r1,h.qf,h.low,h.all⟩
 ·obtain⟨e,r⟩:=a;exact⟨e,(d p (bY.lt ⟨e,r⟩) h.fp).2.trans r⟩
 ·exact bR.loc _ _ _ _ _ _ _ s m λb a g=>⟨⟨(d b a g.1).1,g.2.1,λhd=>g.2.2 hd.1⟩,(d b a g.1).2⟩
 ·exact qO.loc _ _ _ _ _ _ u m λb a hd=>⟨⟨hd,a⟩,(d b a (j b hd).1).2⟩
theorem BQ (h:jq U F p batch room t){R:aO}(hR:R true U):Xe.c (aW p) U R:=by
 refine Xe.o ?_;unfold Xe.v;obtain⟨sl,b,D,a,_⟩:=h.mem;have:=h.b1;refine bW.intro (cC rfl (bK (a.rI rfl ?_)));rw[zJ O];exact hR
theorem _root_.Go.Vc.cT.Rf {s:Sl}{F:Rg}{sls:List Sl}(h:cT s 1 (sls.map pV) U F){i:Nat}{x:Sl}(hx:sls[i]?=some x){K:Sl->Prop}(hK:K x):Ix s.a s.len (i:Int) 1 λa=>ju a U K:=by
 have m:=(cX.1 hx).1;obtain⟨b,o,d,g⟩:=h.cell (j:=i) (v:=pV x) (by simp[hx]);have e:=h.1;rw[zl]at e;rw[d];refine ix O O ?_;rw[add_lit];exact og (by simpa[pV]using g) hK
theorem SV (h1:1<=batch)(h2:batch<=32)(h3:room<=8){R:Option Addr->Int->Hp->Prop}(hR:∀σ' p,aG U σ'->U.size<=p->p<σ'.size->jq σ' (· = p) p batch room ⟨0,[]⟩->R (some ⟨p,0,none⟩) 0 σ'):ZX.c batch room U R:=by
 refine ZX.o ?_;unfold ZX.v;refine bW.intro (fT O (bW.intro (fT O (bW.intro (fT O (fT O ?_))))));refine nw (cs:=[.int .i64 batch,.int .i64 room,.int .i64 0,.slice none 0 0]) λv g e a=>?_;exact hR v _ e (zD _) O ⟨⟨⟨none,0,0⟩,[],λ_=>False,a,bR.nil _ _ _ _,⟨rfl,λi s d h=>by simp at h⟩,λb h=>h.elim,List.Pairwise.nil⟩,rfl,⟨h1,h2⟩,h3,by simp,by simp,by simp⟩
theorem NN (h:jq U F p batch room t){sl:Sl}{xs:List Int}{X:Rg}(hs:cT sl 1 (Wj xs) U X)(hl:xs.length<=1000000){R:Bool->Int->Hp->Prop}(h1:xs.length≠batch->R false 1 U)(h2:xs.length=batch->room<=t.bs.length->R false 0 U)
 (h3:xs.length=batch->t.bs.length<room->∀σ',Ext F U σ'->jq σ' (Grow F U) p batch room {t with bs:=t.bs++[xs]}->R true 0 σ'):W4.c (aW p) sl U R:=by
 refine W4.o ?_;unfold W4.v;have h:=jq.loc.cut h;obtain⟨C,x,D,d,hr,z,K,hJ⟩:=h.mem;have r:sl.len=xs.length:=by have:=hs.1;simp[Wj]at this;omega
 have hso:C.len=t.bs.length:=by have:=hr.1;rw[zl,z.1]at this;omega
 have hr8:=h.r1;have hb1:=h.b1;refine BQ h (cB rfl (bK (d.rI rfl ?_)));rw[qU];refine cO (λB=>h1 (by rw[←r];simpa using B)) λS=>?_;have g:xs.length=batch:=by rw[←r];simpa using S
 refine bK (d.rS rfl (bK (d.rI rfl (cP (λW=>h2 g (by simp only at W;omega)) λP=>?_))));simp only at P;refine⟨λh'=>bY h' p [.int .i64 (batch:Int),.int .i64 (room:Int),.int .i64 (t.low:Int),.slice C.a C.len C.cap],d,bK ⟨C,λh' Z=>by rw[add_lit,Z.cell];rfl,?_⟩⟩;refine Hv hs VK O λw v1 hl1 e1 A=>⟨e1.bT d id,?_⟩;refine nw (cs:=[.slice w.a w.len w.cap]) λv2 hz2 e2 Q=>⟨(e1.trans e2).bT d id,?_⟩;have M:=aI.bO (aI.bO hr e1) e2;refine M.app (ys:=[pV w]) rfl rfl ?_ (by simp[dO,pV]) ?_ ?_ mU λs2 v3 hl3 N Y=>bK ?_
 ·intro j u hu;rw[add_lit,zH,Q.cell];exact hu
 ·simp only;have:(C.len+1)*24<=9*24:=l5 O O;omega
 ·simp only;omega
 ·have V:=N.bT ((e1.trans e2).bT d id) λH=>H.2.1 rfl;have hplt:=d.lt;have hs1:=e1.1;refine V.s1 aA λv4 o4 L=>h3 g O v4 ?_ ?_
  ·exact((aG.to (e1.trans e2)).trans (N.sub λb d=>d.1.1)).trans (o4.ext.sub λb d=>d▸h.fp.1)
  ·refine⟨⟨s2,x++[w],λb=>D b/\b<U.size\/U.size<=b/\b<v1.size,L,?_,⟨by simp[z.1],λi s ys y m=>?_⟩,λb d=>?_,?_⟩,.inl h.fp.1,h.b1,h.r1,by simp;omega,by have:=h.low;simp;omega,λys m=>?_⟩
   ·rw[zy];refine aI.bS (aI.mono Y λb _ d=>?_) o4.ext λb _ d he=>d.2.1 he;rcases d with d|d
    ·exact⟨.inl d.1.1,d.2.1,λhd=>by
      rcases hd with hd|hd
      ·exact d.2.2 hd.1
      ·have:=d.1.2;omega⟩
    ·exact⟨.inr O,O,λhd=>by rcases hd with hd|hd<;>omega⟩
   ·have mv:∀{s:Sl} {ys:List Int} {G:Rg},cT s 1 (Wj ys) v2 G->(∀b,G b->b≠p/\¬(Cut F U b/\b≠p/\¬D b))->cT s 1 (Wj ys) v4 G:=λZ hn=>
     aH.bS (aH.bS Z N λb _ d=>(hn b d).2) o4.ext λb _ d he=>(hn b d).1 he
    rcases kE i x.length with hi'|hi'
    ·rw[zh hi']at y;rw[zh (by rw[←z.1];exact hi')]at m;obtain⟨k1,k2⟩:=z.2 i s ys y m;refine⟨aH.mono (mv (aH.bO (aH.bO (aH.mono k1 (G:=λb=>D b/\b<U.size) λb d hd=>⟨hd,d⟩) e1) e2) λb hd=>⟨(K b hd.1).2,λH=>H.2.2 hd.1⟩) λb _ hd=>.inl hd,k2⟩
    ·rw[zt hi']at y;rw[zt (by rw[←z.1];exact hi')]at m;have E:i-x.length=0:=by
      have:=(cX.1 y).1;simp at this;omega
     rw[E]at y;rw[show i-t.bs.length=0 by rw[←z.1];exact E]at m;simp at y m;subst y;subst m;have J:w.len<=w.cap:=by
      rcases A.2 with⟨q1,q2⟩|⟨_,_,_,_,_,q,_⟩
      ·omega
      ·exact q
     refine⟨aH.mono (mv (aH.bO (aH.mono A.fX (G:=λb=>U.size<=b/\b<v1.size) λb d hd=>⟨hd,d⟩) e2) λb hd=>⟨O,λH=>by have:=H.1.2;omega⟩) λb _ hd=>.inr hd,J⟩
   ·rcases d with hd|hd
    ·exact⟨.inl (K b hd.1).1.1,(K b hd.1).2⟩
    ·exact⟨.inr hd.1,O⟩
   ·have B:∀ys∈t.bs,ys≠[]:=λys m e=>by have:=jq.all ‹_› ys m;rw[e]at this;simp at this;omega
    exact hJ.snoc z B (λb hd=>(K b hd).1.2) A (by simp only[Wj,ne_eq,yW];intro e;rw[e]at g;simp at g;omega)
   ·rcases zK.1 m with h|h
    ·exact jq.all ‹_› ys h
    ·simp at h;subst h;exact g
theorem S4 (h:jq U F p batch room t)(h0:t.bs=[]){R:Sl->Int->Hp->Prop}(hR:R ⟨none,0,0⟩ 4 U):WC.c (aW p) U R:=by
 refine WC.o ?_;unfold WC.v;obtain⟨d,b,D,i,e,g,j,m⟩:=h.mem;have a:d.len=t.bs.length:=by have:=e.1;rw[zl,g.1]at this;omega
 refine BQ h (cB rfl (bK (i.rS rfl (cC ?_ hR))));simp[a,h0]
theorem Jo (h:jq U F p batch room t)(h0:t.bs≠[]){R:Sl->Int->Hp->Prop}(hR:∀out σ',Ext F U σ'->(∀b,kP out b->F b)->cT out 1 (Wj (t.bs.getLast?.getD [])) σ' (kP out)->out.len<=out.cap->jq σ' (λb=>F b/\¬kP out b) p batch room t.rem->R out 0 σ'):WC.c (aW p) U R:=by
 refine WC.o ?_;unfold WC.v;obtain⟨P,g,D,d,J,z,B,Z⟩:=h.mem;have hso:P.len=t.bs.length:=by have:=J.1;rw[zl,z.1]at this;omega
 have W:=qe.2 h0;have hr8:=h.r1;have hfw:=h.qf;have Y:=h.low;have K:t.bs.length-1<g.length:=by rw[z.1];omega
 obtain⟨o,Q⟩:∃o,g[t.bs.length-1]?=some o:=⟨_,cU K⟩;have j:t.bs[t.bs.length-1]?=some (t.bs.getLast?.getD []):=by
  rw[List.getLast?_eq_getElem?,cU O];rfl
 obtain⟨k1,k2⟩:=z.2 _ o _ Q j;refine BQ h (cB rfl (bK (d.rS rfl (cB ?_ ?_))))
 ·simp only[l6];omega
 refine bK (d.rS rfl (cS (m:=t.bs.length-1) aC O (bK (d.rS rfl ?_))));refine J.fX.Rf Q (bK (d.rS rfl ?_));have hcap:P.len<=P.cap:=by
  rcases J.2 with⟨q1,q2⟩|⟨_,_,_,_,_,q,_⟩
  ·omega
  ·exact q
 refine iQ (lo:=0) O aD aD (bK (d.s1 aA λv1 o1 E=>bK (E.rI rfl (bK ?_))))
 refine E.s1 aA λv2 o2 u=>?_;have r:Ext (· = p) U v2:=o1.ext.trans o2.ext;have C:(if((t.bs.length-1:Nat):Int)<(t.low:Int)then((t.bs.length-1:Nat):Int)else(t.low:Int))=((min t.low (t.bs.length-1):Nat):Int):=by split<;>omega
 rw[C]at u;have S:∀x∈t.bs,x≠[]:=λx w e=>by have X:=h.all x w;have h2:=h.b1;rw[e]at X;simp at X;omega
 have A:∀b,kP o b->D b:=λb d=>(k1.bT (by simp only[Wj,ne_eq,yW];exact S _ (zG j)) d).1;refine hR o v2 (r.sub λb d=>d▸h.fp) (λb d=>(B b (A b d)).1) (aH.mono (aH.bS k1 r λb _ d G=>(B b d).2 G).lS λb _ hd=>hd.2) k2 ⟨⟨_,g.dropLast,λb=>D b/\¬kP o b,u,?_,⟨by simp[z.1,gI.rem],λi s x H w=>?_⟩,λb hd=>⟨⟨(B b hd.1).1,hd.2⟩,(B b hd.1).2⟩,List.Pairwise.sublist (List.dropLast_sublist _) Z⟩,⟨h.fp,λd=>(B p (A p d)).2 rfl⟩,h.b1,h.r1,by simp[gI.rem];omega,by simp[gI.rem];omega,λx w=>h.all x (List.dropLast_subset _ w)⟩
 ·refine aI.bS ?_ r λb _ d G=>d.2.1 G;refine⟨by simp[z.1],?_⟩;rcases J.2 with⟨q1,q2⟩|⟨b,cs,hq,M,hbb,hle,hcl,ht⟩
  ·omega
  ·refine .inr ⟨b,cs,⟨⟨hq.1,λd=>hq.2.2 (A b d)⟩,hq.2.1,λhd=>hq.2.2 hd.1⟩,?_,hbb,by simp only;omega,by simp only;omega,?_⟩
   ·simp only[M];split<;>simp[add_lit]
   ·simp only[zl]at ht ⊢;have hd:g.dropLast.map pV=(g.map pV).take (g.length-1):=by rw[yO,List.map_take]
    rw[hd,←ht,ym,A8]
    congr 1;omega
 ·have y:i<t.bs.length-1:=by
   have:=(cX.1 w).1;simpa[gI.rem]using this
  rw[yO,zk]at H;simp only[gI.rem,yO,zk]at w;rw[zC (by rw[z.1];exact y)]at H;rw[zC y]at w;obtain⟨m1,m2⟩:=z.2 i s x H w;refine⟨aH.mono (aH.bS m1 r λb _ d G=>(B b d).2 G).lS λb _ d=>⟨d.1,λu=>?_⟩,m2⟩;obtain⟨a,M,e1⟩:=d.2;obtain⟨a',N,e2⟩:=u;obtain⟨L,rfl⟩:=cX.1 H;obtain⟨V,rfl⟩:=cX.1 Q;exact k6.1 Z i _ L V y a a' M N (e1.trans e2.symm)
def vA (out:Sl)(bs:List (List Int))(U:Hp)(G:Rg):Prop:=∃sls:List Sl,cT out 1 (sls.map pV) U G/\qO sls bs U G
theorem vA.loc (out:Sl)(bs:List (List Int)):dM (vA out bs):=λU i F G ⟨a,g,e⟩ d b=>⟨a,cT.loc _ _ _ _ _ _ _ g d b,qO.loc _ _ _ _ _ _ e d b⟩
end Go.Ar
namespace Go.Ar
open Go Go.Vc Go.Proofs
open Go.Bu (Zj)
variable {U:Hp}{F:Rg}{p:Nat}{ow:Nat->Nat}
def uC (ow:Nat->Nat)(x:Nat)(l:List (Nat×Nat×Nat)):Prop:=
 l.length<=x/\(∀r∈l,1<=r.2.1/\r.1+r.2.1<=x/\∀y,r.1<=y->y<r.1+r.2.1->ow y=r.2.2)/\∀y,y<x->ow y≠0->∃r∈l,r.1<=y/\y<r.1+r.2.1
theorem uC.new {x:Nat}{l:List (Nat×Nat×Nat)}(h:uC ow x l):uC ow (x+1) (l++[(x,1,ow x)]):=by
 refine⟨by simp;exact h.1,λr b=>?_,λy g e=>?_⟩
 ·rcases zK.1 b with a|a
  ·exact⟨(h.2.1 r a).1,by have:=(h.2.1 r a).2.1;omega,(h.2.1 r a).2.2⟩
  ·simp at a;subst a;exact⟨zD _,zD _,λy a d=>by simp only at a d ⊢;rw[show y=x by omega]⟩
 ·rcases kE y x with a|a
  ·obtain⟨r,b,d⟩:=h.2.2 y a e;exact⟨r,kr _ b,d⟩
  ·exact⟨(x,1,ow x),by simp,by simp only;omega⟩
theorem uC.more {x a m no:Nat}{l:List (Nat×Nat×Nat)}(h:uC ow x (l++[(a,m,no)]))(he:a+m=x)(hno:ow x=no):uC ow (x+1) (l++[(a,m+1,no)]):=by
 refine⟨by have:=h.1;simp at this ⊢;omega,λr e=>?_,λy i g=>?_⟩
 ·rcases zK.1 e with b|b
  ·have:=h.2.1 r (kr _ b);exact⟨this.1,O,this.2.2⟩
  ·simp at b;subst b;have:=h.2.1 (a,m,no) aA;refine⟨by simp only;omega,by simp only;omega,λy b d=>?_⟩;simp only at b d ⊢;rcases kE y (a+m)with h3|h3
   ·exact this.2.2 y b h3
   ·rw[show y=x by omega];exact hno
 ·rcases kE y x with b|b
  ·obtain⟨r,e,d⟩:=h.2.2 y b g;rcases zK.1 e with h3|h3
   ·exact⟨r,kr _ h3,d⟩
   ·simp at h3;subst h3;exact⟨(a,m+1,no),by simp,by simp only at d ⊢;omega⟩
  ·exact⟨(a,m+1,no),by simp,by simp only;have:=h.2.1 (a,m,no) aA;simp only at this;omega⟩
end Go.Ar
namespace Go.Proofs
open Go.Vc
set_option maxRecDepth 100000
def Yk.h:Hn:=.q .o1 (.q (.q .o4 (.q .o2 .aJ)) (.q .o5 .aM))
def Yk.v (a:R2)(b c:Int)(d:Hp)(e:aN):Prop:=Xp.c a b 1 d λf g=>If (f != 0) (e f g) (Nz 8<|bL (b.tdiv 8) λh=>Y9.c a h c g λi=>e 0 i)
theorem Yk.o {a b c d e}(f:Yk.v a b c d e):Yk.c a b c d e:=Wa Tryz.func62 (x:=Yk.h) (R0 f)
def YJ.h:Hn:=.q .o2 (.q (.q .o4 (.q .o2 (.c (.q .o3 .l) .l))) (.q .o6 .l))
def YJ.v (a:R2)(b:Int)(c:Hp)(d:Int->Int->Hp->Prop):Prop:=Xp.c a b 1 c λe f=>If (e != 0) (d 0 e f) (Nz 8<|bL (b.tdiv 8) λg=>Y5.c a g f λh i=>d h 0 i)
theorem YJ.o {a b c d}(e:YJ.v a b c d):YJ.c a b c d:=Wa Tryz.func83 (x:=YJ.h) (R0 e)
def Xp.h:Hn:=.q .o1 (.q (.k (.q .o4 (.c .aM (.q .o3 (.c .aM (.q (.cQ (.seq [.op,.op,.op,.cW false 3 (RI.ops 3),.op])) .aK)))))) (.q .fP (.q (.q (.cQ (.gR true [] [(50,.one .b)] (.tk [0,1,2,3,4,5,6,7] (.split 39 (.tk [8,9,10,11,12,13,14,15,16,17,18] (.done)) (.tk [8,9,10,11,12,13,14,15,16] (.all [(17,.take 18 (.done))])))))) .aK) .aM)))
def Xp.v (a:R2)(b c:Int)(d:Hp)(e:aN):Prop:=Xy.c a d λf g=>If (!f) (e 5 g) (If (c==0) (e 0 g) (bW (λh i=>If h (e 7 i) (Nz 256<|bL (b.tdiv 256) λj=>Nz 8<|bL (b.tdiv 8) λk=>bL (k+c) λl=>bL (l-1) λm=>Nz 32<|bL (m.tdiv 32) λn=>Jn [.b] (λ(o:Bool) p=>If o (e 7 p) (e 0 p)) λq=>dY i λr=>bV a λs=>aT r s 0 λt=>If (n≥((t.len:Nat):Int)) (q true i) (bV a λu=>aT r u 0 λv=>bL (n+1) λw=>eX v 2 j w (v.cap:Nat) λx=>gG r .b ((Addr.mk 0 0 none).add 0) λ(y:Bool)=>gG r .b ((Addr.mk 0 0 none).add 1) λ(z:Bool)=>Wk.c x y z i λaa ab=>And (r ab) <| q aa ab))) λac=>If (b<0) (ac true g) (Nz 8 <| ac ((b.tmod 8) != 0) g)))
theorem Xp.o {a b c d e}(f:Xp.v a b c d e):Xp.c a b c d e:=Wa Tryz.func88 (x:=Xp.h) (R0 f)
def Y9.h:Hn:=.q .o3 (.kA [] (.q (.oq 9) (.c (.q (.cQ (.tail 7 (RI.ops 7) [.op])) (.q (.cQ (.held true [6] (.tk [0,1,2,3,4] (.all [(5,.all [(6,.done)])])))) (.cQ (.tail 13 (RI.ops 13) [.op])))) .l)) (.o 11))
def Y9.v (a:R2)(b c:Int)(d:Hp)(e:aP):Prop:=Nz 32<|bL (b.tdiv 32) λf=>Jn [] (λg=>bI a 1 g λi=>Lk .i64 .s i f g λj=>Nz 32 <| Ix (j.getD ⟨none,0,0⟩).a (j.getD ⟨none,0,0⟩).len (b.tmod 32) 1 λk=>dU k (.I c) g λl=>e l) λm=>bE a 0 d λo=>Ix o.a o.len f 2 λp=>aZ p 0 d λq=>aZ p 1 d λr=>lB ((Addr.mk 1 0 none).add 0) d λs=>lB ((Addr.mk 1 0 none).add 1) d λt=>If (!((q==s)&&((r==t)&&true))) (bE a 0 d λv=>lB ((Addr.mk 1 0 none).add 0) d λw=>lB ((Addr.mk 1 0 none).add 1) d λx=>Ix v.a v.len f 2 λy=>aR y 0 (.bool w) d λz=>aR y 1 (.bool x) z λaa=>dY aa λab=>bV a λac=>gG ab .m (ac.add 1) λ(ad:Option Nat)=>Mk 32 32 8 3 [.I 0] aa λae af=>And (ab af) <| kG .i64 .s ad f ae af λag=>bD a 2 ag λai=>bI a 1 ag λak=>qp .i64 .s ak ag λal=>bV a λam=>aR am 2 (.I (if al>ai then al else ai)) ag λan=>m an) (m d)
theorem Y9.o {a b c d e}(f:Y9.v a b c d e):Y9.c a b c d e:=Wa Tryz.func89 (x:=Y9.h) (R0 f)
def XB.h:Hn:=.q .o1 (.q (.q .o3 .aK) (.q .o6 .l))
def XB.v (a:R2)(b:Hp)(c:aN):Prop:=Xy.c a b λd e=>If (!d) (c 0 e) (bE a 0 e λg=>c ((g.len:Nat):Int) e)
theorem XB.o {a b c}(d:XB.v a b c):XB.c a b c:=Wa Tryz.func108 (x:=XB.h) (R0 d)
def Xy.h:Hn:=.q .o1 (.q (.cQ (.seq [.op,.op,.op,.cW true 6 (RI.ops 6),.op])) .l)
def Xy.v (a:R2)(b:Hp)(c:aO):Prop:=bW (λd e=>c d e) λf=>If (!a.isNone) (bE a 0 b λh=>f (decide (((h.len:Nat):Int)>0)) b) (f false b)
theorem Xy.o {a b c}(d:Xy.v a b c):Xy.c a b c:=Wa Tryz.func109 (x:=Xy.h) (R0 d)
def Y5.h:Hn:=.q .o1 (.q (.q (.o 12) (.q .o1 (.c (.q .o6 .l) .l))) .aM)
def Y5.v (a:R2)(b:Int)(c:Hp)(d:aN):Prop:=bI a 1 c λf=>Nz 32<|bL (b.tdiv 32) λg=>Lk .i64 .s f g c λh=>If h.isSome (Nz 32 <| Ix (h.getD ⟨none,0,0⟩).a (h.getD ⟨none,0,0⟩).len (b.tmod 32) 1 λi=>bM i c λj=>d j c) (d 0 c)
theorem Y5.o {a b c d}(e:Y5.v a b c d):Y5.c a b c d:=Wa Tryz.func117 (x:=Y5.h) (R0 e)
def QZ.h:Hn:=.q .o2 (.q (.q (.cQ (.seq [.op,.op,.op,.cW false 2 [.op,.op]])) .aJ) (.q .o7 .l))
def QZ.v (a:Int)(b:Hp)(c:Option Addr->Int->Hp->Prop):Prop:=bW (λd e=>If d (c none 1 e) (Mk a a 2 161 [.bool false,.bool false] e λf g=>Nw (.map #[] 0) g λh i=>aV #[.slice f.a f.len f.cap,.map (some h.block),.I 0] 165 i λj k=>c (some j) 0 k)) λl=>If (a<1) (l true b) (l (decide (a>1024)) b)
theorem QZ.o {a b c}(d:QZ.v a b c):QZ.c a b c:=Wa Tryz.func142 (x:=QZ.h) (R0 d)
def Zb.h:Hn:=.q .o2 (.q (.k (.q .o4 (.c .aL (.q (.cQ (.seq [.op,.op,.op,.cW false 2 [.op,.op],.op,.cW false 7 (RI.ops 7),.op,.cW false 9 (RI.ops 9),.op])) .aJ)))) (.q (.o 11) .l))
def Zb.v (a:R2)(b c:Int)(d:Hp)(e:Sl->Int->Hp->Prop):Prop:=Xy.c a d λf g=>If (!f) (e ⟨none,0,0⟩ 5 g) (bW (λh i=>bW (λj k=>bW (λl m=>If l (e ⟨none,0,0⟩ 1 m) (bE a 0 m λo=>bL (b+c) λp=>eX o 2 b p (o.cap:Nat) λq=>e q 0 m)) λr=>If j (r true k) (bE a 0 k λt=>bL (((t.len:Nat):Int)-b) λu=>r (decide (c>u)) k)) λv=>If h (v true i) (bE a 0 i λx=>v (decide (b>((x.len:Nat):Int))) i)) λy=>If (b<0) (y true g) (y (decide (c<1)) g))
theorem Zb.o {a b c d e}(f:Zb.v a b c d e):Zb.c a b c d e:=Wa Tryz.func273 (x:=Zb.h) (R0 f)
def Y8.h:Hn:=.q .o1 (.q .o2 (.k (.loop [(8,.I)] (.q (.q .o5 (.c .l .l)) (.q (.k (.q (.cQ (.tail 7 (RI.ops 7) [.op])) .o6)) .o3)))))
def Y8.v (a:R2)(b c:Int)(d e:Bool)(f:Hp)(g:aP):Prop:=aV #[.bool d,.bool e] 161 f λh i=>XW [bN] (λj=>j b i) λk (l:Int) m=>bL (b+c) λn=>If (l<n) (bE a 0 m λp=>aZ h 0 m λq=>aZ h 1 m λr=>Ix p.a p.len l 2 λs=>aR s 0 (.bool q) m λt=>aR s 1 (.bool r) t λu=>bI a 1 u λw=>lI .i64 .s w l u λx=>bL (l+1) λy=>k y x) (g m)
theorem Y8.o {a b c d e f g}(h:Y8.v a b c d e f g):Y8.c a b c d e f g:=Wa Tryz.func274 (x:=Y8.h) (R0 h)
def Y4.h:Hn:=.q .o1 (.q .o9 (.q (.k (.q .o3 (.c .aL (.q .o3 .aK)))) (.q .o5 .aM)))
def Y4.v (a:R2)(b c:Int)(d:Hp)(e:aN):Prop:=Zb.c a b c d λf g h=>If (g != 0) (e g h) (Wf.c f ⟨309,#[],#[]⟩ h λi j=>If i (e 5 j) (lB ((Addr.mk 2 0 none).add 0) j λk=>lB ((Addr.mk 2 0 none).add 1) j λl=>Y8.c a b c k l j λm=>e 0 m))
theorem Y4.o {a b c d e}(f:Y4.v a b c d e):Y4.c a b c d e:=Wa Tryz.func286 (x:=Y4.h) (R0 f)
def Yz.h:Hn:=.q .o2 (.q .o4 .l)
def Yz.v (a b:Bool)(c:Hp)(d:aO):Prop:=aV #[.bool a,.bool b] 161 c λe f=>aZ e 0 f λg=>aZ e 1 f λh=>lB ((Addr.mk 0 0 none).add 0) f λi=>lB ((Addr.mk 0 0 none).add 1) f λj=>d (!((g==i)&&((h==j)&&true))) f
theorem Yz.o {a b c d}(e:Yz.v a b c d):Yz.c a b c d:=Wa Tryz.func309 (x:=Yz.h) (R0 e)
end Go.Proofs
namespace Go.Ar
open Go Go.Vc Go.Proofs
open Go.Bu (Zj)
variable {U:Hp}{F:Rg}{p q r:Nat}{sp:Sp}
structure Gl (U:Hp):Prop where
 c0:cell U ⟨2,0,none⟩=some (.bool true)
 c1:cell U ⟨2,1,none⟩=some (.bool false)
 u0:cell U ⟨0,0,none⟩=some (.bool false)
 u1:cell U ⟨0,1,none⟩=some (.bool false)
structure Gc (U:Hp):Prop where
 d0:cell U ⟨1,0,none⟩=some (.bool true)
 d1:cell U ⟨1,1,none⟩=some (.bool true)
structure Gd (U:Hp):Prop where
 lt:1<U.size
def jc (F:Rg):Prop:=∀b,F b->b≠2/\b≠0
theorem Kr {h:Hp}{b o:Nat}{v:Value}(hc:cell h ⟨b,o,none⟩=some v):b<h.size:=(DP hc).1
theorem Gl.bS {σ':Hp}(g:Gl U)(e:Ext F U σ')(hF:jc F):Gl σ':=by
 have b:¬F 2:=λh=>(hF _ h).1 rfl;have a:¬F 0:=λh=>(hF _ h).2 rfl;exact⟨(Q9 e (Kr g.c0) b).trans g.c0,(Q9 e (Kr g.c1) b).trans g.c1,(Q9 e (Kr g.u0) a).trans g.u0,(Q9 e (Kr g.u1) a).trans g.u1⟩
theorem Gc.bS {σ':Hp}(g:Gc U)(e:Ext F U σ')(hF:¬F 1):Gc σ':=⟨(Q9 e (Kr g.d0) hF).trans g.d0,(Q9 e (Kr g.d1) hF).trans g.d1⟩
theorem Gc.bO {σ':Hp}(g:Gc U)(e:aG U σ'):Gc σ':=g.bS e id
theorem Gd.bS {σ':Hp}(g:Gd U)(e:Ext F U σ')(hF:¬F 1):Gd σ':=⟨uG g.lt e.1⟩
theorem Gd.bO {σ':Hp}(g:Gd U)(e:aG U σ'):Gd σ':=g.bS e id
theorem Gc.gd (g:Gc U):Gd U:=⟨Kr g.d0⟩
theorem Gl.bO {σ':Hp}(g:Gl U)(e:aG U σ'):Gl σ':=g.bS e λ_ h=>h.elim
theorem jc.grow (hF:jc F)(g:Gl U):jc (Grow F U):=λb a=>by
 rcases a with h|h
 ·exact hF b h
 ·have e:=Kr g.c0;have d:=Kr g.u0;exact⟨O,O⟩
theorem jc.sub {G:Rg}(hF:jc F)(h:∀b,G b->F b):jc G:=λb a=>hF b (h b a)
def fV:Nat->Bool×Bool
 | 0=>(false,false)
 | 1=>(true,false)
 | _=>(true,true)
def gO (st:List Nat):List Value:=st.flatMap λx=>[.bool (fV x).1,.bool (fV x).2]
theorem VF (l:List Nat):(gO l).length=2*l.length:=by
 induction l with
 | nil=>rfl
 | cons x l ih=>simp only[gO,nJ,zO,zX,lz]at *;omega
theorem EV {l:List Nat}{i x:Nat}(h:l[i]?=some x):(gO l)[2*i]?=some (.bool (fV x).1)/\(gO l)[2*i+1]?=some (.bool (fV x).2):=by
 induction l generalizing i with
 | nil=>simp at h
 | cons y l ih=>
  have e:gO (y::l)=[.bool (fV y).1,.bool (fV y).2]++gO l:=by simp[gO]
  rw[e];cases i with
  | zero=>simp at h;subst h;simp
  | succ i=>
   have:=ih (i:=i) (by simpa using h);rw[show 2*(i+1)=2*i+2 by omega];simpa using this
theorem Dz {l:List Nat}{i v:Nat}(h:i<l.length)(rest:List Value):((gO l++rest).set (2*i) (.bool (fV v).1)).set (2*i+1) (.bool (fV v).2)=gO (l.set i v)++rest:=by
 induction l generalizing i with
 | nil=>simp at h
 | cons y l ih=>
  have e:∀z m,gO (z::m)=.bool (fV z).1 :: .bool (fV z).2::gO m:=λz m=>by simp[gO]
  cases i with
  | zero=>simp[e]
  | succ i=>
   have:=ih (i:=i) (by simpa using h);rw[rZ,e,e,show 2*(i+1)=2*i+1+1 by omega];simp only[lu,rZ];rw[this]
theorem BV {x y:Nat}(hx:x<=2)(hy:y<=2):(((fV x).1==(fV y).1)&&(((fV x).2==(fV y).2)&&true))=(x==y):=by
 match x,y,hx,hy with
 | 0,0,_,_=>rfl
 | 1,1,_,_=>rfl
 | 2,2,_,_=>rfl
 | 0,1,_,_=>rfl
 | 0,2,_,_=>rfl
 | 1,0,_,_=>rfl
 | 1,2,_,_=>rfl
 | 2,0,_,_=>rfl
 | 2,1,_,_=>rfl
theorem Ki {α:Type}(x:Int×α)(l:List (Int×α))(k:Int):bU (x::l) k=if x.1=k then some x.2 else bU l k:=by
 unfold bU;rw[uT];by_cases h:x.1=k
 ·simp[h]
 ·have:(x.1==k)=false:=by simpa using h
  rw[this,zB h]
theorem Sj {α:Type}(l:List (Int×α))(n k:Int)(v:α):bU (l.map λx=>if x.1==n then(n,v)else x) k=if k=n then(if l.any (λx=>x.1==n)then some v else none)else bU l k:=by
 induction l with
 | nil=>simp[bU]
 | cons x l ih=>
  rw[zR,Ki,ih,Ki,List.any_cons];by_cases hx:x.1=n
  ·by_cases hk:k=n
   ·subst hk;simp[hx]
   ·have:¬n=k:=λe=>hk e.symm;simp[hx,hk,this]
  ·have a:(x.1==n)=false:=by simpa using hx
   simp only[a,ze,j8,xY];by_cases hk:k=n
   ·subst hk;simp[hx]
   ·simp[hk]
theorem Ji {α:Type}(l:List (Int×α))(n k:Int)(v:α)(h:l.any (λx=>x.1==n)=false):bU (l++[(n,v)]) k=if k=n then some v else bU l k:=by
 induction l with
 | nil=>
  rw[tW,Ki];by_cases hk:k=n
  ·simp[hk]
  ·have:¬n=k:=λe=>hk e.symm;simp[hk,this,bU]
 | cons x l ih=>
  rw[List.any_cons,Bool.or_eq_false_iff]at h;rw[lu,Ki,ih h.2,Ki];have a:¬x.1=n:=by simpa using h.1
  by_cases hk:k=n
  ·subst hk;simp[a]
  ·simp[hk]
theorem VJ {α:Type}(l:List (Int×α))(n k:Int)(v:α):bU (dA l n v) k=if k=n then some v else bU l k:=by
 unfold dA;cases h:l.any (λx=>x.1==n)
 ·rw[zB aA,Ji l n k v h]
 ·rw[zC rfl,Sj,h];simp
theorem Ht {α:Type}(l:List (Int×α))(n k:Int):bU (cR l n) k=if k=n then none else bU l k:=by
 unfold cR
 induction l with
 | nil=>simp[bU]
 | cons x l ih=>
  rw[sP,Ki];by_cases hx:x.1=n
  ·have:(!(x.1==n))=false:=by simp[hx]
   rw[this];simp only[ze,j8,ih];by_cases hk:k=n
   ·simp[hk]
   ·have:¬x.1=k:=λe=>hk (e.symm.trans hx);simp[hk,this]
  ·have:(!(x.1==n))=true:=by simpa using hx
   rw[this,zC rfl,Ki,ih];by_cases hk:k=n
   ·subst hk;simp[hx]
   ·simp[hk]
theorem Vb {α:Type}{l:List (Int×α)}{k:Int}{v:α}(h:bU l k=some v):(k,v)∈l:=by
 unfold bU at h;cases hf:l.find? (λx=>x.1==k)with
 | none=>rw[hf]at h;cases h
 | some x=>
  rw[hf]at h;have e:=sL hf;have b:=uc hf;have a:x.1=k:=by simpa using e
  have d:x.2=v:=by simpa using h
  rw[←a,←d];exact b
theorem RK {α:Type}{l:List (Int×α)}{k:Int}:(bU l k).isSome=true↔k∈l.map (·.1):=by
 unfold bU;rw[Option.isSome_map,Aa];simp
def Et (U:Hp)(s:Sl)(b:Nat)(f:Nat->Int):Prop:=s.a=some ⟨b,0,none⟩/\s.len=32/\32<=s.cap/\∃cs,bY U b cs/\32<=cs.length/\∀j,j<32->cs[j]?=some (.int .i64 (f j))
structure fF (U:Hp) (F:Rg) (p q r:Nat) (l:List (Int×Sl)) (B:Nat->Nat) (sp:Sp):Prop where
 hd:∃cap,sp.st.length<=cap/\bY U p [.slice (some ⟨q,0,none⟩) sp.st.length cap,.map (some r),.int .i64 (sp.pk:Int)]
 row:∃rest,bY U q (gO sp.st++rest)
 map:dH U r .i64 .s l
 keys:∀x:Int,(bU l x).isSome=true↔∃k:Nat,x=k/\sp.st[k]?=some 2
 wd:∀(k:Nat) s,bU l (k:Int)=some s->Et U s (B k) λj=>sp.wd (32*k+j)
 inj:∀k k':Nat,sp.st[k]?=some 2->sp.st[k']?=some 2->B k=B k'->k=k'
 out:∀k:Nat,sp.st[k]?=some 2->F (B k)/\B k≠p/\B k≠q/\B k≠r
 fs:F p/\F q/\F r/\p≠q/\p≠r/\q≠r
 zero:∀w:Nat,sp.st[w/32]?≠some 2->sp.wd w=0
 n1:1<=sp.st.length
 n2:sp.st.length<=1024
 rG:∀x∈sp.st,x<=2
 pk:sp.pk<=1024
def dL (U:Hp)(F:Rg)(p:Nat)(sp:Sp):Prop:=∃q r l B,fF U F p q r l B sp
theorem fF.entry {l:List (Int×Sl)}{B:Nat->Nat}(h:fF U F p q r l B sp){k:Nat}(hk:sp.st[k]?=some 2):∃s,bU l (k:Int)=some s/\Et U s (B k) λj=>sp.wd (32*k+j):=by
 have:=(h.keys (k:Int)).2 ⟨k,rfl,hk⟩;obtain⟨s,a⟩:=qi.1 this;exact⟨s,a,h.wd k s a⟩
theorem fF.lH {l:List (Int×Sl)}{B:Nat->Nat}(h:fF U F p q r l B sp){k:Nat}{s:Sl}(hs:bU l (k:Int)=some s):sp.st[k]?=some 2:=by
 obtain⟨k',e,a⟩:=(h.keys (k:Int)).1 (by rw[hs];rfl);have:k=k':=by omega
 subst this;exact a
theorem dL.loc:dM λU F=>dL U F p sp:=λU H F G ⟨q,r,l,B,h⟩ P C=>by
 have g:∀{b:Nat} {d:List Value},bY U b d->F b->bY H b d/\G b:=by
  rintro b d ⟨e,E⟩ L;have:=C b (bY.lt ⟨e,E⟩) L;exact⟨⟨e,this.2.trans E⟩,this.1⟩
 obtain⟨c,K,hd⟩:=h.hd;obtain⟨j,a⟩:=h.row;obtain⟨J,u,z,N⟩:=h.map;have m:=C r (zz.1 z).1 h.fs.2.2.1;refine⟨q,r,l,B,⟨c,K,(g hd h.fs.1).1⟩,⟨j,(g a h.fs.2.1).1⟩,⟨J,u,m.2.trans z,N⟩,h.keys,λk s i=>?_,h.inj,λk i=>?_,⟨(g hd h.fs.1).2,(g a h.fs.2.1).2,m.1,h.fs.2.2.2⟩,h.zero,h.n1,h.n2,h.rG,h.pk⟩
 ·obtain⟨x,A,y,d,w,D⟩:=h.wd k s i;exact⟨x,A,y,d,(g w (h.out k (h.lH i)).1).1,D⟩
 ·obtain⟨s,M,x,A,y,d,w,D⟩:=h.entry i;exact⟨(g w (h.out k i).1).2,(h.out k i).2⟩
theorem dL.bO {σ':Hp}(h:dL U F p sp)(e:aG U σ'):dL σ' F p sp:=dM.bO dL.loc h e
variable {l:List (Int×Sl)}{B:Nat->Nat}
theorem fF.rS (h:fF U F p q r l B sp){K:Sl->Prop}(hK:∀cap,sp.st.length<=cap->K ⟨some ⟨q,0,none⟩,sp.st.length,cap⟩):ju (Addr.add ⟨p,0,none⟩ 0) U K:=by
 obtain⟨c,a,hd⟩:=h.hd;exact hd.rS rfl (hK c a)
theorem fF.rM (h:fF U F p q r l B sp){K:Option Nat->Prop}(hK:K (some r)):ly (Addr.add ⟨p,0,none⟩ 1) U K:=by
 obtain⟨c,a,hd⟩:=h.hd;exact hd.rM rfl hK
theorem fF.yM (h:fF U F p q r l B sp){i x:Nat}(hx:sp.st[i]?=some x){K:Bool->Bool->Prop}(hK:K (fV x).1 (fV x).2):lB (Addr.add ⟨q,2*i,none⟩ 0) U λa=>lB (Addr.add ⟨q,2*i,none⟩ 1) U λb=>K a b:=by
 obtain⟨g,d⟩:=h.row;have j:=(cX.1 hx).1;have e:=EV hx;refine d.rB (x:=(fV x).1) ?_ (d.rB (x:=(fV x).2) ?_ hK)
 ·rw[j9,zh (by rw[VF];omega)];exact e.1
 ·rw[zh (by rw[VF];omega)];exact e.2
theorem Bx (h:dL U F p sp){R:aO}(hR:R true U):Xy.c (aW p) U R:=by
 refine Xy.o ?_;unfold Xy.v;obtain⟨q,r,l,B,h⟩:=h;have:=h.n1;refine bW.intro (cC rfl (bK (h.rS λcap _=>?_)));rw[zJ aC];exact hR
theorem Dx (h:dL U F p sp){R:aN}(hR:R (sp.st.length:Int) U):XB.c (aW p) U R:=by
 refine XB.o ?_;unfold XB.v;have a:=h;obtain⟨q,r,l,B,h⟩:=h;exact Bx a (cB rfl (bK (h.rS λcap _=>hR)))
theorem fF.wo (h:fF U F p q r l B sp):l.length=sp.st.count 2:=by
 have m:=h.map.nodup;have j:(l.map (·.1)).Perm (((List.range sp.st.length).filter λk=>sp.st[k]?==some 2).map λk=>((k:Nat):Int)):=by
  rw[xX m]
  ·intro x;rw[←RK,h.keys];simp only[zE,zI,zd,zT];constructor
   ·rintro⟨k,rfl,hk⟩;exact⟨k,⟨(cX.1 hk).1,hk⟩,rfl⟩
   ·rintro⟨k,⟨_,hk⟩,rfl⟩;exact⟨k,rfl,hk⟩
  ·have e:((List.range sp.st.length).filter λk=>sp.st[k]?==some 2).Pairwise (· ≠ ·):=List.Pairwise.sublist tU List.nodup_range;exact List.Pairwise.map _ (λa b (g:a≠b) d=>g (by exact_mod_cast d)) e
 have i:=j.length_eq;simp only[zl]at i;rw[i,←xH];have key:∀st:List Nat,(List.range st.length).countP (λk=>st[k]?==some 2)=st.count 2:=by
  intro st
  induction st with
  | nil=>rfl
  | cons x st ih=>
   rw[zX,List.range_succ_eq_map,vI,List.countP_map,List.count_cons,←ih]
   congr 1
 exact key sp.st
end Go.Ar
namespace Go.Ar
open Go Go.Vc Go.Proofs
open Go.Bu (Zj)
variable {U:Hp}{F:Rg}{p q r:Nat}{sp:Sp}{l:List (Int×Sl)}{B:Nat->Nat}
theorem Tb (l:List Nat)(n:Nat):gO (l.take n)=(gO l).take (2*n):=by
 induction l generalizing n with
 | nil=>simp[gO]
 | cons y l ih=>
  have e:∀z m,gO (z::m)=.bool (fV z).1 :: .bool (fV z).2::gO m:=λz m=>by simp[gO]
  cases n with
  | zero=>simp[gO]
  | succ n=>
   rw[uw,e,e,ih,show 2*(n+1)=2*n+1+1 by omega];simp
theorem Tl (l:List Nat)(n:Nat):gO (l.drop n)=(gO l).drop (2*n):=by
 induction l generalizing n with
 | nil=>simp[gO]
 | cons y l ih=>
  have e:∀z m,gO (z::m)=.bool (fV z).1 :: .bool (fV z).2::gO m:=λz m=>by simp[gO]
  cases n with
  | zero=>simp[gO]
  | succ n=>
   rw[y5,e,ih,show 2*(n+1)=2*n+1+1 by omega];simp
theorem Sr (n v:Nat):gO (List.replicate n v)=(List.replicate n [Value.bool (fV v).1,.bool (fV v).2]).flatten:=by
 induction n with
 | zero=>rfl
 | succ n ih=>rw[vz,vz,wc,←ih];simp[gO]
theorem _root_.Go.Vc.cT.yM {s:Sl}{l:List Nat}(h:cT s 2 (gO l) U F){i x:Nat}(hx:l[i]?=some x){K:Bool->Bool->Prop}(hK:K (fV x).1 (fV x).2) :
 Ix s.a s.len (i:Int) 2 λa=>lB (a.add 0) U λu=>lB (a.add 1) U λw=>K u w:=by
 have r:=(cX.1 hx).1;have g:=EV hx;obtain⟨b,o,j,p⟩:=h.cell g.1;obtain⟨y,o1,d,e⟩:=h.cell g.2;rw[j]at d;cases d;have m:=h.1;rw[VF]at m;rw[j];refine ix O O ?_;rw[add_lit];refine nK ?_ (nK ?_ hK)<;>rw[add_lit]
 ·rw[show o+(i:Int).toNat*2+0=o+2*i by omega];exact p
 ·rw[show o+(i:Int).toNat*2+1=o+(2*i+1) by omega];exact e
theorem _root_.Go.Vc.cT.wL {s:Sl}{l:List Nat}(h:cT s 2 (gO l) U F):s.len=l.length:=by
 have:=h.1;rw[VF]at this;omega
theorem TC {s:Sl}{xs:List Nat}(h:cT s 2 (gO xs) U F)(hl:xs.length<=1000000)(h2:∀x∈xs,x<=2){v:Nat}(hv:v<=2){R:aN}
 (hR:∀(t:Int) σ',aG U σ'->decide (t≥0)=xs.contains v->R t σ'):Wo.c s (fV v).1 (fV v).2 U R:=by
 refine Wo.o ?_;unfold Wo.v;have z:=h.wL;refine nw (cs:=[.bool (fV v).1,.bool (fV v).2]) λw E e A=>?_;have h:=aH.bO h e;refine Qc (a:=bN) (λ(t:Int) u=>∃i:Nat,t=(i:Int)/\i<=xs.length/\u=w/\∀j,j<i->xs[j]?≠some v) (λt _=>xs.length-t.toNat) ⟨0,rfl,O,rfl,λj g=>O⟩ ?_;rintro t u ⟨i,rfl,G,rfl,b⟩;refine cP (λD=>?_) λB=>?_
 ·have d:i<xs.length:=by omega
  have y:xs[i]?=some xs[i]:=cU d;refine A.rB rfl (A.rB rfl (h.yM y ?_));rw[BV hv (h2 _ (zp d))];refine cO (λr=>?_) λr=>?_
  ·have:v=xs[i]:=by simpa using r
   refine hR _ _ e ?_;have C:xs.contains v=true:=by rw[this];simp
   rw[C,zJ O]
  ·have p:¬v=xs[i]:=by simpa using r
   refine cS (m:=i+1) O O ⟨⟨i+1,rfl,O,rfl,λj g=>?_⟩,O⟩;by_cases e:j=i
   ·subst e;rw[y];intro e2;cases e2;exact p rfl
   ·exact b j O
 ·refine hR _ _ e ?_;have:xs.contains v=false:=by
   simp only[r8,decide_eq_false_iff_not];intro hm;obtain⟨j,g⟩:=zQ hm;have:=(cX.1 g).1;exact b j O g
  rw[this];rfl
theorem Na {s:Sl}{xs:List Nat}(h:cT s 2 (gO xs) U F)(hl:xs.length<=1000000)(h2:∀x∈xs,x<=2){v:Nat}(hv:v<=2){R:aO}
 (hR:∀σ',aG U σ'->R (xs.contains v) σ'):Wk.c s (fV v).1 (fV v).2 U R:=by
 refine Wk.o ?_;unfold Wk.v;refine nw (cs:=[.bool (fV v).1,.bool (fV v).2]) λw g e a=>a.rB rfl (a.rB rfl ?_);refine TC (aH.bO h e) hl h2 hv λt σ' d b=>?_;rw[b];exact hR σ' (Ext.trans e d)
theorem J9 (g:Gl U){x:Nat}(hx:x<=2){R:aO}(hR:∀σ',aG U σ'->R (x != 0) σ'):Yz.c (fV x).1 (fV x).2 U R:=by
 refine Yz.o ?_;unfold Yz.v;refine nw (cs:=[.bool (fV x).1,.bool (fV x).2]) λv d e a=>a.rB rfl (a.rB rfl ?_);have g:=g.bO e;refine nK (by rw[←g.u0];rfl) (nK (by rw[←g.u1];rfl) ?_);have b:(((fV x).1==false)&&(((fV x).2==false)&&true))=(x==0):=BV hx (y:=0) O;rw[b];exact hR v e
theorem Tm {s:Sl}{xs:List Nat}(h:cT s 2 (gO xs) U F)(g:Gl U)(hl:xs.length<=1000000)(h2:∀x∈xs,x<=2){R:aO}
 (hR:∀σ',aG U σ'->R (xs.any (· != 0)) σ'):Wf.c s ⟨309,#[],#[]⟩ U R:=by
 refine Wf.o ?_;unfold Wf.v;refine Wn.o ?_;unfold Wn.v;have A:=h.wL;refine Qc (a:=bN) (λ(t:Int) D=>∃i:Nat,t=(i:Int)/\i<=xs.length/\aG U D/\∀(j x:Nat),j<i->xs[j]?=some x->x=0) (λt _=>xs.length-t.toNat) ⟨0,rfl,O,Ext.refl _ _,λj x r=>O⟩ ?_;rintro t w ⟨i,rfl,H,e,p⟩;refine cP (λG=>?_) λE=>?_
 ·have d:i<xs.length:=by omega
  have z:xs[i]?=some xs[i]:=cU d;refine(aH.bO h e).yM z ?_;refine pK (all := #[.agg #[.bool (fV xs[i]).1,.bool (fV xs[i]).2]]) (by kernel_rfl) aA ?_;refine J9 (g.bO e) (h2 _ (zp d)) λC B=>?_;refine cO (λy=>?_) λy=>?_
  ·have:xs.any (· != 0)=true:=kf.2 ⟨_,zp d,y⟩;have:=hR C (Ext.trans e B);rw[‹xs.any (· != 0)=true›]at this;show R (decide ((i:Int)≥0)) _;rw[zJ O];exact this
  ·have u:xs[i]=0:=by simpa using y
   refine cS (m:=i+1) O O ⟨⟨i+1,rfl,O,Ext.trans e B,λj x r b=>?_⟩,O⟩;by_cases e:j=i
   ·subst e;rw[z]at b;cases b;exact u
   ·exact p j x O b
 ·have:xs.any (· != 0)=false:=by
   rw[mg];intro x hm;obtain⟨j,r⟩:=zQ hm;have:=(cX.1 r).1;simpa using p j x O r
  have:=hR w e;rw[‹xs.any (· != 0)=false›]at this;exact this
theorem fF.part (h:fF U F p q r l B sp){x y c:Nat}(hl:x+y<=sp.st.length):cT ⟨some ⟨q,2*x,none⟩,y,c⟩ 2 (gO ((sp.st.drop x).take y)) U F:=by
 obtain⟨d,b⟩:=h.row;have a:(gO ((sp.st.drop x).take y)).length=y*2:=by rw[VF,za,ka];omega
 refine⟨a,.inr ⟨q,2*x,_,h.fs.2.1,rfl,b.q,λj e=>?_⟩⟩;rw[a]at e;rw[zh (by rw[VF];omega),Tb,Tl,zk,zC O,kY]
theorem OX (h:dL U F p sp)(a m:Int){R:Sl->Int->Hp->Prop}(h0:Zj sp.st.length a m=false->R ⟨none,0,0⟩ 1 U)
 (h1:∀(x y:Nat) s,a=x->m=y->1<=y->x+y<=sp.st.length->cT s 2 (gO ((sp.st.drop x).take y)) U F->R s 0 U):Zb.c (aW p) a m U R:=by
 refine Zb.o ?_;unfold Zb.v;have j:=h;obtain⟨q,r,l,B,h⟩:=h;have n2:=h.n2;have b:¬(0<=a/\1<=m/\m<=sp.st.length-a)->R ⟨none,0,0⟩ 1 U:=λw=>h0 (by simp only[Zj,←ve];exact zN w);refine Bx j (cB rfl (bW.intro (cP (λg=>bW.intro (cC rfl (bW.intro (cC rfl (cC rfl (b O)))))) λg=>?_)));refine bW.intro (cP (λA=>bW.intro (cC rfl (cC rfl (b O)))) λA=>bK (h.rS λcap d=>?_));simp only;refine bW.intro (cP (λi=>cC rfl (b O)) λi=>?_);refine bK (h.rS λcap d=>ar aC aC ?_);simp only;refine cP (λz=>b O) λz=>?_;obtain⟨x,rfl⟩:=zc (show 0<=a by omega);obtain⟨y,rfl⟩:=zc (show 0<=m by omega);refine bK (h.rS λcap d=>cS (m:=x+y) O O ?_);refine iQ O aC (zD _) ?_;simp only;rw[zB O];refine h1 x y _ rfl rfl O O ?_;have:=h.part (x:=x) (y:=y) (c:=cap-x) O;have e:(Option.map (λ(u:Addr)=>u.add (x*2)) (some (⟨q,0,none⟩:Addr)))=some ⟨q,2*x,none⟩:=by
  simp only[zZ,add_lit];congr 2;omega
 rw[e,Ac];exact this
def Sp.j3 (s:Sp)(k v:Nat):Sp:={s with st:=s.st.set k v,wd:=λw=>if k*32<=w/\w<(k+1)*32 then 0 else s.wd w}
theorem Fi {st:List Nat}(h:∀x∈st,x<=2){k v:Nat}(hv:v<=2):∀x∈st.set k v,x<=2:=by
 intro x hx;rcases yY hx with h1|h1
 ·exact h x h1
 ·omega
theorem fF.j3 (h:fF U F p q r l B sp){k v:Nat}(hk:k<sp.st.length)(hv:v<=1){σ':Hp}(e:Ext (λb=>b=q\/b=r) U σ'){rest:List Value}
 (hb:bY σ' q (gO (sp.st.set k v)++rest)) (hm:dH σ' r .i64 .s (cR l (k:Int))):fF σ' F p q r (cR l (k:Int)) B (sp.j3 k v):=by
 have d:∀j:Nat,(sp.st.set k v)[j]?=some 2↔j≠k/\sp.st[j]?=some 2:=λj=>by
  rw[m7];by_cases hjk:k=j
  ·subst hjk;rw[zC rfl,zC hk];constructor
   ·intro h;have:v=2:=by simpa using h
    omega
   ·intro h;exact absurd rfl h.1
  ·rw[zB hjk];exact⟨λh=>⟨λe=>hjk e.symm,h⟩,λh=>h.2⟩
 obtain⟨c,J,hd⟩:=h.hd;have G:¬(p=q\/p=r):=by have:=h.fs;omega
 refine⟨⟨c,by simpa[Sp.j3]using J,by simpa[Sp.j3]using e.bT hd G⟩,⟨rest,hb⟩,hm,λx=>?_,λj s g=>?_,λj u M m=>?_,λj a=>?_,h.fs,λw y=>?_,by simpa[Sp.j3]using h.n1,by simpa[Sp.j3]using h.n2,Fi h.rG O,h.pk⟩
 ·rw[Ht];by_cases hx:x=(k:Int)
  ·rw[zC hx];constructor
   ·intro h;cases h
   ·rintro⟨j,rfl,a⟩;have:=(d j).1 a;omega
  ·rw[zB hx,h.keys];constructor
   ·rintro⟨j,rfl,a⟩;exact⟨j,rfl,(d j).2 ⟨O,a⟩⟩
   ·rintro⟨j,rfl,a⟩;exact⟨j,rfl,((d j).1 a).2⟩
 ·rw[Ht]at g;by_cases hx:(j:Int)=(k:Int)
  ·rw[zC hx]at g;cases g
  ·rw[zB hx]at g;obtain⟨z,A,E,H,L,K,C⟩:=h.wd j s g;have N:=h.out j (h.lH g);refine⟨z,A,E,H,e.bT L O,K,λi D=>?_⟩;rw[C i D];simp only[Sp.j3];rw[zB O]
 ·exact h.inj j u ((d j).1 M).2 ((d u).1 m).2
 ·exact h.out j ((d j).1 a).2
 ·simp only[Sp.j3]at y ⊢;by_cases hin:k*32<=w/\w<(k+1)*32
  ·rw[zC hin]
  ·rw[zB hin];refine h.zero w λm=>y ((d _).2 ⟨O,m⟩)
theorem Sp.pv (s:Sp)(a v:Nat):s.set a 0 v=s:=by
 have d:gD s.st a (a+0) v=s.st:=by
  apply zr;intro i;rw[Hm];cases s.st[i]? with
  | none=>rfl
  | some x=>simp only[zZ];rw[zB O]
 have b:(λw=>if a*32<=w/\w<(a+0)*32 then 0 else s.wd w)=s.wd:=by
  funext w;rw[zB O]
 simp only[Sp.set,d,b]
theorem Sp.oD (s:Sp)(a m v:Nat)(h:a+m<s.st.length):(s.set a m v).j3 (a+m) v=s.set a (m+1) v:=by
 have d:(gD s.st a (a+m) v).set (a+m) v=gD s.st a (a+(m+1)) v:=by
  apply zr;intro i;rw[m7,Hm,Hm,KJ];by_cases hi:a+m=i
  ·subst hi;rw[zC rfl,zC h,cU h,zZ,zC O]
  ·rw[zB hi];cases s.st[i]? with
   | none=>rfl
   | some x=>
    simp only[zZ];by_cases hin:a<=i/\i<a+m
    ·rw[zC hin,zC O]
    ·rw[zB hin,zB O]
 have b:(λw=>if(a+m)*32<=w/\w<(a+m+1)*32 then 0 else(if a*32<=w/\w<(a+m)*32 then 0 else s.wd w))=λw=>if a*32<=w/\w<(a+(m+1))*32 then 0 else s.wd w:=by
  funext w
  by_cases d:(a+m)*32<=w/\w<(a+m+1)*32
  ·rw[zC d,zC O]
  ·rw[zB d];by_cases b:a*32<=w/\w<(a+m)*32
   ·rw[zC b,zC O]
   ·rw[zB b,zB O]
 simp only[Sp.set,Sp.j3,d,b]
theorem P0 (h:dL U F p sp){x y v:Nat}(hl:x+y<=sp.st.length)(hv:v<=1){R:aP}(hR:∀σ',Ext F U σ'->dL σ' F p (sp.set x y v)->R σ') :
 Y8.c (aW p) x y (fV v).1 (fV v).2 U R:=by
 refine Y8.o ?_;unfold Y8.v;have X:sp.st.length<=1024:=by obtain⟨q,r,l,B,h⟩:=h;exact h.n2
 have z:dL U (Cut F U) p sp:=dM.cut dL.loc h;refine nw (cs:=[.bool (fV v).1,.bool (fV v).2]) λu hz e g=>?_;have S:=z.bO e;refine Qc (a:=bN) (λ(t:Int) w=>∃i:Nat,t=((x+i:Nat):Int)/\i<=y/\Ext (Cut F U) u w/\bY w U.size [.bool (fV v).1,.bool (fV v).2]/\dL w (Cut F U) p (sp.set x i v)) (λt _=>x+y-t.toNat)
  ⟨0,rfl,O,Ext.refl _ _,g,by rw[Sp.pv];exact S⟩ ?_
 rintro t w ⟨i,rfl,hi,K,j,q,r,l,B,d⟩;refine cS (m:=x+y) O O (cP (λW=>?_) λY=>?_)
 ·have N:(sp.set x i v).st.length=sp.st.length:=KJ _ _ _ _;refine bK (d.rS λcap P=>j.rB rfl (j.rB rfl (ix O aC ?_)));rw[add_lit,show 0+((x+i:Nat):Int).toNat*2=2*(x+i) by omega];obtain⟨J,s⟩:=d.row;have M:x+i<(sp.set x i v).st.length:=by omega
  refine s.s1 (by rw[zO,VF];omega) λw1 o1 V=>V.s1 (by rw[ns,zO,VF];omega) λw2 o2 G=>?_;rw[j9,Dz M]at G;have e2:Ext (· = q) w w2:=o1.ext.trans o2.ext;obtain⟨c,Z,hd⟩:=d.hd;have C:=e2.bT hd d.fs.2.2.2.1;refine bK (C.rM rfl ⟨l,e2.fS d.map (λe=>d.fs.2.2.2.2.2 e.symm),λw3 D _ A=>?_⟩);have o3:=D r rfl;have E:Ext (λb=>b=q\/b=r) w w3:=(e2.sub λb g=>.inl g).trans (o3.ext.sub λb g=>.inr g);have H:=d.j3 M hv E (Ws o3 G d.fs.2.2.2.2.2) A;rw[Sp.oD _ _ _ _ O]at H;have L:Ext (Cut F U) w w3:=E.sub λb g=>by
   rcases g with rfl|rfl
   ·exact d.fs.2.1
   ·exact d.fs.2.2.1
  refine cS (m:=x+(i+1)) O O ⟨⟨i+1,rfl,O,K.trans L,L.bT j λQ=>by have:=Q.2;omega,_,_,_,_,H⟩,O⟩
 ·have:i=y:=by omega
  subst this;refine hR w (Ext.cut (e.to.trans K)) (dM.mono dL.loc ⟨q,r,l,B,d⟩ λb _ g=>g.1)
theorem Ro (h:dL U F p sp)(g:Gl U)(hF:jc F)(a m:Int){R:aN}(hR:∀σ',Ext F U σ'->dL σ' F p (fU sp a m)->R (fA sp a m) σ') :
 Y4.c (aW p) a m U R:=by
 refine Y4.o ?_;unfold Y4.v;have i:(∀x∈sp.st,x<=2)/\sp.st.length<=1024:=by obtain⟨q,r,l,B,h⟩:=h;exact⟨h.rG,h.n2⟩
 refine OX h a m (λe=>?_) λx y s H G K A J=>?_
 ·have e1:fA sp a m=1:=by unfold fA;rw[e];rfl
  have e2:fU sp a m=sp:=by unfold fU;rw[e1];rfl
  have:=hR U (Ext.refl _ _);rw[e1,e2]at this;exact cC rfl (this h)
 ·subst H;subst G;have e:Zj sp.st.length (x:Int) (y:Int)=true:=by simp only[Zj,zF,zU];omega
  refine cB rfl (Tm J g (by rw[za,ka];omega) (λz u=>i.1 z (sC (vn u))) λE e1=>?_);have d:fA sp x y=if((sp.st.drop x).take y).any (· != 0)then 5 else 0:=by unfold fA;rw[e];rfl
  refine cO (λb=>?_) λb=>?_
  ·rw[b]at d;have e2:fU sp x y=sp:=by unfold fU;rw[d];rfl
   have:=hR E (aG.to e1);rw[d,e2]at this;exact this (h.bO e1)
  ·rw[b]at d;have e2:fU sp x y=sp.set x y 1:=by unfold fU;rw[d];rfl
   have j:=g.bO e1;refine nK (by rw[←j.c0];rfl) (nK (by rw[←j.c1];rfl) ?_);refine P0 (v:=1) (h.bO e1) A O λC w D=>?_;have:=hR C (Ext.trans (aG.to e1) w);rw[d,e2]at this;exact this D
theorem EG (h:dL U F p sp)(g:Gl U)(x:Int)(hx:x<=9223372036854775807){R:aN}(hR:∀σ',aG U σ'->R (dT sp x) σ') :
 Xp.c (aW p) x 1 U R:=by
 refine Xp.o ?_;unfold Xp.v;have H:=h;obtain⟨q,r,l,B,h⟩:=h;have n2:=h.n2;have d:(x<0\/x%8≠0)->R 7 U:=λj=>by
  have:=hR U (Ext.refl _ _);unfold dT at this;rw[zC j]at this;exact this
 refine Bx H (cB rfl (cB rfl (bW.intro (cP (λA=>cC rfl (d (.inl A))) λA=>nz aB ?_))));obtain⟨y,rfl⟩:=zc (show 0<=x by omega);refine cO (λi=>?_) λi=>?_
 ·refine d (.inr ?_);rw[Qq O]at i;simpa using i
 have K:y%8=0:=by
  rw[Qq O]at i;have:((y:Int)%8)=0:=by simpa using i
  omega
 have ok:¬((y:Int)<0\/(y:Int)%8≠0):=by omega
 refine nz aB (cS (m:=y/256) (by rw[XX O];simp) O (nz aB (cS (m:=y/8) (by rw[XX O];simp) O ?_)));refine cS (m:=y/8+1) O O (cS (m:=y/8) O O (nz aB (cS (m:=y/256) (by rw[XX O];simp;omega) O ?_)));have fin:∀(b:Bool) σ',aG U σ'->(b=true↔sp.st.getD (y/256) 0=0)->If b (R 7 σ') (R 0 σ'):=λb σ' e j=>by
  have:=hR σ' e;unfold dT at this;rw[zB ok]at this;refine cO (λh=>?_) λh=>?_
  ·rw[zC (by simpa using j.1 h)]at this;exact this
  ·rw[zB (λE=>by rw[j.2 (by simpa using E)]at h;cases h)]at this;exact this
 obtain⟨c,J,hd⟩:=h.hd;refine Jn.intro ⟨λm=>bY m p [.slice (some ⟨q,0,none⟩) sp.st.length c,.map (some r),.int .i64 (sp.pk:Int)]/\Gl m,⟨hd,g⟩,?_⟩;refine bK ⟨⟨some ⟨q,0,none⟩,sp.st.length,c⟩,λm a=>by rw[add_lit,a.1.cell];rfl,?_⟩;refine cP (λs=>?_) λs=>?_
 ·simp only at s;refine fin _ U (Ext.refl _ _) ⟨λ_=>?_,λ_=>rfl⟩;rw[zP,zW O];rfl
 simp only at s;refine bK ⟨⟨some ⟨q,0,none⟩,sp.st.length,c⟩,λm a=>by rw[add_lit,a.1.cell];rfl,?_⟩;refine cS (m:=y/256+1) O O (iQ O aC (zD _) ?_);simp only;rw[zB O];refine⟨false,λm a=>a.2.u0,⟨false,λm a=>a.2.u1,?_⟩⟩;have e:(Option.map (λ(u:Addr)=>u.add (y/256*2)) (some (⟨q,0,none⟩:Addr)))=some ⟨q,2*(y/256),none⟩:=by
  simp only[zZ,add_lit];congr 2;omega
 rw[e,Ac];have G:=h.part (x:=y/256) (y:=1) (c:=c-y/256) O;refine Na (v:=0) G (by rw[za,ka];omega) (λz D=>h.rG z (sC (vn D))) O λσ' w=>?_;refine⟨⟨w.bT hd id,g.bO w⟩,fin _ σ' w ?_⟩;have C:y/256<sp.st.length:=by omega
 rw[zP,cU C,wh C,uw,xJ];simp[eq_comm]
theorem Og (h:dL U F p sp){w:Nat}(hw:w<=2305843009213693952){R:aN}(hR:R (sp.wd w) U):Y5.c (aW p) (w:Int) U R:=by
 refine Y5.o ?_;unfold Y5.v;obtain⟨q,r,l,B,h⟩:=h;refine bK (h.rM (nz aB (cS (m:=w/32) (by rw[XX O];simp) O ⟨l,h.map,?_⟩)));cases hg:bU l ((w/32:Nat):Int)with
 | none=>
  refine cB rfl ?_;have:sp.st[w/32]?≠some 2:=λa=>by
   have:=(h.keys _).2 ⟨_,rfl,a⟩;rw[hg]at this;cases this
  rw[h.zero w this]at hR;exact hR
 | some s=>
  obtain⟨d,x,i,j,e,u,b⟩:=h.wd _ s hg;refine cC rfl (nz aB ?_);simp only[pZ];have g:((w:Int).tmod 32)=((w%32:Nat):Int):=by rw[Qq O];simp
  rw[d,g];refine ix O O ?_;rw[add_lit];refine e.uF ?_ hR;rw[show 0+((w%32:Nat):Int).toNat*1=w%32 by omega,b _ O];simp only;rw[show 32*(w/32)+w%32=w by omega]
theorem JI (h:dL U F p sp)(g:Gl U)(x:Int)(hx:x<=9223372036854775807){R:Int->Int->Hp->Prop}(hR:∀σ',aG U σ'->R (if dT sp x=0 then sp.wd (x.toNat/8)else 0) (dT sp x) σ') :
 YJ.c (aW p) x U R:=by
 refine YJ.o ?_;unfold YJ.v;refine EG h g x hx λσ' e=>?_;have:=hR σ' e;refine cO (λd=>?_) λd=>?_
 ·have b:¬dT sp x=0:=by simpa using d
  rw[zB b]at this;exact this
 ·have a:dT sp x=0:=by simpa using d
  rw[zC a,a]at this;have i:0<=x:=by
   rcases(by omega:x<0\/0<=x)with hlt|hge
   ·unfold dT at a;rw[zC (.inl hlt)]at a;cases a
   ·exact hge
  obtain⟨y,rfl⟩:=zc i;exact nz aB (cS (m:=y/8) (by rw[XX O];simp) O (Og (h.bO e) O this))
theorem fF.Aw (h:fF U F p q r l B sp){k:Nat}(hk:k<sp.st.length)(hn:sp.st[k]?≠some 2){σ':Hp}{b:Nat}{s:Sl}{T:Rg}(e:Ext T U σ')(hT:∀i,i<U.size->T i->i=q\/i=r)(hz:U.size<=b){rest:List Value}
 (hb:bY σ' q (gO (sp.st.set k 2)++rest)) (hm:dH σ' r .i64 .s (dA l (k:Int) s)) (ha:s.a=some ⟨b,0,none⟩) (hl:s.len=32) (hc:s.cap=32) (hw:bY σ' b (List.replicate 32 (.int .i64 0))) :
 fF σ' (Grow F U) p q r (dA l (k:Int) s) (λj=>if j=k then b else B j) {sp with st:=sp.st.set k 2}:=by
 have u:∀j:Nat,(sp.st.set k 2)[j]?=some 2↔j=k\/sp.st[j]?=some 2:=λj=>by
  rw[m7];by_cases hjk:k=j
  ·subst hjk;rw[zC rfl,zC hk];simp
  ·rw[zB hjk];exact⟨λh=>.inr h,λh=>h.resolve_left λe=>hjk e.symm⟩
 obtain⟨c,J,hd⟩:=h.hd;obtain⟨_,z⟩:=h.row;have V:=hd.lt;have W:=z.lt;have S:=h.map.lt;have X:=e.1;have g:=h.fs;have A:∀{j:Nat},sp.st[j]?=some 2->B j<U.size:=λ{j} d=>by
  obtain⟨t,_,_,_,_,cs,H,_⟩:=h.entry d;exact H.lt
 have cV:∀{i:Nat} {cs:List Value},bY U i cs->i≠q->i≠r->bY σ' i cs:=λ{i cs} D E y=>e.bT D λP=>by
  rcases hT i D.lt P with h|h
  ·exact E h
  ·exact y h
 refine⟨⟨c,by simpa using J,by simpa using cV hd g.2.2.2.1 g.2.2.2.2.1⟩,⟨rest,hb⟩,hm,λx=>?_,λj t d=>?_,λj C E y m=>?_,λj d=>?_,⟨.inl g.1,.inl g.2.1,.inl g.2.2.1,g.2.2.2⟩,λw G=>?_,by simpa using h.n1,by simpa using h.n2,Fi h.rG O,h.pk⟩
 ·rw[VJ];by_cases hx:x=(k:Int)
  ·rw[zC hx];subst hx;simp only[Option.isSome_some,true_iff];exact⟨k,rfl,(u k).2 (.inl rfl)⟩
  ·rw[zB hx,h.keys];constructor
   ·rintro⟨j,rfl,d⟩;exact⟨j,rfl,(u j).2 (.inr d)⟩
   ·rintro⟨j,rfl,d⟩;exact⟨j,rfl,((u j).1 d).resolve_left O⟩
 ·rw[VJ]at d;by_cases hx:(j:Int)=(k:Int)
  ·have:j=k:=by omega
   subst this;rw[zC rfl]at d;cases d;rw[zC rfl];refine⟨ha,hl,O,_,hw,by simp,λi D=>?_⟩;rw[mH,zC D];simp only;rw[h.zero _ (by rw[show(32*j+i)/32=j by omega];exact hn)]
  ·rw[zB hx]at d;obtain⟨L,Q,N,cs,H,R,M⟩:=h.wd j t d;have K:=h.out j (h.lH d);rw[zB O];exact⟨L,Q,N,cs,cV H K.2.2.1 K.2.2.2,R,M⟩
 ·by_cases e1:j=k
  ·by_cases e2:C=k
   ·omega
   ·rw[zC e1,zB e2]at m;have:=A (((u C).1 y).resolve_left e2);omega
  ·rw[zB e1]at m;by_cases e2:C=k
   ·rw[zC e2]at m;have:=A (((u j).1 E).resolve_left e1);omega
   ·rw[zB e2]at m;exact h.inj j C (((u j).1 E).resolve_left e1) (((u C).1 y).resolve_left e2) m
 ·by_cases e1:j=k
  ·rw[zC e1];exact⟨.inr hz,O,O,O⟩
  ·rw[zB e1];have:=h.out j (((u j).1 d).resolve_left e1);exact⟨.inl this.1,this.2⟩
 ·refine h.zero w λy=>G ((u _).2 (.inr y))
theorem fF.Bv (h:fF U F p q r l B sp){σ':Hp}{n c:Nat}(hn:n<=1024)(ho:QB U σ' p)(hc:sp.st.length<=c)(hb:bY σ' p [.slice (some ⟨q,0,none⟩) sp.st.length c,.map (some r),.int .i64 (n:Int)]):fF σ' F p q r l B {sp with pk:=n}:=by
 have d:=h.fs;obtain⟨b,a⟩:=h.row;refine⟨⟨c,hc,hb⟩,⟨b,Ws ho a O⟩,Hs ho h.map O,h.keys,λj t e=>?_,h.inj,h.out,d,h.zero,h.n1,h.n2,h.rG,hn⟩;obtain⟨s,x,i,m,w,u,g⟩:=h.wd j t e;exact⟨s,x,i,m,Ws ho w (h.out j (h.lH e)).2.1,u,g⟩
theorem fF.word (h:fF U F p q r l B sp){w:Nat}{v:Int}(hk:sp.st[w/32]?=some 2){σ':Hp}{cs:List Value}(h32:32<=cs.length)(ho:QB U σ' (B (w/32)))(hcs:∀j,j<32->cs[j]?=some (.int .i64 (sp.wd (32*(w/32)+j))))
 (hb:bY σ' (B (w/32)) (cs.set (w%32) (.int .i64 v))):fF σ' F p q r l B {sp with wd:=λu=>if u=w then v else sp.wd u}:=by
 have x:=h.out _ hk;obtain⟨c,E,hd⟩:=h.hd;obtain⟨b,a⟩:=h.row;refine⟨⟨c,E,Ws ho hd O⟩,⟨b,Ws ho a O⟩,Hs ho h.map O,h.keys,λj t s=>?_,h.inj,h.out,h.fs,λu A=>?_,h.n1,h.n2,h.rG,h.pk⟩
 ·obtain⟨y,z,C,d,H,G,D⟩:=h.wd j t s;by_cases hjk:j=w/32
  ·subst hjk;refine⟨y,z,C,_,hb,by simpa using h32,λi g=>?_⟩;rw[m7];by_cases hiw:w%32=i
   ·rw[zC hiw,zC O];simp only;rw[zC O]
   ·rw[zB hiw];simp only;rw[zB O];exact hcs i g
  ·have m:B j≠B (w/32):=λe=>hjk (h.inj _ _ (h.lH s) hk e);refine⟨y,z,C,d,Ws ho H m,G,λi g=>?_⟩;rw[D i g];simp only;rw[zB O]
 ·have:u≠w:=λe=>by subst e;exact A hk
  simp only;rw[zB this];exact h.zero u A
theorem Sz (h:dL U F p sp)(g:Gc U){w:Nat}(hw:w/32<sp.st.length)(v:Int){R:aP}(hR:∀σ',Ext F U σ'->dL σ' (Grow F U) p (nu sp w v)->R σ') :
 Y9.c (aW p) (w:Int) v U R:=by
 refine Y9.o ?_;unfold Y9.v;obtain⟨q,r,l,B,h⟩:=h;have X:=h.n2;have x:sp.st[w/32]?=some sp.st[w/32]:=cU hw;have tm:((w:Int).tmod 32)=((w%32:Nat):Int):=by rw[Qq O];simp
 have word:∀(u:Hp) (s':Sp) (l':List (Int×Sl)) (B':Nat->Nat),Ext F U u->fF u (Grow F U) p q r l' B' s'->s'.st[w/32]?=some 2->({s' with wd:=λz=>if z=w then v else s'.wd z}:Sp)=nu sp w v →
  bV (some ⟨p,0,none⟩) λZ=>ly (Z.add 1) u λQ=>Lk .i64 .s Q ((w/32:Nat):Int) u λD=>Nz 32<|Ix (D.getD ⟨none,0,0⟩).a (D.getD ⟨none,0,0⟩).len ((w:Int).tmod 32) 1 λad=>dU ad (.int .i64 v) u λv1=>R v1:=by
  intro u s' l' B' eu hu A he;refine bK (hu.rM ⟨l',hu.map,nz aB ?_⟩);obtain⟨s,hs,w1,w2,w3,cs,w4,w5,w6⟩:=hu.entry A;rw[hs,tm];simp only[pZ];rw[w1];refine ix O O ?_;rw[add_lit,show 0+((w%32:Nat):Int).toNat*1=w%32 by omega];refine w4.s0 O λu2 o2 L=>?_;have h2:=hu.word (v:=v) A w5 o2 w6 L;rw[he]at h2;exact hR u2 (eu.dW o2.ext λb d=>by subst d;exact(hu.out _ A).1) ⟨_,_,_,_,h2⟩
 refine nz aB (cS (m:=w/32) (by rw[XX O];simp) O (Jn.intro (bK (h.rS λcap K=>ix O aC ?_))));rw[add_lit,show 0+((w/32:Nat):Int).toNat*2=2*(w/32) by omega];refine h.yM x (nK (n:=true) g.d0 (nK (n:=true) g.d1 ?_));have e0:(((fV sp.st[w/32]).1==true)&&(((fV sp.st[w/32]).2==true)&&true))=(sp.st[w/32]==2):=BV (h.rG _ (zp hw)) (y:=2) O;rw[e0];refine cO (λhd=>?_) λhd=>?_
 ·have J:sp.st[w/32]≠2:=by simpa using hd
  refine bK (h.rS λcap K=>nK (n:=true) g.d0 (nK (n:=true) g.d1 (ix O aC ?_)));rw[add_lit,show 0+((w/32:Nat):Int).toNat*2=2*(w/32) by omega];obtain⟨C,G⟩:=h.row;refine G.s1 (by rw[zO,VF];omega) λu1 o1 b1=>b1.s1 (by rw[ns,zO,VF];omega) λu2 o2 L=>?_;rw[j9]at L;have V:bY u2 q (gO (sp.st.set (w/32) 2)++C):=by rw[←Dz hw];exact L
  have e2:Ext (· = q) U u2:=o1.ext.trans o2.ext;obtain⟨c,hc,E⟩:=h.hd;have H:=e2.bT E h.fs.2.2.2.1;refine⟨λm=>bY m p [.slice (some ⟨q,0,none⟩) sp.st.length c,.map (some r),.int .i64 (sp.pk:Int)],H,bK ⟨some r,λm hm=>by rw[add_lit,hm.cell];rfl,?_⟩⟩;refine mk (n:=32) O O λu3 hz3 N b3=>⟨Ext.bT N H id,?_⟩;have ac:bY u3 u2.size (List.replicate 32 (.int .i64 0)):=b3;have q3:=Ext.bT N V id;have S:=e2.fS h.map (λe=>h.fs.2.2.2.2.2 e.symm);refine⟨r,l,rfl,Ext.fS N S id,λu4 o4 Y=>?_⟩;have sz2:u2.size=U.size:=by rw[o2.1,o1.1]
  have ae:=h.map.lt;have hplt:=E.lt;have e4:Ext (λb=>b=q\/b=r) U u4:=((e2.sub λb d=>.inl d).trans (aG.to N)).trans (o4.ext.sub λb d=>.inr d);have M:=h.Aw hw (by rw[x];simpa using J) (s:=⟨some ⟨u2.size,0,none⟩,32,32⟩) (b:=u2.size) e4 (λi _ P=>P) O (Ws o4 q3 h.fs.2.2.2.2.2) Y rfl rfl rfl (Ws o4 ac O);obtain⟨c4,ab,j⟩:=M.hd;refine bK (j.rI rfl (bK (j.rM rfl ⟨_,M.map,bK ?_⟩)));rw[M.wo];have hcl:(sp.st.set (w/32) 2).count 2<=1024:=zY List.count_le_length (by simpa using X);have hpk:=h.pk;have hv:(if((List.count 2 (sp.st.set (w/32) 2):Nat):Int)>(sp.pk:Int)then((List.count 2 (sp.st.set (w/32) 2):Nat):Int)else(sp.pk:Int))=((max sp.pk ((sp.st.set (w/32) 2).count 2):Nat):Int):=by
   by_cases hgt:((List.count 2 (sp.st.set (w/32) 2):Nat):Int)>(sp.pk:Int)
   ·rw[zC hgt];omega
   ·rw[zB hgt];omega
  simp only;rw[hv];refine j.s1 aA λu5 o5 b5=>?_;have h5:=M.Bv O o5 ab b5;have e5:Ext F U u5:=(e4.sub λb d=>by
   rcases d with rfl|rfl
   ·exact h.fs.2.1
   ·exact h.fs.2.2.1).trans (o5.ext.sub λb d=>by subst d;exact h.fs.1)
  refine word u5 _ _ _ e5 h5 (by simp only;rw[m7,zC rfl,zC hw]) ?_;unfold nu;rw[zB (by rw[zP,x];exact J)]
 ·have W:sp.st[w/32]=2:=by simpa using hd
  rw[W]at x;have aa:fF U (Grow F U) p q r l B sp:={h with out:=λk A=>⟨.inl (h.out k A).1,(h.out k A).2⟩,fs:=⟨.inl h.fs.1,.inl h.fs.2.1,.inl h.fs.2.2.1,h.fs.2.2.2⟩};refine word U sp l B (Ext.refl _ _) aa x ?_;unfold nu;rw[zC (by rw[zP,x];rfl)];have:sp.st.set (w/32) 2=sp.st:=by
   apply zr;intro i;rw[m7];by_cases P:w/32=i
   ·subst P;rw[zC rfl,zC hw,x]
   ·rw[zB P]
  rw[this]
theorem Nc (h:dL U F p sp)(g:Gl U)(gd:Gc U)(x:Int)(hx:x<=9223372036854775807)(v:Int){R:aN}(hR:∀σ',Ext F U σ'->dL σ' (Grow F U) p (W5 sp x v)->R (dT sp x) σ') :
 Yk.c (aW p) x v U R:=by
 refine Yk.o ?_;unfold Yk.v;have i:dL U (Cut F U) p sp:=dM.cut dL.loc h;refine EG h g x hx λA e=>?_;have w:=i.bO e;have C:=g.bO e;refine cO (λs=>?_) λs=>?_
 ·have r:¬dT sp x=0:=by simpa using s
  refine hR A (aG.to e) ?_;unfold W5;rw[zB r];exact dM.mono dL.loc w λb _ a=>.inl a.1
 ·have d:dT sp x=0:=by simpa using s
  have j:0<=x/\sp.st.getD (x.toNat/256) 0≠0:=by
   unfold dT at d;by_cases a:x<0\/x%8≠0
   ·rw[zC a]at d;cases d
   ·rw[zB a]at d;by_cases hz:sp.st.getD (x.toNat/256) 0=0
    ·rw[zC hz]at d;cases d
    ·exact⟨O,hz⟩
  obtain⟨y,rfl⟩:=zc j.1;have u:y/8/32<sp.st.length:=by
   rcases kE (y/256) sp.st.length with h|h
   ·omega
   ·exact absurd (by rw[zP,zW (by simpa using h)];rfl) j.2
  refine nz aB (cS (m:=y/8) (by rw[XX O];simp) O (Sz w (gd.bO e) u v λB e2 z=>?_));have:=hR B (Ext.cut ((aG.to e).trans e2)) ?_
  ·rw[d]at this;exact this
  ·unfold W5;rw[zC d];exact dM.mono dL.loc z λb _ a=>by
    rcases a with a|a
    ·exact .inl a.1
    ·exact .inr (zY e.1 a)
def Vr (n:Nat):Sp:=⟨List.replicate n 0,λ_=>0,0⟩
theorem NM {U:Hp}{F:Rg}{p q r n c:Nat}(h1:1<=n)(h2:n<=1024)(hc:n<=c)(hd:bY U p [.slice (some ⟨q,0,none⟩) n c,.map (some r),.int .i64 0])(hq:bY U q (gO (List.replicate n 0)))(hr:dH U r .i64 .s [])
 (hF:F p/\F q/\F r) (hne:p≠q/\p≠r/\q≠r):fF U F p q r [] (λ_=>0) (Vr n):=by
 have b:∀k:Nat,(List.replicate n 0)[k]?≠some 2:=λk a=>by
  rw[mH]at a;split at a<;>cases a
 refine⟨⟨c,by simpa[Vr]using hc,by simpa[Vr]using hd⟩,⟨[],by simpa[Vr]using hq⟩,hr,λx=>?_,λk s d=>(by cases d),λk g h1=>absurd h1 (b k),λk a=>absurd a (b k),⟨hF.1,hF.2.1,hF.2.2,hne⟩,λw _=>rfl,by simpa[Vr]using h1,by simpa[Vr]using h2,λx e=>?_,by simp[Vr]⟩
 ·constructor
  ·intro h;cases h
  ·rintro⟨k,_,a⟩;exact absurd a (b k)
 ·have:=zx e;omega
theorem Ol {n:Nat}(h1:1<=n)(h2:n<=1024){R:Option Addr->Int->Hp->Prop}(hR:∀σ' p',aG U σ'->U.size<=p'->dL σ' (λb=>U.size<=b) p' (Vr n)->R (some ⟨p',0,none⟩) 0 σ'):QZ.c (n:Int) U R:=by
 refine QZ.o ?_;unfold QZ.v;refine bW.intro (fT O ?_);rw[zN O];refine cB rfl (mk O O λd x e1 j=>sY λu r e2 g=>nw (cs:=[.slice (some ⟨U.size,0,none⟩) n n,.map (some d.size),.int .i64 0]) λi w a m=>?_);have p:=Ext.bT a (Ext.bT e2 j id) id;have e:=Ext.fS a (g .i64 .s) id;refine hR i _ (Ext.trans (Ext.trans e1 e2) a) O ⟨U.size,d.size,[],_,NM h1 h2 (zD _) m ?_ e ⟨O,O,O⟩ O⟩;rw[Sr];exact p
end Go.Ar