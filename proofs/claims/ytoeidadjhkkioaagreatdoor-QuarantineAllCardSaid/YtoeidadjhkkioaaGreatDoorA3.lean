/- Texts joined. -/
import Derived.Lib.Overlaps
import Derived.Laws.Externs
import Derived.Test.YtoeidadjhkkioaaGreatDoorA2
set_option linter.unusedVariables false
set_option linter.unusedSimpArgs false
namespace Go.Proofs
open Go.Vc
set_option maxRecDepth 100000
def ZZ.h:Hn:=.q .o1 (.q (.q (.cU (.seq [.op,.op,.op,.op,.cY false 3 (RI.ops 3)])) .aK) (.q (.q .o3 (.k (.loop [(15,.I)] (.q .o1 (.q (.c .l .l) (.q (.k (.q .o6 (.q (.cU (.gI true [1] [(37,.one .b)] (.take 0 (.all [(1,.take 2 (.take 3 (.split 23 (.take 4 (.take 5 (.take 6 (.take 7 (.take 8 (.take 9 (.take 10 (.take 11 (.take 12 (.take 13 (.take 14 (.take 15 (.take 16 (.take 17 (.done))))))))))))))) (.take 4 (.take 5 (.take 6 (.split 26 (.take 7 (.take 9 (.take 10 (.take 11 (.take 12 (.take 13 (.all [(8,.all [(14,.take 15 (.take 16 (.take 17 (.done))))]),(14,.all [(8,.take 15 (.take 16 (.take 17 (.done))))])]))))))) (.take 7 (.take 8 (.take 9 (.take 10 (.take 11 (.take 12 (.take 13 (.take 14 (.take 15 (.take 16 (.take 17 (.done)))))))))))))))))))])))) .aK))) .o2)))))) .aM))
def ZZ.v (a:Sl)(b:Hp)(c:aO):Prop:=bX (λd e=>If d (c false e) (X6 [bO] (λf=>f 0 e) λg (h:Int) i=>If (h<((a.len:Nat):Int)) (Ix a.a a.len h 3 λj=>aQ j 0 i λk=>aQ j 1 i λl=>aQ j 2 i λm=>aV #[.I 0,.I 0,.I 0] 149 i λn o=>aR n 0 (.I k) o λp=>aR n 1 (.I l) p λq=>aR n 2 (.I m) q λr=>Jn [.b] (λ(s:Bool) t=>If s (c false t) (bM (h+1) λu=>g u t)) λv=>dY r λw=>aS w n 0 λx=>aS w n 1 λy=>aS w n 2 λz=>Ke.c x y z r λaa ab=>If (!aa) (v true ab) (If (h>0) (bM (h-1) λac=>Ix a.a a.len ac 3 λad=>(aQ n 0 ab λae=>aQ ad 0 ab λaf=>v (decide (ae<=af)) ab) ∧ (aQ ad 0 ab λag=>aQ n 0 ab λah=>v (decide (ah<=ag)) ab)) (v false ab))) (c true i))) λai=>If (((a.len:Nat):Int)<1) (ai true b) (ai (decide (((a.len:Nat):Int)>40)) b)
theorem ZZ.o {a b c}(d:ZZ.v a b c):ZZ.c a b c:=Wa Tryz.func151 (x:=ZZ.h) (R0 d)
def QN.h:Hn:=.q .o4 (.q (.k (.q .o4 (.c .aL (.q (.cU (.gI true [] [(13,.one .b)] (.tk [0,1,2] (.split 16 (.tk [3,4,5,6,7,8,9,10,11,12,13,14,15,16] (.done)) (.tk [3,4,5,6] (.split 20 (.tk [7,8,9,10,11,12,13,14,15,16] (.done)) (.tk [7,8,9,10] (.split 24 (.tk [11,12,13,14,15,16] (.done)) (.take 11 (.take 13 (.all [(12,.take 14 (.take 15 (.take 16 (.done))))]))))))))))) .aJ)))) (.q .o4 (.q (.q .o2 .aJ) (.q .o3 .l))))
def QN.v (a:Sl)(b c:Int)(d:Hp)(e:Int->Int->Hp->Prop):Prop:=aV #[.I b] 3 d λf g=>aV #[.I c] 3 g λh i=>ZZ.c a i λj k=>If (!j) (e 0 2 k) (Jn [.b] (λ(l:Bool) m=>If l (e 0 1 m) (Ws.c a ⟨228,#[],#[.pointer (some f),.pointer (some h)]⟩ m λn o=>If (n<0) (e 0 4 o) (e n 0 o))) λp=>dY k λq=>gG q bO f λ(r:Int)=>If (r<1) (p true k) (gG q bO h λ(s:Int)=>If (s<1) (p true k) (gG q bO h λ(t:Int)=>If (t>256) (p true k) (gG q bO h λ(u:Int)=>gG q bO h λ(v:Int)=>QL.c u k λw x=>And (q x) <| p (w != v) x))))
theorem QN.o {a b c d e}(f:QN.v a b c d e):QN.c a b c d e:=Wa Tryz.func164 (x:=QN.h) (R0 f)
def Ke.h:Hn:=.q .o2 (.q (.cU (.seq [.op,.op,.op,.op,.cY true 3 (RI.ops 3),.op,.cY true 4 (RI.ops 4),.op,.cY true 3 (RI.ops 3),.op,.cY true 3 (RI.ops 3),.op,.cY true 6 (RI.ops 6),.op,.cY true 3 (RI.ops 3),.op,.cY true 3 (RI.ops 3),.op])) .l)
def Ke.v (a b c:Int)(d:Hp)(e:aO):Prop:=aV #[.I a,.I b,.I c] 149 d λf g=>aQ f 0 g λh=>bX (λi j=>bX (λk l=>bX (λm n=>bX (λo p=>bX (λq r=>bX (λs t=>bX (λu v=>e u v) λw=>If s (aQ f 2 t λx=>w (decide (x<=32)) t) (w false t)) λy=>If q (aQ f 2 r λz=>y (decide (z≥1)) r) (y false r)) λaa=>If o (aQ f 1 p λab=>bM (ab*256) λac=>aQ f 0 p λad=>aa (decide (ac≥ad)) p) (aa false p)) λae=>If m (aQ f 1 n λaf=>ae (decide (af<=4)) n) (ae false n)) λag=>If k (aQ f 1 l λah=>ag (decide (ah≥1)) l) (ag false l)) λai=>If i (aQ f 0 j λaj=>Nz 8 <| ai ((aj.tmod 8)==0) j) (ai false j)) λak=>If (h≥8) (aQ f 0 g λal=>ak (decide (al<=512)) g) (ak false g)
theorem Ke.o {a b c d e}(f:Ke.v a b c d e):Ke.c a b c d e:=Wa Tryz.func195 (x:=Ke.h) (R0 f)
def Z2.h:Hn:=.q .o2 (.q .o7 .l)
def Z2.v (a b c:Int)(d:Hp)(e:aN):Prop:=aV #[.I a,.I b,.I c] 149 d λf g=>aQ f 1 g λh=>bM (h*256) λi=>aQ f 0 g λj=>Nz j<|bM (i.tdiv j) λk=>e k g
theorem Z2.o {a b c d e}(f:Z2.v a b c d e):Z2.c a b c d e:=Wa Tryz.func196 (x:=Z2.h) (R0 f)
def QL.h:Hn:=.q .o1 (.q .o1 (.q (.q .o1 (.k (.loop [(3,.I),(4,.I)] (.q (.q .o3 (.c .l .l)) (.q (.k .o2) .o3))))) .aL))
def QL.v (a:Int)(b:Hp)(c:aN):Prop:=X6 [bO,bO] (λd=>d 0 1 b) λe (f:Int) (g:Int) h=>If (g<=a) (bM (g*2) λi=>e g i h) (c f h)
theorem QL.o {a b c}(d:QL.v a b c):QL.c a b c:=Wa Tryz.func226 (x:=QL.h) (R0 d)
def Qi.h:Hn:=.q .o2 (.q (.cU (.seq [.op,.op,.op,.op,.op,.cY true 5 (RI.ops 5),.op])) .l)
def Qi.v (a b c:Int)(d e:Addr)(f:Hp)(g:aO):Prop:=aV #[.I a,.I b,.I c] 149 f λh i=>aQ h 0 i λj=>bN d i λk=>bX (λl m=>g l m) λn=>If (j≥k) (aQ h 0 i λo=>bN e i λp=>Nz p <| n ((o.tmod p)==0) i) (n false i)
theorem Qi.o {a b c d e f g}(h:Qi.v a b c d e f g):Qi.c a b c d e f g:=Wa Tryz.func228 (x:=Qi.h) (R0 h)
def ZS.h:Hn:=.q .o3 (.q (.q .o3 .aJ) (.q .o4 .l))
def ZS.v (a b c:Int)(d:Hp)(e:Int->Int->Hp->Prop):Prop:=aV #[.I a,.I b,.I c] 149 d λf g=>aQ f 0 g λh=>aQ f 1 g λi=>aQ f 2 g λj=>Ke.c h i j g λk l=>If (!k) (e 0 1 l) (aQ f 0 l λm=>aQ f 1 l λn=>aQ f 2 l λo=>Z2.c m n o l λp q=>e p 0 q)
theorem ZS.o {a b c d e}(f:ZS.v a b c d e):ZS.c a b c d e:=Wa Tryz.func274 (x:=ZS.h) (R0 f)
end Go.Proofs
namespace Go.Ar
open Go Go.Vc Go.Proofs
variable {U:Hp}
theorem IX (x y z:Int){R:aO}(hR:∀σ',aF U σ'->R (U1 x y z) σ'):Ke.c x y z U R:=by
 refine Ke.o ?_;unfold Ke.v;refine nw (cs:=[.int .i64 x,.int .i64 y,.int .i64 z]) λh A e b=>?_;have s:U1 x y z=false->R false h:=λg=>g▸hR h e;have a:¬(8<=x/\x<=512/\x%8=0/\1<=y/\y<=4/\x<=y*256/\1<=z/\z<=32)->R false h:=λg=>s (by rw[←sg,HE];exact g);refine b.rI rfl (bX.intro ?_);refine cN (λr=>b.rI rfl (bX.intro ?_)) λr=>?_
 case refine_2=>
  iterate 6 refine bX.intro (cD rfl ?_)
  exact a O
 refine cN (λj=>b.rI rfl (nz aB (bX.intro ?_))) λj=>?_
 case refine_2=>
  iterate 5 refine bX.intro (cD rfl ?_)
  exact a O
 rw[Kj O];refine cQ (λd=>b.rI rfl (bX.intro ?_)) λd=>?_
 case refine_2=>
  have:¬x%8=0:=by simpa using d
  iterate 4 refine bX.intro (cD rfl ?_)
  exact a O
 have m:x%8=0:=by simpa using d
 refine cN (λi=>b.rI rfl (bX.intro ?_)) λi=>?_
 case refine_2=>
  iterate 3 refine bX.intro (cD rfl ?_)
  exact a O
 refine cN (λu=>b.rI rfl (ar O O (b.rI rfl (bX.intro ?_)))) λu=>?_
 case refine_2=>
  iterate 2 refine bX.intro (cD rfl ?_)
  exact a O
 refine cN (λp=>b.rI rfl (bX.intro ?_)) λp=>?_
 case refine_2=>exact bX.intro (cD rfl (a O))
 refine cN (λw=>b.rI rfl ?_) λw=>a O;have:decide (z<=32)=U1 x y z:=by
  rw[kW,HE];simp;omega
 rw[this];exact hR h e
theorem Wgv {c:cA}(hc:c.ok){R:aN}(hR:∀σ',aF U σ'->R (c.n:Int) σ'):Z2.c c.size c.aG c.batch U R:=by
 refine Z2.o ?_;unfold Z2.v;have h:=hc;unfold cA.ok at h;refine nw (cs:=[.int .i64 c.size,.int .i64 c.aG,.int .i64 c.batch]) λh b e a=>?_;refine a.rI rfl (cT (m:=c.aG*256) aA O (a.rI rfl (nz O ?_)));refine cT (m:=c.n) ?_ (by have:=hc.kN;omega) (hR _ e);rw[YR O];simp[cA.n]
theorem FC (x y z:Int){R:Int->Int->Hp->Prop}(h1:∀c:cA,c.ok->x=c.size->y=c.aG->z=c.batch->∀σ',aF U σ'->R (c.n:Int) 0 σ')(h0:U1 x y z=false->∀σ',aF U σ'->R 0 1 σ'):ZS.c x y z U R:=by
 refine ZS.o ?_;unfold ZS.v;refine nw (cs:=[.int .i64 x,.int .i64 y,.int .i64 z]) λh j e b=>?_;refine b.rI rfl (b.rI rfl (b.rI rfl (IX _ _ _ λm e2=>?_)));have a:=e2.bV b id;cases hk:U1 x y z
 ·exact cF rfl (h0 hk _ (e.trans e2))
 ·obtain⟨c,d,_,rfl,rfl,rfl⟩:=AP hk;exact cD rfl (a.rI rfl (a.rI rfl (a.rI rfl (Wgv d λi g=>h1 c d rfl rfl rfl _ ((e.trans e2).trans g)))))
end Go.Ar
namespace Go.Proofs
open Go.Vc
set_option maxRecDepth 100000
def Vm.h:Hn:=.q .o2 (.q (.q (.cU (.seq [.op,.op,.op,.cY false 2 [.op,.op],.op,.cY false 3 (RI.ops 3)])) .aJ) (.q .o6 .l))
def Vm.v (a:Int)(b:Hp)(c:Option Addr->Int->Hp->Prop):Prop:=bX (λd e=>bX (λf g=>If f (c none 1 g) (Mk a a 8 3 [.I 0] g λh i=>aV #[.slice h.a h.len h.cap] 342 i λj k=>c (some j) 0 k)) λl=>If d (l true e) (Nz 16 <| l ((a.tmod 16) != 0) e)) λm=>If (a<16) (m true b) (m (decide (a>1024)) b)
theorem Vm.o {a b c}(d:Vm.v a b c):Vm.c a b c:=Wa Tryz.func211 (x:=Vm.h) (R0 d)
def XM.h:Hn:=.q .o1 (.q .o6 .l)
def XM.v (a:R2)(b c:Int)(d:Hp)(e:aN):Prop:=aV #[.I 1] 3 d λf g=>XX.c a b c 2 ⟨some f,1,1⟩ g λh i=>e h i
theorem XM.o {a b c d e}(f:XM.v a b c d e):XM.c a b c d e:=Wa Tryz.func245 (x:=XM.h) (R0 f)
def XF.h:Hn:=.q .o1 (.q (.cU (.seq [.op,.op,.op,.cY true 6 (RI.ops 6),.op])) .l)
def XF.v (a:R2)(b:Hp)(c:aO):Prop:=bX (λd e=>c d e) λf=>If (!a.isNone) (bF a 0 b λh=>f (decide (((h.len:Nat):Int)>0)) b) (f false b)
theorem XF.o {a b c}(d:XF.v a b c):XF.c a b c:=Wa Tryz.func249 (x:=XF.h) (R0 d)
def Y7.h:Hn:=.q .o1 (.q .o7 .l)
def Y7.v (a:R2)(b:Hp)(c:aN):Prop:=bF a 0 b λe=>Nz 16<|bM (((e.len:Nat):Int).tdiv 16) λf=>c f b
theorem Y7.o {a b c}(d:Y7.v a b c):Y7.c a b c:=Wa Tryz.func250 (x:=Y7.h) (R0 d)
def Zm.h:Hn:=.q .o1 (.q (.o 11) .l)
def Zm.v (a:R2)(b:Int)(c:Hp)(d:Sl->Hp->Prop):Prop:=bF a 0 c λf=>bM (b*16) λg=>bM (b+1) λh=>bM (h*16) λi=>fD f 1 g i (f.cap:Nat) λj=>d j c
theorem Zm.o {a b c d}(e:Zm.v a b c d):Zm.c a b c d:=Wa Tryz.func252 (x:=Zm.h) (R0 e)
def XX.h:Hn:=.q .o2 (.q (.k (.q .o4 (.c .aM (.q (.cU (.seq [.op,.op,.op,.cY false 2 [.op,.op],.op,.cY false 7 (RI.ops 7),.op,.cY false 9 (RI.ops 9),.op])) .aK)))) (.q .fX (.q (.q .o3 .aK) (.q .o3 .aM))))
def XX.v (a:R2)(b c d:Int)(e:Sl)(f:Hp)(g:aN):Prop:=aV #[.slice e.a e.len e.cap] 31 f λh i=>XF.c a i λj k=>If (!j) (g 5 k) (bX (λl m=>bX (λn o=>bX (λp q=>If p (g 1 q) (bF a 0 q λs=>bM (b+c) λt=>fD s 1 b t (s.cap:Nat) λu=>WP.c u ⟨305,#[],#[.pointer (some h)]⟩ q λv w=>If v (g 5 w) (Q2.c u d w λx=>g 0 x))) λy=>If n (y true o) (bF a 0 o λaa=>bM (((aa.len:Nat):Int)-b) λab=>y (decide (c>ab)) o)) λac=>If l (ac true m) (bF a 0 m λae=>ac (decide (b>((ae.len:Nat):Int))) m)) λaf=>If (b<0) (af true k) (af (decide (c<1)) k))
theorem XX.o {a b c d e f g}(h:XX.v a b c d e f g):XX.c a b c d e f g:=Wa Tryz.func256 (x:=XX.h) (R0 h)
def YI.h:Hn:=.q .o2 (.q (.k (.q .o4 (.c .aL (.q (.cU (.seq [.op,.op,.op,.cY false 4 (RI.ops 4),.op])) .aJ)))) (.q .o5 .l))
def YI.v (a:R2)(b:Int)(c:Hp)(d:Sl->Int->Hp->Prop):Prop:=XF.c a c λe f=>If (!e) (d ⟨none,0,0⟩ 5 f) (bX (λg h=>If g (d ⟨none,0,0⟩ 1 h) (Zm.c a b h λi j=>d i 0 j)) λk=>If (b<0) (k true f) (Y7.c a f λl m=>k (decide (b≥l)) m))
theorem YI.o {a b c d}(e:YI.v a b c d):YI.c a b c d:=Wa Tryz.func259 (x:=YI.h) (R0 e)
def Q2.h:Hn:=.q .o3 (.k (.loop [(7,.I)] (.q .o1 (.q (.c .l .l) (.q (.k (.q .o2 .o5)) .o2)))))
def Q2.v (a:Sl)(b:Int)(c:Hp)(d:aP):Prop:=X6 [bO] (λe=>e 0 c) λf (g:Int) h=>If (g<((a.len:Nat):Int)) (Ix a.a a.len g 1 λi=>dX i (.I b) h λj=>bM (g+1) λk=>f k j) (d h)
theorem Q2.o {a b c d}(e:Q2.v a b c d):Q2.c a b c d:=Wa Tryz.func261 (x:=Q2.h) (R0 e)
def XU.h:Hn:=.q .o1 (.q .o6 .l)
def XU.v (a:R2)(b c:Int)(d:Hp)(e:aN):Prop:=aV #[.I 2,.I 3] 3 d λf g=>XX.c a b c 1 ⟨some f,2,2⟩ g λh i=>e h i
theorem XU.o {a b c d e}(f:XU.v a b c d e):XU.c a b c d e:=Wa Tryz.func288 (x:=XU.h) (R0 f)
def YN.h:Hn:=.q .o1 (.q .o5 .l)
def YN.v (a:Int)(b:Addr)(c:Hp)(d:aO):Prop:=jG b c λe=>Ww.c e a c λf g=>d (!f) g
theorem YN.o {a b c d}(e:YN.v a b c d):YN.c a b c d:=Wa Tryz.func305 (x:=YN.h) (R0 e)
def Yd.h:Hn:=.q .o1 (.q (.q (.cU (.seq [.op,.op,.op,.op,.cY false 2 [.op,.op],.op,.cY false 7 (RI.ops 7)])) .aK) (.q .o8 .l))
def Yd.v (a:R2)(b:Int)(c:Hp)(d:aN):Prop:=XF.c a c λe f=>bX (λg h=>bX (λi j=>If i (d (-1) j) (bF a 0 j λl=>Ix l.a l.len b 1 λm=>bN m j λn=>d n j)) λo=>If g (o true h) (bF a 0 h λq=>o (decide (b≥((q.len:Nat):Int))) h)) λr=>If (!e) (r true f) (r (decide (b<0)) f)
theorem Yd.o {a b c d}(e:Yd.v a b c d):Yd.c a b c d:=Wa Tryz.func314 (x:=Yd.h) (R0 e)
def Yo.h:Hn:=.q .o1 (.q .o8 (.q (.k (.q .o3 (.c .aL (.q .o5 .aK)))) (.q .o2 .aM)))
def Yo.v (a:R2)(b:Int)(c:Hp)(d:aN):Prop:=YI.c a b c λe f g=>If (f != 0) (d f g) (Ix e.a e.len 0 1 λh=>bN h g λi=>If (i != 0) (d 5 g) (Q2.c e 3 g λj=>d 0 j))
theorem Yo.o {a b c d}(e:Yo.v a b c d):Yo.c a b c d:=Wa Tryz.func319 (x:=Yo.h) (R0 e)
end Go.Proofs
namespace Go.Ar
open Go Go.Vc Go.Proofs
open Go.Bu (Zz)
variable {U:Hp}{F:Rg}{p q:Nat}{st:List Nat}
structure im (U:Hp) (p q:Nat) (st:List Nat):Prop where
 hd:∃cap,st.length<=cap/\bZ U p [.slice (some ⟨q,0,none⟩) st.length cap]
 row:∃rest,bZ U q (ints st++rest)
 ne:p≠q
 n1:16<=st.length
 n2:st.length<=1024
 n3:st.length%16=0
theorem im.bS {σ':Hp}(h:im U p q st)(e:Ext F U σ')(hp:¬F p)(hq:¬F q):im σ' p q st:=
 ⟨by obtain⟨c,a,b⟩:=h.hd;exact⟨c,a,e.bV b hp⟩,by obtain⟨r,a⟩:=h.row;exact⟨r,e.bV a hq⟩,h.ne,h.n1,h.n2,h.n3⟩
theorem im.bP {σ':Hp}(h:im U p q st)(e:aF U σ'):im σ' p q st:=h.bS e id id
theorem im.lt (h:im U p q st):p<U.size/\q<U.size:=by
 obtain⟨_,_,a⟩:=h.hd;obtain⟨_,b⟩:=h.row;exact⟨a.lt,b.lt⟩
theorem im.rS (h:im U p q st){K:Sl->Prop}(hK:∀cap,st.length<=cap->K ⟨some ⟨q,0,none⟩,st.length,cap⟩):jG (Addr.add ⟨p,0,none⟩ 0) U K:=by
 obtain⟨c,a,b⟩:=h.hd;exact b.rS rfl (hK c a)
theorem im.part (h:im U p q st){s:Sl}{a n:Nat}(ha:s.a=some ⟨q,a,none⟩)(hn:s.len=n)(hl:a+n<=st.length):cV s 1 (ints ((st.drop a).take n)) U (· = q):=by
 obtain⟨r,g⟩:=h.row;have b:((st.drop a).take n).length=n:=by simp;omega
 refine g.fW ha (by rw[Kt,b,hn];simp) λj d=>?_;rw[Kt,b]at d;rw[zd (by rw[Kt];omega)];simp[ints,zm,d,lg]
theorem jU {b o n c:Nat}{cs:List Value}(hb:bZ U b cs)(hl:o+n<=cs.length)(hn:n<=1000000)(v:Nat){R:aP}
 (hR:∀σ',Ka U σ' b->bZ σ' b (cs.take o++List.replicate n (.int .i64 (v:Int))++cs.drop (o+n))->R σ'):Q2.c ⟨some ⟨b,o,none⟩,n,c⟩ v U R:=by
 refine Q2.o ?_;unfold Q2.v;refine Qv (a:=bO) (λ(t:Int) p=>∃i:Nat,t=(i:Int)/\i<=n/\Ka U p b/\bZ p b (cs.take o++List.replicate i (.int .i64 (v:Int))++cs.drop (o+i))) (λt _=>n-t.toNat) ⟨0,rfl,O,⟨rfl,λ_ _=>rfl⟩,by simpa using hb⟩ ?_;rintro t p ⟨i,rfl,hi,r,j⟩;refine cN (λu=>?_) λs=>?_
 ·simp only at u;refine ix O aC ?_;rw[add_lit];refine j.s0 aE λx d g=>?_;refine cT (m:=i+1) O O ⟨⟨i+1,rfl,O,⟨d.1.trans r.1,λk w=>(d.2 k w).trans (r.2 k w)⟩,?_⟩,O⟩;have:(cs.take o++List.replicate i (Value.int .i64 (v:Int))++cs.drop (o+i)).set (o+(i:Int).toNat*1) (Value.int .i64 (v:Int))=cs.take o++List.replicate (i+1) (Value.int .i64 (v:Int))++cs.drop (o+(i+1)):=by
   rw[Ce _ _ aE];have e:o+(i:Int).toNat*1-(cs.take o++List.replicate i (Value.int .i64 (v:Int))).length=0:=by simp;omega
   rw[e,xg O,List.set_cons_zero,Bs];simp[zl,wF]
  rw[this]at g;exact g
 ·simp only at s;have:i=n:=by omega
  subst this;exact hR p r j
theorem im.fill (h:im U p q st){a n:Nat}{r:List Value}{σ':Hp}{v:Nat}(hrow:bZ U q (ints st++r))(hl:a+n<=st.length)(ho:Ka U σ' q)
 (hb:bZ σ' q ((ints st++r).take a++List.replicate n (.int .i64 (v:Int))++(ints st++r).drop (a+n))):im σ' p q (gE st a (a+n) v):=by
 obtain⟨c,g,d⟩:=h.hd;have b:=Vt st a (a+n) v;refine⟨⟨c,by rw[b];exact g,?_⟩,⟨r,?_⟩,h.ne,by rw[b];exact h.n1,by rw[b];exact h.n2,by rw[b];exact h.n3⟩
 ·rw[b];exact WE ho d h.ne
 ·rw[P4 O hl,HA,HA];have e1:(ints st++r).take a=ints (st.take a):=by
   rw[pN (by rw[Kt];omega)];simp[ints]
  have e2:(ints st++r).drop (a+n)=ints (st.drop (a+n))++r:=by
   rw[List.drop_append_of_le_length (by rw[Kt];omega)];simp[ints]
  have i:ints (List.replicate (a+n-a) v)=List.replicate n (.int .i64 (v:Int)):=by
   rw[BL];simp[ints]
  rw[e1,e2]at hb;rw[i];simpa[zl]using hb
theorem im.jU (h:im U p q st){a n c:Nat}(hl:a+n<=st.length)(v:Nat){R:aP}(hR:∀σ',Ext (· = q) U σ'->im σ' p q (gE st a (a+n) v)->R σ') :
 Q2.c ⟨some ⟨q,a,none⟩,n,c⟩ v U R:=by
 obtain⟨r,b⟩:=h.row;have:=h.n2;exact Ar.jU b (by simp[Kt];omega) O v λσ' d g=>hR σ' d.ext (h.fill b hl d g)
theorem Bj (h:im U p q st){R:aO}(hR:R true U):XF.c (aW p) U R:=by
 refine XF.o ?_;unfold XF.v;refine bX.intro (cF rfl (bL (h.rS λcap _=>?_)));have:=h.n1;rw[zI aC];exact hR
theorem N1 (h:im U p q st){R:aN}(hR:R ((st.length/16:Nat):Int) U):Y7.c (aW p) U R:=by
 refine Y7.o ?_;unfold Y7.v;have:=h.n2;refine bL (h.rS λcap _=>nz aB ?_);refine cT (m:=st.length/16) ?_ O hR;rw[YR O];simp
theorem Mo (h:im U p q st){k:Nat}(hk:16*k+16<=st.length){R:Sl->Hp->Prop}(hR:∀c,R ⟨some ⟨q,16*k,none⟩,16,c⟩ U):Zm.c (aW p) (k:Int) U R:=by
 refine Zm.o ?_;unfold Zm.v;have:=h.n2;refine bL (h.rS λcap a=>?_);refine cT (m:=16*k) O O (cT (m:=k+1) O O (cT (m:=16*k+16) O O ?_));refine jA O aC aC ?_;have e:16*k+16-16*k=16:=by omega
 rw[zB aC,e];simp only[ze,add_lit,nG,zH];exact hR _
theorem Sn (h:im U p q st)(k:Int){R:Sl->Int->Hp->Prop}(h1:∀(x:Nat) c,k=(x:Int)->16*x+16<=st.length->R ⟨some ⟨q,16*x,none⟩,16,c⟩ 0 U)(h0:vP st.length k=false->R ⟨none,0,0⟩ 1 U) :
 YI.c (aW p) k U R:=by
 refine YI.o ?_;unfold YI.v;have n3:=h.n3;refine Bj h (cD rfl (bX.intro (cN (λa=>cF rfl (h0 ?_)) λa=>N1 h ?_)))
 ·simp[vP];omega
 ·refine cN (λb=>h0 ?_) λd=>?_
  ·simp[vP];omega
  ·obtain⟨x,rfl⟩:=zc (show 0<=k by omega);exact Mo h O λc=>h1 x c rfl O
theorem JS {n x:Nat}(h:16*x+16<=n):vP n (x:Int)=true:=by simp[vP];omega
theorem im.first (h:im U p q st){x c:Nat}(hx:16*x+16<=st.length){K:Int->Prop}(hK:K ((st.getD (16*x) 0:Nat):Int)) :
 Ix (some ⟨q,16*x,none⟩) 16 0 1 λa=>gM .i64 a U K:=by
 have b:=h.part (s:=⟨some ⟨q,16*x,none⟩,16,c⟩) (n:=16) rfl rfl hx;refine b.sy (i:=0) (x:=st.getD (16*x) 0) ?_ hK;simp[zm,lg,zQ];rw[cW O];simp
theorem Pd (h:im U p q st)(k:Int){R:aN}(hR:∀σ',Ext (· = q) U σ'->im σ' p q (jh st k)->R (kG st k) σ'):Yo.c (aW p) k U R:=by
 refine Yo.o ?_;unfold Yo.v;refine Sn h k (λx c g i=>?_) λg=>?_
 ·subst g;have a:=JS i;refine cD rfl (h.first (c:=c) i (cQ (λd=>?_) λd=>?_))
  ·have e1:¬st.getD (16*x) 0=0:=by simpa using d
   have:kG st (x:Int)=5:=by simp only[kG,a,dG,zT,zB e1]
   have e2:jh st (x:Int)=st:=by simp[jh,this]
   have:=hR U (Ext.refl _ _);rw[e2]at this;simpa[*]using this h
  ·have e1:st.getD (16*x) 0=0:=by simpa using d
   have b:kG st (x:Int)=0:=by simp only[kG,a,dG,zT,e1]
   have e2:jh st (x:Int)=gE st (16*x) (16*x+16) 3:=by simp[jh,b]
   refine h.jU i 3 λσ' e j=>?_;have:=hR σ' e;rw[b,e2]at this;exact this j
 ·have b:kG st k=1:=by simp[kG,g]
  have e2:jh st k=st:=by simp[jh,b]
  refine cF rfl ?_;have:=hR U (Ext.refl _ _);rw[b,e2]at this;exact this h
theorem IY {s:Sl}{xs:List Nat}(h:cV s 1 (ints xs) U F)(hl:xs.length<=1000000)(v:Nat){R:aN}(h1:∀i:Nat,xs[i]?=some v->(∀j:Nat,j<i->xs[j]?≠some v)->R (i:Int) U)(h0:v∉xs->R (-1) U) :
 W4.c s (v:Int) U R:=by
 refine W4.o ?_;unfold W4.v;have x:=h.pn;refine Qv (a:=bO) (λ(t:Int) w=>∃i:Nat,t=(i:Int)/\i<=xs.length/\w=U/\∀j,j<i->xs[j]?≠some v) (λt _=>xs.length-t.toNat) ⟨0,rfl,O,rfl,λj d=>O⟩ ?_;rintro t w ⟨i,rfl,hi,rfl,b⟩;refine cN (λz=>?_) λy=>?_
 ·have u:i<xs.length:=by omega
  have r:xs[i]?=some xs[i]:=cW u;refine h.sy r ?_;rw[mg];refine cQ (λg=>?_) λg=>?_
  ·have:v=xs[i]:=by simpa using g
   exact h1 i (by rw[r,this]) b
  ·have p:¬v=xs[i]:=by simpa using g
   refine cT (m:=i+1) O O ⟨⟨i+1,rfl,O,rfl,λj d=>?_⟩,O⟩;by_cases e:j=i
   ·subst e;rw[r];intro e2;cases e2;exact p rfl
   ·exact b j O
 ·refine h0 λA=>?_;obtain⟨j,d⟩:=zP A;have:=(cX.1 d).1;exact b j O d
theorem M9 {s:Sl}{xs:List Nat}(h:cV s 1 (ints xs) U F)(hl:xs.length<=1000000)(v:Nat){R:aO}(hR:R (xs.contains v) U):Ww.c s (v:Int) U R:=by
 refine Ww.o ?_;unfold Ww.v;refine IY h hl v (λi hi _=>?_) λa=>?_
 ·have:xs.contains v=true:=by simpa using zG hi
  rw[this]at hR;rw[zI O];exact hR
 ·have:xs.contains v=false:=by simpa using a
  rw[this]at hR;exact hR
theorem G6 {s:Sl}{xs:List Int}(h:cV s 1 (xs.map (Value.int .i64)) U F)(hl:xs.length<=1000000000)(v:Int){R:aO}(hR:R (xs.contains v) U):Ww.c s v U R:=by
 refine Ww.o ?_;unfold Ww.v;refine W4.o ?_;unfold W4.v;have x:s.len=xs.length:=by have:=h.1;simp at this;omega
 refine Qv (a:=bO) (λ(t:Int) u=>∃i:Nat,t=(i:Int)/\i<=xs.length/\u=U/\∀j,j<i->xs[j]?≠some v) (λt _=>xs.length-t.toNat) ⟨0,rfl,O,rfl,λj d=>O⟩ ?_;rintro t u ⟨i,rfl,hi,rfl,b⟩;refine cN (λz=>?_) λy=>?_
 ·have r:i<xs.length:=by omega
  have w:xs[i]?=some xs[i]:=cW r;refine h.lQ w (cQ (λg=>?_) λg=>?_)
  ·have e:v=xs[i]:=by simpa using g
   have:xs.contains v=true:=by rw[e];simp
   rw[this]at hR;show R (decide ((i:Int)≥0)) _;rw[zI O];exact hR
  ·have p:¬v=xs[i]:=by simpa using g
   refine cT (m:=i+1) O O ⟨⟨i+1,rfl,O,rfl,λj d=>?_⟩,O⟩;by_cases e:j=i
   ·subst e;rw[w];intro e2;cases e2;exact p rfl
   ·exact b j O
 ·have:xs.contains v=false:=by
   simp only[tx,decide_eq_false_iff_not];intro hm;obtain⟨j,d⟩:=zP hm;have:=(cX.1 d).1;exact b j O d
  rw[this]at hR;exact hR
def Jg (f:Fv)(p:Nat->Bool)(U:Hp):Prop:=∀(x:Nat) (σ':Hp) (R:aO),aF U σ'->(∀σ'',aF σ' σ''->R (p x) σ'')->VU Tryz.prog f [.int .i64 (x:Int)] [.one .b] σ' R
theorem LK {s:Sl}{xs:List Nat}(h:cV s 1 (ints xs) U F)(hl:xs.length<=1000000){f:Fv}{pr:Nat->Bool}(hf:Jg f pr U){R:aO}(hR:∀σ',aF U σ'->R (xs.any pr) σ') :
 WP.c s f U R:=by
 refine WP.o ?_;unfold WP.v;refine Xg.o ?_;unfold Xg.v;have w:=h.pn;refine Qv (a:=bO) (λ(t:Int) u=>∃i:Nat,t=(i:Int)/\i<=xs.length/\aF U u/\∀j x,j<i->xs[j]?=some x->pr x=false) (λt _=>xs.length-t.toNat) ⟨0,rfl,O,Ext.refl _ _,λj x p=>O⟩ ?_;rintro t u ⟨i,rfl,hi,e,d⟩;refine cN (λz=>?_) λy=>?_
 ·have g:i<xs.length:=by omega
  have r:xs[i]?=some xs[i]:=cW g;refine(aH.bP h e).sy r (hf _ _ _ e λA e2=>?_);cases hp:pr xs[i]
  ·refine cD rfl (cT (m:=i+1) O O ⟨⟨i+1,rfl,O,e.trans e2,λj x p b=>?_⟩,O⟩);by_cases e3:j=i
   ·subst e3;rw[r]at b;cases b;exact hp
   ·exact d j x O b
  ·refine cF rfl ?_;have:xs.any pr=true:=jV.2 ⟨_,zt g,hp⟩;show R (decide ((i:Int)≥0)) _;rw[zI O,←this];exact hR _ (e.trans e2)
 ·have:xs.any pr=false:=by
   rw[mC];intro x r;obtain⟨j,p⟩:=zP r;have:=(cX.1 p).1;simp[d j x O p]
  show R (decide ((-1:Int)≥0)) _;rw[show decide ((-1:Int)≥0)=false from rfl,←this];exact hR _ e
theorem TN {c:Nat}{s:Sl}{fr:List Nat}{σ0:Hp}(hb:bZ σ0 c [.slice s.a s.len s.cap])(hs:cV s 1 (ints fr) σ0 F)(hl:fr.length<=1000):Jg ⟨305,#[],#[.pointer (some ⟨c,0,none⟩)]⟩ (λx=>!fr.contains x) σ0:=by
 intro x σ' R e hR;refine G8 (all := #[.int .i64 (x:Int),.pointer (some ⟨c,0,none⟩)]) (by kernel_rfl) aA ?_;refine YN.o ?_;unfold YN.v;refine(e.bV hb id).wc rfl ?_;exact M9 (aH.bP hs e) O x (hR _ (Ext.refl _ _))
theorem FY (h:im U p q st)(a m:Int)(v:Nat){s:Sl}{fr:List Nat}(hs:cV s 1 (ints fr) U F)(hl:fr.length<=1000){R:aN}(hR:∀σ',Ext (· = q) U σ'->im σ' p q (UP st a m v fr)->R (oZ st a m fr) σ') :
 XX.c (aW p) a m v s U R:=by
 refine XX.o ?_;unfold XX.v;have n2:=h.n2;have P:=h.lt.2;refine nw (cs:=[.slice s.a s.len s.cap]) λv1 Q j J=>?_;have g:=h.bP j;have d:¬(0<=a/\1<=m/\m<=st.length-a)->R 1 v1:=λH=>by
  have b:Zz st.length a m=false:=by simp only[Zz,←wz];exact zM H
  have e1:oZ st a m fr=1:=by simp[oZ,b]
  have e2:UP st a m v fr=st:=by simp[UP,e1]
  have:=hR v1 j.to;rw[e1,e2]at this;exact this g
 refine Bj g (cD rfl (bX.intro ?_));refine cN (λD=>bX.intro (cF rfl (bX.intro (cF rfl (cF rfl (d O)))))) λD=>?_;refine bX.intro (cN (λN=>bX.intro (cF rfl (cF rfl (d O)))) λN=>?_);refine bL (g.rS λcap A=>bX.intro (cN (λw=>cF rfl (d (by simp only at *;omega))) λw=>?_));simp only at w;refine bL (g.rS λcap A=>ar aC aC (cN (λC=>d (by simp only at *;omega)) λC=>?_));simp only at C;obtain⟨x,rfl⟩:=zc (show 0<=a by omega);obtain⟨y,rfl⟩:=zc (show 0<=m by omega);have i:x+y<=st.length:=by omega
 have b:Zz st.length (x:Int) (y:Int)=true:=by simp only[Zz,zF,zV];omega
 refine bL (g.rS λcap A=>cT (m:=x+y) O O (jA O aC aC ?_));rw[zB aC];simp only[ze,add_lit,nG,zH];have G:x+y-x=y:=by omega
 rw[G];have L:=g.part (s:=⟨some ⟨q,x,none⟩,y,cap-x⟩) (n:=y) rfl rfl i;refine LK L aE (TN (s:=s) J (aH.bP hs j) hl) λE e2=>?_;have B:=g.bP e2;have r:((st.drop x).take y).any (λz=>!fr.contains z) = !vq st x y fr:=by
  rw[vq,List.all_eq_not_any_not,Bool.not_not]
 rw[r];cases hA:vq st x y fr
 ·have e1:oZ st (x:Int) (y:Int) fr=5:=by simp[oZ,b,hA]
  have u:UP st (x:Int) (y:Int) v fr=st:=by simp[UP,e1]
  have:=hR E (j.to.trans e2.to);rw[e1,u]at this;exact cF rfl (this B)
 ·have e1:oZ st (x:Int) (y:Int) fr=0:=by simp[oZ,b,hA]
  have u:UP st (x:Int) (y:Int) v fr=gE st x (x+y) v:=by simp[UP,e1]
  refine cD rfl (B.jU i v λv3 M K=>?_);have:=hR v3 (j.to.trans (e2.to.trans M));rw[e1,u]at this;exact this K
theorem Be {h:Hp}{b:Nat}{xs:List Nat}{n c:Nat}(hb:bZ h b (ints xs))(hn:n=xs.length):cV ⟨some ⟨b,0,none⟩,n,c⟩ 1 (ints xs) h (· = b):=
 hb.fW (o:=0) rfl (by rw[Kt];simp[hn]) λj _=>by rw[zH]
theorem WnI (h:im U p q st)(a m:Int){R:aN}(hR:∀σ',Ext (· = q) U σ'->im σ' p q (UP st a m 1 [2,3])->R (oZ st a m [2,3]) σ'):XU.c (aW p) a m U R:=by
 refine XU.o ?_;unfold XU.v;refine nw (cs:=ints [2,3]) λv i e g=>?_;exact FY (h.bP e) a m 1 (Be g rfl) aA λσ' d b=>hR σ' (e.to.trans d) b
theorem τ (h:im U p q st)(a m:Int){R:aN}(hR:∀σ',Ext (· = q) U σ'->im σ' p q (UP st a m 2 [1])->R (oZ st a m [1]) σ'):XM.c (aW p) a m U R:=by
 refine XM.o ?_;unfold XM.v;refine nw (cs:=ints [1]) λv i e g=>?_;exact FY (h.bP e) a m 2 (Be g rfl) aA λσ' d b=>hR σ' (e.to.trans d) b
def y5 (st:List Nat)(x:Int):Int:=if 0<=x/\x<st.length then((st.getD x.toNat 0:Nat):Int)else -1
theorem ς (h:im U p q st)(x:Int){R:aN}(hR:R (y5 st x) U):Yd.c (aW p) x U R:=by
 refine Yd.o ?_;unfold Yd.v;have n2:=h.n2;unfold y5 at hR;refine Bj h (bX.intro (cD rfl (bX.intro (cN (λi=>cF rfl ?_) λi=>bL (h.rS λcap j=>cN (λb=>?_) λb=>?_)))))
 ·rw[zB O]at hR;exact hR
 ·simp only at b;rw[zB O]at hR;exact hR
 ·simp only at b;rw[zC O]at hR;obtain⟨y,rfl⟩:=zc (show 0<=x by omega);refine bL (h.rS λcap j=>?_);have g:=h.part (s:=⟨some ⟨q,0,none⟩,st.length,cap⟩) (a:=0) (n:=st.length) rfl rfl O;rw[yT,lL]at g;have d:y<st.length:=by omega
  refine g.sy (cW d) ?_;simpa[zQ,cW d]using hR
theorem Gh {s:Sl}{vs:List Value}(h:cV s 1 vs U F)(h1:∀v∈vs,dS v=true)(hl:s.len<=1000000){R:Sl->Hp->Prop}
 (hR:∀s' σ',s'.len=s.len->aF U σ'->bT s' 1 vs σ' (λb=>U.size<=b)->R s' σ'):W3.c s U R:=by
 refine W3.o ?_;unfold W3.v;exact Bi h aB rfl h1 aB hl hR
theorem SE {n:Nat}(h1:16<=n)(h2:n<=1024)(h3:n%16=0){R:Option Addr->Int->Hp->Prop}(hR:∀σ' p q,aF U σ'->U.size<=p->U.size<=q->im σ' p q (List.replicate n 0)->R (some ⟨p,0,none⟩) 0 σ'):Vm.c (n:Int) U R:=by
 refine Vm.o ?_;unfold Vm.v;refine bX.intro (gA O (bX.intro (gA O (nz aB ?_))));rw[Kj O];have:(((n:Int)%16) != 0)=false:=by
  have:((n:Int)%16)=0:=by omega
  rw[this];rfl
 rw[this];refine cD rfl (mk O O λv j e b=>nw (cs:=[.slice (some ⟨U.size,0,none⟩) n n]) λi d e2 a=>?_);have g:(List.replicate n [Value.int .i64 0]).flatten=ints (List.replicate n 0):=by
  have:[Value.int .i64 0]=ints [0]:=rfl;rw[this];clear b hR
  induction n with
  | zero=>rfl
  | succ n ih=>simp[tD,ints]
 rw[g]at b;refine hR _ _ _ (e.trans e2) O (zE _) ⟨⟨n,by simp,by simpa using a⟩,⟨[],by simpa using e2.bV b id⟩,O,by simpa using h1,by simpa using h2,by simpa using h3⟩
end Go.Ar
namespace Go.Proofs
open Go.Vc
set_option maxRecDepth 100000
def Z3.h:Hn:=.q .o1 (.q (.q .o3 .aJ) (.q (.cU (.tail 10 (RI.ops 10) [.op])) .l))
def Z3.v (a:R2)(b:Hp)(c:Int->Int->Hp->Prop):Prop:=aV #[.I 0,.I 0] 268 b λd e=>YF.c a e λf g=>If (!f) (aR d 0 (.I 0) g λh=>aR d 1 (.I 0) h λi=>aQ d 0 i λj=>aQ d 1 i λk=>c j k i) (bE a 0 g λm=>bW a λn=>bN ((n.add 1).add 1) g λo=>aR d 0 (.I m) g λp=>aR d 1 (.I o) p λq=>aQ d 0 q λr=>aQ d 1 q λs=>c r s q)
theorem Z3.o {a b c}(d:Z3.v a b c):Z3.c a b c:=Wa Tryz.func198 (x:=Z3.h) (R0 d)
def YD.h:Hn:=.q .o1 (.q (.q .o3 .aK) (.q .o6 .l))
def YD.v (a:R2)(b:Hp)(c:aN):Prop:=YF.c a b λd e=>If (!d) (c 0 e) (bF a 4 e λg=>c ((g.len:Nat):Int) e)
theorem YD.o {a b c}(d:YD.v a b c):YD.c a b c:=Wa Tryz.func201 (x:=YD.h) (R0 d)
def YF.h:Hn:=.q .o1 (.q (.cU (.seq [.op,.op,.op,.cY true 6 (RI.ops 6),.op])) .l)
def YF.v (a:R2)(b:Hp)(c:aO):Prop:=bX (λd e=>c d e) λf=>If (!a.isNone) (bF a 4 b λh=>f (decide (((h.len:Nat):Int)>0)) b) (f false b)
theorem YF.o {a b c}(d:YF.v a b c):YF.c a b c:=Wa Tryz.func268 (x:=YF.h) (R0 d)
def Vk.h:Hn:=.q .o3 (.q .o7 (.q (.q (.cU (.seq [.op,.op,.op,.cY false 2 [.op,.op],.op,.cY false 5 (RI.ops 5)])) .aJ) (.q (.cU (.held true [] (.tk [0,1,2] (.all [(3,.take 4 (.all [(5,.take 6 (.take 7 (.done)))]))])))) .l)))
def Vk.v (a b c d:Int)(e:Hp)(f:Option Addr->Int->Hp->Prop):Prop:=aV #[.I b,.I c,.I d] 149 e λg h=>aQ g 0 h λi=>aQ g 1 h λj=>aQ g 2 h λk=>ZS.c i j k h λl m n=>bX (λo p=>bX (λq r=>If q (f none 1 r) (dY r λs=>aS s g 0 λt=>aS s g 1 λu=>aS s g 2 λv=>Mk l l 8 3 [.I 0] r λw x=>And (s x) <| aV #[.I a,.I t,.I u,.I v,.slice w.a w.len w.cap,.I 0] 339 x λy z=>And (s z) <| f (some y) 0 z)) λaa=>If o (aa true p) (aQ g 1 p λab=>bM (1024-ab) λac=>aa (decide (a>ac)) p)) λad=>If (m != 0) (ad true n) (ad (decide (a<0)) n)
theorem Vk.o {a b c d e f}(g:Vk.v a b c d e f):Vk.c a b c d e f:=Wa Tryz.func290 (x:=Vk.h) (R0 g)
def ZR.h:Hn:=.q .o1 (.q .o8 (.q (.k (.q .o3 (.c .aL (.q .o9 .aK)))) (.q .o4 .aM)))
def ZR.v (a:R2)(b:Int)(c:Hp)(d:aN):Prop:=Yn.c a b c λe f g=>If (f != 0) (d f g) (bF a 4 g λi=>Ix i.a i.len e 1 λj=>bN j g λk=>If (k==0) (d 9 g) (aV #[.I e] 3 g λl m=>Zw.c a 0 ⟨some l,1,1⟩ m λn=>d 0 n))
theorem ZR.o {a b c d}(e:ZR.v a b c d):ZR.c a b c d:=Wa Tryz.func311 (x:=ZR.h) (R0 e)
def ZQ.h:Hn:=.q .o2 (.q (.q .o3 .aJ) (.q .o6 (.q (.q .o2 .aJ) (.q .o4 (.q .o5 .l)))))
def ZQ.v (a:R2)(b:Hp)(c:Int->Int->Hp->Prop):Prop:=YF.c a b λd e=>If (!d) (c 0 5 e) (bF a 4 e λg=>W4.c g 0 e λh i=>If (h<0) (c 0 6 i) (aV #[.I h] 3 i λj k=>Zw.c a 1 ⟨some j,1,1⟩ k λl=>YC.c a h l λm n=>c m 0 n))
theorem ZQ.o {a b c}(d:ZQ.v a b c):ZQ.c a b c:=Wa Tryz.func316 (x:=ZQ.h) (R0 d)
def Yr.h:Hn:=.q .o2 (.q (.q .o3 .aJ) (.q .o5 (.q (.q (.cU (.gI false [] [(32,.one .b)] (.take 0 (.take 1 (.all [(2,.take 3 (.take 4 (.split 18 (.take 5 (.take 6 (.take 7 (.take 8 (.take 9 (.take 10 (.take 11 (.take 12 (.take 13 (.take 14 (.take 15 (.take 16 (.take 17 (.take 18 (.done))))))))))))))) (.take 5 (.take 6 (.take 7 (.take 8 (.take 11 (.take 12 (.take 13 (.take 14 (.all [(9,.take 10 (.all [(15,.take 16 (.take 17 (.take 18 (.done))))])),(15,.all [(9,.take 10 (.take 16 (.take 17 (.take 18 (.done)))))])]))))))))))))]))))) .aJ) (.q .o9 .l))))
def Yr.v (a:R2)(b:Int)(c:Hp)(d:Int->Int->Hp->Prop):Prop:=YF.c a c λe f=>If (!e) (d 0 5 f) (YC.c a 0 f λg h=>bM (b-g) λi=>Jn [.b] (λ(j:Bool) k=>If j (d 0 8 k) (bW a λl=>bN ((l.add 1).add 0) k λm=>Nz m<|bM (i.tdiv m) λn=>d n 0 k)) λo=>YC.c a 0 h λp q=>If (b<p) (o true q) (bW a λr=>bW a λs=>(aX r 4 q λt=>bN ((s.add 1).add 0) q λu=>bM (((t.len:Nat):Int)*u) λv=>o (decide (i≥v)) q) ∧ (bN ((s.add 1).add 0) q λw=>aX r 4 q λx=>bM (((x.len:Nat):Int)*w) λy=>o (decide (i≥y)) q)))
theorem Yr.o {a b c d}(e:Yr.v a b c d):Yr.c a b c d:=Wa Tryz.func322 (x:=Yr.h) (R0 e)
def YL.h:Hn:=.q .o2 (.q .o8 (.q (.q .o2 (.c (.q .o3 .l) .l)) (.q .fX .l)))
def YL.v (a:R2)(b:Int)(c:Hp)(d:Bool->Int->Hp->Prop):Prop:=Yn.c a b c λe f g=>If (f != 0) (d false f g) (bF a 4 g λi=>Ix i.a i.len e 1 λj=>bN j g λk=>d (k==1) 0 g)
theorem YL.o {a b c d}(e:YL.v a b c d):YL.c a b c d:=Wa Tryz.func324 (x:=YL.h) (R0 e)
def Yn.h:Hn:=.q .o2 (.q .o8 (.q (.q (.cU (.seq [.op,.op,.op,.cY true 5 (RI.ops 5)])) .aJ) (.q .o4 .l)))
def Yn.v (a:R2)(b:Int)(c:Hp)(d:Int->Int->Hp->Prop):Prop:=Yr.c a b c λe f g=>bX (λh i=>If h (d 0 8 i) (d e f i)) λj=>If (f==0) (YC.c a e g λk l=>j (k != b) l) (j false g)
theorem Yn.o {a b c d}(e:Yn.v a b c d):Yn.c a b c d:=Wa Tryz.func335 (x:=Yn.h) (R0 e)
def Zw.h:Hn:=.q .o3 (.k (.loop [(10,.I)] (.q .o1 (.q (.c .l .l) (.q (.k (.q .o3 (.q (.cU (.tail 16 (RI.ops 16) [.op])) .o8))) .o2)))))
def Zw.v (a:R2)(b:Int)(c:Sl)(d:Hp)(e:aP):Prop:=X6 [bO] (λf=>f 0 d) λg (h:Int) i=>If (h<((c.len:Nat):Int)) (Ix c.a c.len h 1 λj=>bN j i λk=>bE a 5 i λm=>bF a 4 i λo=>Ix o.a o.len k 1 λp=>bN p i λq=>bM (b-q) λr=>bM (m+r) λs=>bW a λt=>aR t 5 (.I s) i λu=>bF a 4 u λw=>Ix w.a w.len k 1 λx=>dX x (.I b) u λy=>bM (h+1) λz=>g z y) (e i)
theorem Zw.o {a b c d e}(f:Zw.v a b c d e):Zw.c a b c d e:=Wa Tryz.func336 (x:=Zw.h) (R0 f)
def YC.h:Hn:=.q .o1 (.q (.oq 14) .l)
def YC.v (a:R2)(b:Int)(c:Hp)(d:aN):Prop:=bE a 0 c λf=>bM (f*256) λg=>bW a λh=>bN ((h.add 1).add 0) c λi=>bM (b*i) λj=>bM (g+j) λk=>d k c
theorem YC.o {a b c d}(e:YC.v a b c d):YC.c a b c d:=Wa Tryz.func339 (x:=YC.h) (R0 e)
end Go.Proofs
namespace Go.Ar
open Go Go.Vc Go.Proofs
variable {U:Hp}{F:Rg}{p q:Nat}{c:cA}{s:cH}
def nJ (tk:List Bool):List Nat:=tk.map λb=>if b then 1 else 0
theorem xZ (tk:List Bool):(nJ tk).length=tk.length:=by simp[nJ]
theorem GU {tk:List Bool}{i:Nat}{b:Bool}(h:tk[i]?=some b):(nJ tk)[i]?=some (if b then 1 else 0):=by simp[nJ,h]
theorem T4 (tk:List Bool)(i:Nat)(b:Bool):nJ (tk.set i b)=(nJ tk).set i (if b then 1 else 0):=by simp[nJ,vW]
structure il (U:Hp) (p q:Nat) (c:cA) (s:cH):Prop where
 hd:∃cap,c.n<=cap/\bZ U p [.int .i64 (s.st:Int),.int .i64 (c.size:Int),.int .i64 (c.aG:Int),.int .i64 (c.batch:Int),.slice (some ⟨q,0,none⟩) c.n cap,.int .i64 (s.many:Int)]
 row:∃rest,bZ U q (ints (nJ s.tk)++rest)
 ne:p≠q
 len:s.tk.length=c.n
 ok:c.ok
 fit:s.st+c.aG<=1024
theorem il.bS {σ':Hp}(h:il U p q c s)(e:Ext F U σ')(hp:¬F p)(hq:¬F q):il σ' p q c s:=
 ⟨by obtain⟨c,a,b⟩:=h.hd;exact⟨c,a,e.bV b hp⟩,by obtain⟨r,a⟩:=h.row;exact⟨r,e.bV a hq⟩,h.ne,h.len,h.ok,h.fit⟩
theorem il.bP {σ':Hp}(h:il U p q c s)(e:aF U σ'):il σ' p q c s:=h.bS e id id
theorem il.lt (h:il U p q c s):p<U.size/\q<U.size:=by
 obtain⟨_,_,a⟩:=h.hd;obtain⟨_,b⟩:=h.row;exact⟨a.lt,b.lt⟩
theorem il.rS (h:il U p q c s){K:Sl->Prop}(hK:∀cap,c.n<=cap->K ⟨some ⟨q,0,none⟩,c.n,cap⟩):jG (Addr.add ⟨p,0,none⟩ 4) U K:=by
 obtain⟨b,a,d⟩:=h.hd;exact d.rS rfl (hK b a)
theorem il.rI (h:il U p q c s){i:Nat}{x:Int}(hx:∀a b:Value,([.int .i64 (s.st:Int),.int .i64 (c.size:Int),.int .i64 (c.aG:Int),.int .i64 (c.batch:Int),a,.int .i64 (s.many:Int)]:List Value)[0+i]?=some (.int .i64 x)){K:Int->Prop}(hK:K x):gM .i64 (Addr.add ⟨p,0,none⟩ i) U K:=by
 obtain⟨j,g,d⟩:=h.hd;exact d.rI (hx _ .nilFunc) hK
theorem il.fL (h:il U p q c s){i j:Nat}{x:Int}(hx:∀a b:Value,([.int .i64 (s.st:Int),.int .i64 (c.size:Int),.int .i64 (c.aG:Int),.int .i64 (c.batch:Int),a,.int .i64 (s.many:Int)]:List Value)[0+i+j]?=some (.int .i64 x)){K:Int->Prop}(hK:K x):gM .i64 (Addr.add (Addr.add ⟨p,0,none⟩ i) j) U K:=by
 obtain⟨m,g,d⟩:=h.hd;exact d.fL (hx _ .nilFunc) hK
theorem il.lr (h:il U p q c s)(cap:Nat):cV ⟨some ⟨q,0,none⟩,c.n,cap⟩ 1 (ints (nJ s.tk)) U (· = q):=by
 obtain⟨r,a⟩:=h.row;refine a.fW (o:=0) rfl (by rw[Kt,xZ,h.len];simp) λj b=>?_;rw[zH,zd b]
theorem yQ (h:il U p q c s){R:aO}(hR:R true U):YF.c (aW p) U R:=by
 refine YF.o ?_;unfold YF.v;refine bX.intro (cF rfl (bL (h.rS λcap _=>?_)));have:=h.ok.sU;rw[zI aC];exact hR
theorem TG (h:il U p q c s){R:aN}(hR:R (c.n:Int) U):YD.c (aW p) U R:=by
 refine YD.o ?_;unfold YD.v;exact yQ h (cD rfl (bL (h.rS λcap _=>hR)))
theorem A9 (h:il U p q c s)(i:Nat)(hi:i<=1000){R:aN}(hR:R ((at_ c s i:Nat):Int) U):YC.c (aW p) (i:Int) U R:=by
 refine YC.o ?_;unfold YC.v;have a:=h.ok;unfold cA.ok at a;have:=h.fit;have b:i*c.size<=1000*512:=mD hi O;refine bL (h.rI (λ_ _=>rfl) (cT (m:=s.st*256) aA O (bL (h.fL (λ_ _=>rfl) ?_))));exact cT (m:=i*c.size) aA O (cT (m:=at_ c s i) (by simp[at_]) (by unfold at_;omega) hR)
theorem Ec (h:il U p q c s)(x:Int)(hx2:x<=9223372036854775807){R:Int->Int->Hp->Prop}(h1:∀i,idx c s x=some i->R (i:Int) 0 U)(h0:idx c s x=none->R 0 8 U):Yr.c (aW p) x U R:=by
 refine Yr.o ?_;unfold Yr.v;have B:=h.ok;unfold cA.ok at B;have C:=h.ok.kN;have u:=h.fit;have a:=h.len;have F:c.n*c.size<=128*512:=mD C O;refine yQ h (cD rfl (A9 h 0 O ?_));have w:at_ c s 0=s.st*256:=by simp[at_]
 rw[w];refine vz ?_;refine Jn.intro (A9 h 0 O ?_);rw[w];refine cN (λA=>cF rfl (h0 ?_)) λD=>?_
 ·unfold idx;rw[zC O]
 ·rw[Un O O];obtain⟨y,E⟩:=zc (show 0<=x by omega);have key:If (decide (x-((s.st*256:Nat):Int)≥((c.n*c.size:Nat):Int))) (R 0 8 U)
   (bW (some ⟨p,0,none⟩) λg=>gM .i64 ((g.add 1).add 0) U λb=>Nz b<|Ar .i64 ((x-((s.st*256:Nat):Int)).tdiv b) λj=>R j 0 U):=by
   refine cN (λz=>h0 ?_) λr=>bL (h.fL (λ_ _=>rfl) (nz O ?_))
   ·unfold idx;rw[a,zC O]
   ·have:idx c s x=some ((x-((s.st*256:Nat):Int)).toNat/c.size):=by unfold idx;rw[a,zB O]
    refine cT (m:=(x-((s.st*256:Nat):Int)).toNat/c.size) ?_ ?_ (h1 _ this)
    ·rw[YR O];have:x-((s.st*256:Nat):Int)=(((x-((s.st*256:Nat):Int)).toNat:Nat):Int):=by omega
     rw[this];simp
    ·have:=Nat.div_le_self (x-((s.st*256:Nat):Int)).toNat c.size;omega
  refine bL (bL ⟨h.rS λcap d=>h.fL (λ_ _=>rfl) (cT (m:=c.n*c.size) aA O key),h.fL (λ_ _=>rfl) (h.rS λcap d=>cT (m:=c.n*c.size) aA O key)⟩)
theorem LG (h:il U p q c s)(x:Int)(hx2:x<=9223372036854775807){R:Int->Int->Hp->Prop}(h1:∀i,obj c s x=some i->i<c.n->R (i:Int) 0 U)(h0:obj c s x=none->R 0 8 U):Yn.c (aW p) x U R:=by
 refine Yn.o ?_;unfold Yn.v;have d:=h.ok;unfold cA.ok at d;have g:=h.ok.kN;refine Ec h x hx2 (λi hi=>bX.intro (cF rfl ?_)) λhi=>bX.intro (cD rfl (cD rfl (h0 (by unfold obj;rw[hi]))));have a:=((Ux O).1 hi).2.2;rw[h.len]at a;refine A9 h i O (cQ (λb=>h0 ?_) λb=>h1 i ?_ a)
 ·have:¬x=((at_ c s i:Nat):Int):=λe=>by rw[e]at b;simp at b
  unfold obj;rw[hi];simp[this]
 ·have:x=((at_ c s i:Nat):Int):=by
   have:((at_ c s i:Nat):Int)=x:=by simpa using b
   exact this.symm
  unfold obj;rw[hi];simp[this]
def cH.is (s:cH)(i:Nat):Bool:=s.tk.getD i false
theorem cH.lu {s:cH}{i:Nat}(hi:i<s.tk.length):s.tk[i]?=some (s.is i):=by
 simp[cH.is,zQ,cW hi]
theorem Wfi (h:il U p q c s)(x:Int)(hx2:x<=9223372036854775807){R:Bool->Int->Hp->Prop}(h1:∀i,obj c s x=some i->R (s.is i) 0 U)(h0:obj c s x=none->R false 8 U):YL.c (aW p) x U R:=by
 refine YL.o ?_;unfold YL.v;refine LG h x hx2 (λi hi a=>cD rfl (bL (h.rS λcap b=>?_))) λhi=>cF rfl (h0 hi);rw[←h.len]at a;refine(h.lr cap).sy (GU (cH.lu a)) ?_;have:=h1 i hi;cases hb:s.is i<;>rw[hb]at this<;>simpa using this
theorem Au {s:cH}{i:Nat}(hi:i<s.tk.length)(v:Bool):((s.put i v).many:Int)=s.many+((if v then 1 else 0)-(if s.is i then 1 else 0)):=by
 have key:∀(l:List Bool) (i:Nat) (b:Bool),l[i]?=some b->(((l.set i v).count true:Nat):Int)=(l.count true:Nat)+((if v then 1 else 0)-(if b then 1 else 0)):=by
  intro l
  induction l with
  | nil=>intro i b h;simp at h
  | cons x l ih=>
   intro i b h;cases i with
   | zero=>
    simp at h;subst h;cases v<;>cases x<;>simp[List.count_cons]<;>omega
   | succ i=>
    have:=ih i b (by simpa using h);simp only[sX,List.count_cons]
    push_cast
    omega
 exact key s.tk i _ (cH.lu hi)
theorem Ee (s:cH):s.many<=s.tk.length:=List.count_le_length
theorem IE (h:il U p q c s){i:Nat}(hi:i<c.n)(v:Bool){sl:Sl}{G:Rg}(hs:cV sl 1 (ints [i]) U G){R:aP}(hR:∀σ',Ext (λb=>b=p\/b=q) U σ'->il σ' p q c (s.put i v)->R σ') :
 Zw.c (aW p) (if v then 1 else 0) sl U R:=by
 refine Zw.o ?_;unfold Zw.v;have J:sl.len=1:=hs.pn;have P:=h.ok.kN;have H:=h.len;have Q:=Ee s;have u:i<s.tk.length:=by omega
 have d:=Au u v;refine Qv (a:=bO) (λ(t:Int) C=>t=0/\C=U\/t=1/\Ext (λb=>b=p\/b=q) U C/\il C p q c (s.put i v)) (λt _=>1-t.toNat) (.inl ⟨rfl,rfl⟩) ?_;rintro t C (⟨rfl,rfl⟩|⟨rfl,e,N⟩)
 ·refine l9 O ?_;refine hs.sy (i:=0) (x:=i) rfl (bL (h.rI (λ_ _=>rfl) (bL (h.rS λcap E=>?_))));refine(h.lr cap).sy (GU (cH.lu u)) ?_;have L:(0:Int)<=(if v then 1 else 0)/\(if v then(1:Int)else 0)<=1:=by cases v<;>simp
  have M:(0:Int)<=((if s.is i then 1 else 0:Nat):Int)/\((if s.is i then 1 else 0:Nat):Int)<=1:=by cases s.is i<;>simp
  have j:((if s.is i then 1 else 0:Nat):Int)=(if s.is i then 1 else 0):=by cases s.is i<;>rfl
  refine ar O O (ar O O (bL ?_));obtain⟨K,D,hd⟩:=h.hd;obtain⟨r,A⟩:=h.row;refine hd.s1 aA λV y B=>?_;have g:=WE y A (Ne.symm h.ne);refine bL (B.rS rfl (ix O aC ?_));rw[add_lit];refine g.s0 (by simp[Kt,xZ];omega) λS z w=>?_;refine cT (m:=1) O O ⟨.inr ⟨rfl,?_,?_⟩,by decide⟩
  ·exact(Ext.eU (F:=λb=>b=p\/b=q) y (.inl rfl)).trans (Ext.eU z (.inr rfl))
  ·refine⟨⟨K,D,?_⟩,⟨r,?_⟩,h.ne,by simp[cH.put,h.len],h.ok,h.fit⟩
   ·have:=WE z B h.ne;rw[d,←j];exact this
   ·have e:(ints (nJ s.tk)++r).set (0+(i:Int).toNat*1) (.int .i64 (if v then 1 else 0))=ints (nJ (s.put i v).tk)++r:=by
     rw[List.set_append_left _ _ (by simp[Kt,xZ];omega)]
     congr 1
     simp only[cH.put,T4,ints,vW];have:(0+(i:Int).toNat*1)=i:=by omega
     rw[this]
     congr 1
     cases v<;>rfl
    rw[e]at w;exact w
 ·exact gA O (hR _ e N)
theorem Ni (h:il U p q c s){x:Int}{i:Nat}(hx2:x<=9223372036854775807)(ho:obj c s x=some i)(ht:s.is i=true){R:aN}(hR:∀σ',Ext (λb=>b=p\/b=q) U σ'->il σ' p q c (s.put i false)->R 0 σ') :
 ZR.c (aW p) x U R:=by
 refine ZR.o ?_;unfold ZR.v;refine LG h x hx2 (λj m d=>cD rfl (bL (h.rS λcap r=>?_))) λg=>by rw[ho]at g;cases g
 rw[ho]at m;cases m;have a:i<s.tk.length:=by rw[h.len];exact d
 refine(h.lr cap).sy (GU (cH.lu a)) ?_;rw[ht];refine cD rfl (nw (cs:=ints [i]) λv A e u=>?_);have z:=h.lt;exact IE (h.bP e) d false (Be u rfl) λσ' w y=>hR σ' (e.to.trans w) y
theorem Nh (h:il U p q c s){i:Nat}(hlow:low s=some i){R:Int->Int->Hp->Prop}(hR:∀σ',Ext (λb=>b=p\/b=q) U σ'->il σ' p q c (s.put i true)->R ((at_ c s i:Nat):Int) 0 σ') :
 ZQ.c (aW p) U R:=by
 refine ZQ.o ?_;unfold ZQ.v;have D:=h.ok.kN;have a:=n4.1 hlow;obtain⟨hi,z,B⟩:=a;have g:s.tk[i]=false:=by simpa using z
 refine yQ h (cD rfl (bL (h.rS λcap y=>?_)));refine IY (h.lr cap) (by simp[xZ,h.len];omega) 0 (λj m d=>?_) λd=>?_
 ·have u:j<s.tk.length:=by
   have:=(cX.1 m).1
   rwa [xZ]at this
  have w:j=i:=by
   rcases qB j i with h1|h1|h1
   ·have:=B j h1;rw[GU (cW u)]at m;have:s.tk[j]=true:=by simpa using this
    simp[this]at m
   ·exact h1
   ·exact absurd (by rw[GU (cW hi),g];rfl) (d i h1)
  subst w;rw[h.len]at hi;refine gA O (nw (cs:=ints [j]) λv C e r=>?_);refine IE (h.bP e) hi true (Be r rfl) λσ' A x=>A9 x j O (hR σ' (e.to.trans A) x)
 ·exfalso;apply d;exact zG (i:=i) (by rw[GU (cW hi),g];rfl)
theorem LR (h:il U p q c s){R:Int->Int->Hp->Prop}(hR:∀σ',aF U σ'->R (s.st:Int) (c.aG:Int) σ'):Z3.c (aW p) U R:=by
 refine Z3.o ?_;unfold Z3.v;refine nw (cs:=[.int .i64 0,.int .i64 0]) λv u e m=>?_;have g:=h.bP e;refine yQ g (cD rfl (bL (g.rI (λ_ _=>rfl) (bL (g.fL (λ_ _=>rfl) ?_)))));refine m.s1 aA λr b d=>d.s1 aA λv3 j a=>?_;refine a.rI rfl (a.rI rfl (hR _ ?_));exact Ext.fresh (Ext.fresh e (Ext.eU (F:=(· = U.size)) b rfl) λi hi=>O) (Ext.eU (F:=(· = U.size)) j rfl) λi hi=>by omega
theorem Ml (n:Nat):(List.replicate n [Value.int .i64 0]).flatten=ints (List.replicate n 0):=by
 induction n with
 | zero=>rfl
 | succ n ih=>simp only[tD,vv,ih];rfl
theorem LS (hc:c.ok){st:Nat}(hf:st+c.aG<=1024){R:Option Addr->Int->Hp->Prop}(hR:∀σ' p q,aF U σ'->U.size<=p->U.size<=q->il σ' p q c ⟨st,List.replicate c.n false⟩->R (some ⟨p,0,none⟩) 0 σ') :
 Vk.c (st:Int) c.size c.aG c.batch U R:=by
 refine Vk.o ?_;unfold Vk.v;have F:=hc;unfold cA.ok at F;have M:=hc.kN;refine nw (cs:=[.int .i64 c.size,.int .i64 c.aG,.int .i64 c.batch]) λv L e y=>?_;refine y.rI rfl (y.rI rfl (y.rI rfl (FC _ _ _ (λg D e1 e2 H B z=>?_) λu=>?_)))
 case refine_2=>rw[(IM c).2 hc]at u;cases u
 have:g=c:=by
  obtain⟨a,b,d⟩:=c;obtain⟨N,P,J⟩:=g;simp only at e1 e2 H
  congr 1<;>omega
 subst this;have i:=z.bV y id;refine bX.intro (cD rfl (bX.intro (gA O (i.rI rfl (cT (m:=1024-g.aG) O O (gA O ?_))))));refine⟨λx=>bZ x U.size [.int .i64 g.size,.int .i64 g.aG,.int .i64 g.batch],i,⟨_,λx w=>by rw[add_lit,w.cell];rfl,⟨_,λx w=>by rw[add_lit,w.cell];rfl,⟨_,λx w=>by rw[add_lit,w.cell];rfl,?_⟩⟩⟩⟩;refine mk O O λK C j s=>⟨j.bV i id,nw (cs:=[.int .i64 (st:Int),.int .i64 g.size,.int .i64 g.aG,.int .i64 g.batch,.slice (some ⟨B.size,0,none⟩) g.n g.n,.int .i64 0]) λv3 G r A=>⟨(j.trans r).bV i id,?_⟩⟩;rw[Ml]at s;have E:=z.1;refine hR _ _ _ (((e.trans z).trans j).trans r) O (show U.size<=B.size by omega) ⟨⟨g.n,zE _,?_⟩,⟨[],?_⟩,O,by simp,hc,hf⟩
 ·have:cH.many ⟨st,List.replicate g.n false⟩=0:=by simp[cH.many,Ag]
  rw[this];exact A
 ·have:nJ (List.replicate g.n false)=List.replicate g.n 0:=by simp[nJ]
  rw[this,kb];exact r.bV s id
end Go.Ar
namespace Go.Proofs
open Go.Vc
set_option maxRecDepth 100000
def Ya.h:Hn:=.q .o1 (.q (.q .o3 .aK) (.q .o1 (.q .fX .aL)))
def Ya.v (a:R2)(b:Hp)(c:Sl->Hp->Prop):Prop:=W8.c a b λd e=>If (!d) (c ⟨none,0,0⟩ e) (aV #[.slice none 0 0] 201 e λf g=>bF a 3 g λi=>Wi.c i ⟨248,#[],#[.pointer (some f)]⟩ g λj k=>bW a λl=>aR l 3 (.slice j.a j.len j.cap) k λm=>jG f m λn=>c n m)
theorem Ya.o {a b c}(d:Ya.v a b c):Ya.c a b c:=Wa Tryz.func185 (x:=Ya.h) (R0 d)
def W8.h:Hn:=.q .o1 (.q (.cU (.seq [.op,.op,.op,.cY true 6 (RI.ops 6),.op])) .l)
def W8.v (a:R2)(b:Hp)(c:aO):Prop:=bX (λd e=>c d e) λf=>If (!a.isNone) (bW a λg=>bN ((g.add 0).add 0) b λh=>f (decide (h>0)) b) (f false b)
theorem W8.o {a b c}(d:W8.v a b c):W8.c a b c:=Wa Tryz.func197 (x:=W8.h) (R0 d)
def QM.h:Hn:=.q .o3 (.q (.q .o7 (.q .o2 .aJ)) (.q .o5 .l))
def QM.v (a b c:Int)(d:Hp)(e:Option Addr->Int->Hp->Prop):Prop:=aV #[.I a,.I b,.I c] 149 d λf g=>aQ f 0 g λh=>aQ f 1 g λi=>aQ f 2 g λj=>ZS.c h i j g λk l m=>If (l != 0) (e none 1 m) (aQ f 0 m λn=>aQ f 1 m λo=>aQ f 2 m λp=>aV #[.I n,.I o,.I p,.slice none 0 0] 274 m λq r=>e (some q) 0 r)
theorem QM.o {a b c d e}(f:QM.v a b c d e):QM.c a b c d e:=Wa Tryz.func212 (x:=QM.h) (R0 f)
def Xs.h:Hn:=.q .o2 (.q (.k (.q .o4 (.c .aL (.q .o3 .aJ)))) (.q .o1 (.q (.k (.loop [(6,.one .s)] (.q (.q .o4 (.c .l .l)) (.k (.q .o7 (.q (.q .o2 (.c .l .l)) .o5)))))) (.q .o3 .l))))
def Xs.v (a:R2)(b:Int)(c:Hp)(d:Sl->Int->Hp->Prop):Prop:=W8.c a c λe f=>If (!e) (d ⟨none,0,0⟩ 5 f) (If (b<0) (d ⟨none,0,0⟩ 1 f) (X6 [.s] (λg=>g ⟨none,0,0⟩ f) λh (i:Sl) j=>If (((i.len:Nat):Int)<b) (Za.c a j λk l m=>If (!l) (d i 0 m) (aV #[.I k] 3 m λn o=>App i 1 8 3 [.I 0] ⟨some n,1,1⟩ o λp q=>h p q)) (d i 0 j)))
theorem Xs.o {a b c d}(e:Xs.v a b c d):Xs.c a b c d:=Wa Tryz.func233 (x:=Xs.h) (R0 e)
def Y4.h:Hn:=.q .o1 (.q (.q .o3 .aK) (.q (.o 11) (.q (.q .o2 .aJ) (.q (.q .o6 (.k (.loop [(31,.I)] (.q .o1 (.q (.c .l .l) (.q (.k (.q .o4 (.q (.oq 17) .aK))) .o2)))))) (.q (.o 11) (.q (.o 15) .aM))))))
def Y4.v (a:R2)(b:Int)(c:Hp)(d:aN):Prop:=W8.c a c λe f=>If (!e) (d 5 f) (bW a λg=>bN ((g.add 0).add 0) f λh=>bN ((g.add 0).add 1) f λi=>bN ((g.add 0).add 2) f λj=>Vk.c b h i j f λk l m=>If (l != 0) (d l m) (bF a 3 m λo=>X6 [bO] (λp=>p 0 m) λq (r:Int) s=>If (r<((o.len:Nat):Int)) (Ix o.a o.len r 3 λt=>aQ t 0 s λu=>aQ t 1 s λv=>aY t 2 s λw=>aV #[.I 0,.I 0,.pointer none] 279 s λx y=>aR x 0 (.I u) y λz=>aR x 1 (.I v) z λaa=>aR x 2 (.pointer w) aa λab=>bN ((x.add 0).add 1) ab λac=>bN ((x.add 0).add 1) ab λad=>bM ((if b>ac then b else ac)-(if b<ad then b else ad)) λae=>bW a λaf=>bN ((af.add 0).add 1) ab λag=>If (ae<ag) (d 9 ab) (bM (r+1) λah=>q ah ab)) (bF a 3 s λaj=>Wc.c aj b ⟨292,#[],#[]⟩ s λak al am=>bF a 3 am λao=>aV #[.I 0,.I b,.pointer k] 279 am λap aq=>Wl.c ao ak ⟨some ap,1,1⟩ aq λar au=>bW a λav=>aR av 3 (.slice ar.a ar.len ar.cap) au λaw=>d 0 aw)))
theorem Y4.o {a b c d}(e:Y4.v a b c d):Y4.c a b c d:=Wa Tryz.func235 (x:=Y4.h) (R0 e)
def Ye.h:Hn:=.q .o2 (.kI [] (.q .o4 (.c (.cU (.held true [6] (.tk [0,1,2] (.all [(3,.all [(4,.all [(5,.all [(6,.done)])])])])))) .l)) (.q .o5 .l))
def Ye.v (a b:Int)(c:R2)(d:Addr)(e:Hp)(f:aO):Prop:=aV #[.I a,.I b,.pointer c] 279 e λg h=>Jn [] (λi=>bN ((g.add 0).add 0) i λj=>f (j==0) i) λk=>bN ((g.add 0).add 0) h λl=>If (l==0) (dY h λm=>gG m .s d λ(n:Sl)=>aU m g 2 λo=>Z3.c o h λp q r=>And (m r) <| aV #[.I p,.I q] 268 r λs t=>And (m t) <| App n 2 16 268 [.I 0,.I 0] ⟨some s,1,1⟩ t λu v=>And (m v) <| dX d (.slice u.a u.len u.cap) v λw=>k w) (k h)
theorem Ye.o {a b c d e f}(g:Ye.v a b c d e f):Ye.c a b c d e f:=Wa Tryz.func248 (x:=Ye.h) (R0 g)
def Zd.h:Hn:=.q .o2 (.q (.q .o3 .aJ) (.q .o1 (.q (.q .o3 (.k (.loop [(6,.one .b),(19,.I)] (.q .o1 (.q (.c .l .l) (.q (.k (.q .o5 (.q .o8 (.q (.q .o2 (.c (.q .o3 .l) .l)) (.cU (.seq [.op,.op,.cY false 2 [.op,.op],.op,.cY false 5 (RI.ops 5),.op])))))) .o2)))))) (.q (.q .o1 .aJ) (.q (.q .o3 (.k (.loop [(49,.I)] (.q .o1 (.q (.c .l .l) (.q (.k (.q .o3 (.q .o4 (.q .o6 .fX)))) .o2)))))) (.q .o4 .l))))))
def Zd.v (a:R2)(b:Sl)(c:Hp)(d:Sl->Int->Hp->Prop):Prop:=W8.c a c λe f=>If (!e) (d ⟨none,0,0⟩ 5 f) (X6 [.b,bO] (λg=>g false 0 f) λh (i:Bool) (j:Int) k=>If (j<((b.len:Nat):Int)) (Ix b.a b.len j 1 λl=>bN l k λm=>Xn.c a m k λn o p=>If (o != 0) (d ⟨none,0,0⟩ o p) (bX (λq r=>bX (λs t=>bM (j+1) λu=>h s u t) λv=>If q (v true r) (fD b 1 0 j (b.cap:Nat) λw=>Ww.c w m r λx y=>v x y)) λz=>If i (z true p) (z (!n) p))) (If i (d ⟨none,0,0⟩ 9 k) (X6 [bO] (λaa=>aa 0 k) λab (ac:Int) ad=>If (ac<((b.len:Nat):Int)) (Ix b.a b.len ac 1 λae=>bN ae ad λaf=>X2.c a af ad λag ah=>bG ag 2 ah λaj=>ZR.c aj af ah λak al=>bW ag λam=>bN ((am.add 0).add 0) al λan=>bM (an-1) λao=>bW ag λap=>dX ((ap.add 0).add 0) (.I ao) al λaq=>bM (ac+1) λar=>ab ar aq) (Ya.c a ad λau av=>d au 0 av))))
theorem Zd.o {a b c d}(e:Zd.v a b c d):Zd.c a b c d:=Wa Tryz.func267 (x:=Zd.h) (R0 e)
def Za.h:Hn:=.q .o2 (.q .o1 (.q (.q .o6 (.k (.loop [(4,.one .p),(14,.I)] (.q .o1 (.q (.c .l .l) (.q (.k (.q .o2 (.q .o7 (.q (.cU (.gI true [] [(48,.one .b)] (.tk [0,1,2,3,4,5,6,7,8] (.all [(9,.take 10 (.take 11 (.split 34 (.take 12 (.take 13 (.take 14 (.split 37 (.take 15 (.take 16 (.take 17 (.take 18 (.take 19 (.take 20 (.take 21 (.take 22 (.take 23 (.take 24 (.take 25 (.done)))))))))))) (.take 15 (.take 16 (.take 17 (.take 19 (.take 20 (.take 21 (.all [(18,.all [(22,.all [(23,.take 24 (.take 25 (.done)))])]),(22,.all [(18,.all [(23,.take 24 (.take 25 (.done)))])])]))))))))))) (.take 12 (.take 13 (.take 14 (.take 15 (.take 16 (.take 17 (.take 18 (.take 19 (.take 20 (.take 21 (.take 22 (.take 23 (.take 24 (.take 25 (.done))))))))))))))))))])))) (.c .o2 .l))))) .o2)))))) (.q (.q .o2 .aJ) (.q .fX (.q .fX (.q .o3 .l))))))
def Za.v (a:R2)(b:Hp)(c:Int->Bool->Hp->Prop):Prop:=bF a 3 b λe=>X6 [.p,bO] (λf=>f none 0 b) λg (h:R2) (i:Int) j=>If (i<((e.len:Nat):Int)) (bF a 3 j λl=>Ix l.a l.len i 3 λm=>Jn [.b] (λ(n:Bool) o=>If n (bM (i+1) λp=>g (some m) p o) (bM (i+1) λq=>g h q o)) λr=>dY j λs=>bW (some m) λt=>gG s bO ((t.add 0).add 0) λ(u:Int)=>bW (some m) λv=>aU s v 2 λw=>YD.c w j λx y=>And (s y) <| If (u<x) (If h.isNone (r true y) (bW (some m) λz=>bW h λaa=>(bN ((z.add 0).add 0) y λab=>bN ((z.add 0).add 1) y λac=>And (s y) <| bN ((aa.add 0).add 0) y λad=>bN ((aa.add 0).add 1) y λae=>And (s y) <| Xk.c ab ac ad ae y λaf ag=>And (s ag) <| r af ag) ∧ (bN ((aa.add 0).add 0) y λah=>bN ((aa.add 0).add 1) y λai=>And (s y) <| bN ((z.add 0).add 0) y λaj=>bN ((z.add 0).add 1) y λak=>And (s y) <| Xk.c aj ak ah ai y λal am=>And (s am) <| r al am))) (r false y)) (If h.isNone (c 0 false j) (bG h 2 j λao=>ZQ.c ao j λap aq ar=>bW h λau=>bN ((au.add 0).add 0) ar λav=>bM (av+1) λaw=>bW h λax=>dX ((ax.add 0).add 0) (.I aw) ar λay=>c ap true ay))
theorem Za.o {a b c}(d:Za.v a b c):Za.c a b c:=Wa Tryz.func285 (x:=Za.h) (R0 d)
def YU.h:Hn:=.q .o2 (.q .o6 .l)
def YU.v (a b:Int)(c:R2)(d:Int)(e:Hp)(f:aN):Prop:=aV #[.I a,.I b,.pointer c] 279 e λg h=>bN ((g.add 0).add 1) h λi=>bM (i-d) λj=>f j h
theorem YU.o {a b c d e f}(g:YU.v a b c d e f):YU.c a b c d e f:=Wa Tryz.func292 (x:=YU.h) (R0 g)
def YG.h:Hn:=.q .o2 (.q (.q .o3 .aJ) (.q .o4 (.q (.q .o2 .aJ) (.q (.o 11) (.q (.oq 16) .l)))))
def YG.v (a:R2)(b:Int)(c:Hp)(d:Int->Int->Hp->Prop):Prop:=W8.c a c λe f=>If (!e) (d 0 5 f) (X2.c a b f λg h=>If g.isNone (d 0 8 h) (bG g 2 h λj=>Yr.c j b h λk l m=>bW g λn=>bN ((n.add 0).add 1) m λo=>bM (o*256) λp=>bW a λq=>bN ((q.add 0).add 0) m λr=>bM (k*r) λs=>bM (p+s) λt=>d t 0 m))
theorem YG.o {a b c d}(e:YG.v a b c d):YG.c a b c d:=Wa Tryz.func296 (x:=YG.h) (R0 e)
def Xn.h:Hn:=.q .o2 (.q (.q .o3 .aJ) (.q .o4 (.q (.q .o2 .aJ) (.q .fX .l))))
def Xn.v (a:R2)(b:Int)(c:Hp)(d:Bool->Int->Hp->Prop):Prop:=W8.c a c λe f=>If (!e) (d false 5 f) (X2.c a b f λg h=>If g.isNone (d false 8 h) (bG g 2 h λj=>YL.c j b h λk l m=>d k l m))
theorem Xn.o {a b c d}(e:Xn.v a b c d):Xn.c a b c d:=Wa Tryz.func299 (x:=Xn.h) (R0 e)
def X2.h:Hn:=.q .o1 (.q (.q .o6 (.k (.loop [(13,.I)] (.q .o1 (.q (.c .l .l) (.q (.k (.q .o2 (.q (.o 15) (.q .o2 (.c (.q .o7 .l) .l))))) .o2)))))) .aM)
def X2.v (a:R2)(b:Int)(c:Hp)(d:Option Addr->Hp->Prop):Prop:=bF a 3 c λf=>X6 [bO] (λg=>g 0 c) λh (i:Int) j=>If (i<((f.len:Nat):Int)) (bF a 3 j λl=>Ix l.a l.len i 3 λm=>aY m 2 j λn=>Yr.c n b j λo p q=>If (p==0) (bF a 3 q λs=>Ix s.a s.len i 3 λt=>d (some t) q) (bM (i+1) λu=>h u q)) (d none j)
theorem X2.o {a b c d}(e:X2.v a b c d):X2.c a b c d:=Wa Tryz.func310 (x:=X2.h) (R0 e)
def Xk.h:Hn:=.q .o3 (.q (.cU (.seq [.op,.op,.op,.op,.op,.op,.cY false 12 [.op,.op,.op,.op,.op,.op,.cY true 5 (RI.ops 5)],.op])) .l)
def Xk.v (a b c d:Int)(e:Hp)(f:aO):Prop:=aV #[.I a,.I b] 276 e λg h=>aV #[.I c,.I d] 276 h λi j=>aQ g 0 j λk=>aQ i 0 j λl=>bX (λm n=>f m n) λo=>If (k>l) (o true j) (aQ g 0 j λp=>aQ i 0 j λq=>bX (λr s=>o r s) λt=>If (p==q) (aQ g 1 j λu=>aQ i 1 j λv=>t (decide (u<v)) j) (t false j))
theorem Xk.o {a b c d e f}(g:Xk.v a b c d e f):Xk.c a b c d e f:=Wa Tryz.func315 (x:=Xk.h) (R0 g)
end Go.Proofs
namespace Go.Ar
open Go Go.Vc Go.Proofs
variable {U:Hp}{F:Rg}{p:Nat}{c:cA}{ps:List (Nat×Nat)}{ss:List cH}
def eE (ps:List (Nat×Nat)):List Nat:=ps.flatMap λx=>[x.1,x.2]
theorem HP {ps:List (Nat×Nat)}{b:Nat}:b∈eE ps↔∃x∈ps,b=x.1\/b=x.2:=by simp[eE]
def dR:List (Nat×Nat)->List cH->List Value
 | x::ps,s::ss=>.int .i64 (s.many:Int) :: .int .i64 (s.st:Int) :: .pointer (some ⟨x.1,0,none⟩)::dR ps ss
 | _,_=>[]
theorem KE:∀{ps:List (Nat×Nat)} {ss:List cH},ps.length=ss.length->(dR ps ss).length=3*ss.length
 | [],[],_=>rfl
 | x::ps,s::ss,h=>by simp only[dR,zS]at *;rw[KE O];omega
theorem Ko:∀{ps:List (Nat×Nat)} {ss:List cH} {i:Nat} {x:Nat×Nat} {s:cH},ps[i]?=some x->ss[i]?=some s →
 (dR ps ss)[3*i]?=some (.int .i64 (s.many:Int))/\(dR ps ss)[3*i+1]?=some (.int .i64 (s.st:Int))/\(dR ps ss)[3*i+2]?=some (.pointer (some ⟨x.1,0,none⟩))
 | [],_,_,_,_,h,_=>by simp at h
 | _::_,[],_,_,_,_,h=>by simp at h
 | y::ps,t::ss,0,x,s,h1,h2=>by simp at h1 h2;subst h1;subst h2;simp[dR]
 | y::ps,t::ss,i+1,x,s,h1,h2=>by
  have:=Ko (ps:=ps) (ss:=ss) (i:=i) (by simpa using h1) (by simpa using h2);simp only[dR];rw[show 3*(i+1)=3*i+3 by omega];simpa using this
theorem VM:∀{ps ps':List (Nat×Nat)} {ss ss':List cH},ps.length=ss.length->dR (ps++ps') (ss++ss')=dR ps ss++dR ps' ss'
 | [],_,[],_,_=>rfl
 | x::ps,_,s::ss,_,h=>by simp only[lO,dR,VM (ps:=ps) (ss:=ss) (by simpa using h)]
theorem Ex:∀{ps:List (Nat×Nat)} {ss:List cH},∀v∈dR ps ss,dS v=true
 | [],_,v,h=>by simp[dR]at h
 | _::_,[],v,h=>by simp[dR]at h
 | x::ps,s::ss,v,h=>by
  simp only[dR,zW]at h;rcases h with rfl|rfl|rfl|h
  ·rfl
  ·rfl
  ·rfl
  ·exact Ex v h
structure fF (U:Hp) (F:Rg) (p:Nat) (c:cA) (ps:List (Nat×Nat)) (ss:List cH):Prop where
 hd:∃sl:Sl,bZ U p [.int .i64 (c.size:Int),.int .i64 (c.aG:Int),.int .i64 (c.batch:Int),.slice sl.a sl.len sl.cap]/\bT sl 3 (dR ps ss) U (λb=>F b/\b≠p/\b∉eE ps)
 sp:∀(i:Nat) (x:Nat×Nat) s,ps[i]?=some x->ss[i]?=some s->il U x.1 x.2 c s
 fp:F p
 fb:∀b∈eE ps,F b
 nd:(p::eE ps).Nodup
 len:ps.length=ss.length
 ok:c.ok
 qT:ss.Pairwise (λa b=>a.st<b.st)
theorem fF.loc:dN λU F=>fF U F p c ps ss:=λU B F G h J m=>by
 obtain⟨sl,a,A⟩:=h.hd;have bS:∀b,b<U.size->F b->B[b]?=U[b]? := λb a d=>(m b a d).2;have u:∀{b:Nat} {cs:List Value},bZ U b cs->F b->bZ B b cs:=by
  rintro b cs ⟨e,C⟩ d;exact⟨e,(bS b (bZ.lt ⟨e,C⟩) d).trans C⟩
 have lt:∀b∈eE ps,b<U.size:=by
  intro b a;obtain⟨x,j,w⟩:=HP.1 a;obtain⟨i,hi⟩:=zP j;have z:=(cX.1 hi).1;have:=(h.sp i x _ hi (cW (by rw[←h.len];exact z))).lt;rcases w with rfl|rfl
  ·exact this.1
  ·exact this.2
 refine⟨⟨sl,u a h.fp,bT.loc _ _ _ _ _ _ _ A J λb a d=>⟨⟨(m b a d.1).1,d.2⟩,(m b a d.1).2⟩⟩,λi x s j y=>?_,(m p a.lt h.fp).1,λb a=>(m b (lt b a) (h.fb b a)).1,h.nd,h.len,h.ok,h.qT⟩;have g:=h.sp i x s j y;have K:x.1∈eE ps:=HP.2 ⟨x,zG j,.inl rfl⟩;have D:x.2∈eE ps:=HP.2 ⟨x,zG j,.inr rfl⟩;obtain⟨E,H,hd⟩:=g.hd;obtain⟨r,A⟩:=g.row;exact⟨⟨E,H,u hd (h.fb _ K)⟩,⟨r,u A (h.fb _ D)⟩,g.ne,g.len,g.ok,g.fit⟩
theorem fF.bP {σ':Hp}(h:fF U F p c ps ss)(e:aF U σ'):fF σ' F p c ps ss:=dN.bP fF.loc h e
theorem fF.qH (h:fF U F p c ps ss):ss.length<=1024:=by
 have key:∀i (hi:i<ss.length),i<=ss[i].st:=by
  intro i
  induction i with
  | zero=>intro _;omega
  | succ i ih=>
   intro hi;have d:=ih O;have b:=kS.1 h.qT i (i+1) O hi O;omega
 rcases DV ss.length with h0|h0
 ·omega
 ·have a:ss.length-1<ss.length:=by omega
  have d:=key _ a;have g:ss.length-1<ps.length:=by rw[h.len];exact a
  have b:=(h.sp _ _ _ (cW g) (cW a)).fit;have:=h.ok.2.2.2.1;omega
structure sI (U:Hp) (F:Rg) (p:Nat) (ps:List (Nat×Nat)) (ss:List cH) (sl:Sl) (rb:Nat) (cs:List Value):Prop where
 a:sl.a=some ⟨rb,0,none⟩
 bV:bZ U rb cs
 fr:F rb/\rb≠p/\rb∉eE ps
 get:∀{j:Nat} {v:Value},(dR ps ss)[j]?=some v->cs[j]?=some v
 BX:3*ss.length<=cs.length
theorem fF.sl (h:fF U F p c ps ss):∃sl:Sl,bZ U p [.int .i64 (c.size:Int),.int .i64 (c.aG:Int),.int .i64 (c.batch:Int),.slice sl.a sl.len sl.cap]/\sl.len=ss.length/\(ss≠[]->∃rb cs,sI U F p ps ss sl rb cs):=by
 obtain⟨sl,r,i⟩:=h.hd;have s:=i.1;rw[KE h.len]at s;refine⟨sl,r,O,λg=>?_⟩;have m:0<ss.length:=pY.2 g;rcases i.2 with⟨h0,_⟩|⟨b,cs,hq,ha,hbb,hle,hcl,ht⟩
 ·omega
 ·refine⟨b,cs,ha,hbb,hq,λ{j v} d=>?_,?_⟩
  ·rw[←ht,zm]at d;split at d
   ·exact d
   ·cases d
  ·have:=congrArg List.length ht;rw[zY,KE h.len]at this;omega
theorem fF.jM (h:fF U F p c ps ss){i:Nat}(hi:i<ss.length):∃x s,ps[i]?=some x/\ss[i]?=some s/\il U x.1 x.2 c s:=by
 have a:i<ps.length:=by rw[h.len];exact hi
 have b:ps[i]?=some ps[i]:=cW a;exact⟨_,_,b,cW hi,h.sp i _ _ b (cW hi)⟩
theorem Uz (h:fF U F p c ps ss){R:aO}(hR:R true U):W8.c (aW p) U R:=by
 refine W8.o ?_;unfold W8.v;obtain⟨sl,b,d,g⟩:=h.sl;have a:=h.ok;unfold cA.ok at a;refine bX.intro (cF rfl (bL (b.fL rfl ?_)));rw[zI O];exact hR
def iP (x:Int):Prop:=x<=9223372036854775807
theorem DF (h:fF U F p c ps ss)(x:Int)(hx:iP x){R:Option Addr->Hp->Prop}(h0:ld c ss x=none->R none U)
 (h1:∀(i:Nat) sl rb cs,ld c ss x=some i->i<ss.length->bZ U p [.int .i64 (c.size:Int),.int .i64 (c.aG:Int),.int .i64 (c.batch:Int),.slice sl.a sl.len sl.cap]->sI U F p ps ss sl rb cs->R (some ⟨rb,3*i,none⟩) U):X2.c (aW p) x U R:=by
 refine X2.o ?_;unfold X2.v;obtain⟨sl,A,Q,L⟩:=h.sl;have D:=h.qH;refine bL (A.rS rfl ?_);refine Qv (a:=bO) (λ(t:Int) G=>∃i:Nat,t=(i:Int)/\i<=ss.length/\G=U/\∀(j:Nat) s,j<i->ss[j]?=some s->idx c s x=none) (λt _=>ss.length-t.toNat) ⟨0,rfl,O,rfl,λj s y=>O⟩ ?_;rintro t G ⟨i,rfl,hi,rfl,w⟩;refine cN (λC=>?_) λB=>?_
 ·simp only at C;have b:i<ss.length:=by omega
  obtain⟨J,s,K,z,M⟩:=h.jM b;obtain⟨rb,cs,E⟩:=L (by rintro rfl;simp at b);have P:=Ko K z;refine bL (A.rS rfl ?_);rw[E.a];refine ix O O ?_;rw[add_lit];refine E.bV.rP (x:=some ⟨J.1,0,none⟩) ?_ ?_
  ·have:=E.get P.2.2;rw[show 0+(i:Int).toNat*3+2=3*i+2 by omega];exact this
  have u:∀r,idx c s x=some r->ld c ss x=some i:=by
   intro r d;refine n4.2 ⟨b,?_,λj y=>?_⟩
   ·have:ss[i]=s:=by rw[cW b]at z;simpa using z
    rw[this,d];rfl
   ·rw[w j _ y (cW O)];simp
  refine Ec M x hx (λr d=>cF rfl (bL (A.rS rfl ?_))) λN=>cD rfl ?_
  ·rw[E.a];refine ix O O ?_;rw[add_lit,show 0+(i:Int).toNat*3=3*i by omega];exact h1 i sl rb cs (u r d) b A E
  ·refine cT (m:=i+1) O O ⟨⟨i+1,rfl,O,rfl,λj H y g=>?_⟩,O⟩;by_cases e:j=i
   ·subst e;rw[z]at g;cases g;exact N
   ·exact w j H O g
 ·refine h0 ?_;refine wb.2 λs z=>?_;obtain⟨j,y⟩:=zP z;have:=(cX.1 y).1;rw[w j s (by simp only at B;omega) y];rfl
theorem Uh {x:Int}{k:Nat}{s:cH}(hk:ld c ss x=some k)(hs:ss[k]?=some s):eB c ss x=(obj c s x).map s.is:=by
 unfold eB;rw[hk];simp only[hs];rfl
theorem DA {x:Int}(hk:ld c ss x=none):eB c ss x=none:=by unfold eB;rw[hk]
theorem EU (h:fF U F p c ps ss)(x:Int)(hx:iP x){R:Bool->Int->Hp->Prop}(h1:∀b,eB c ss x=some b->R b 0 U)(h0:eB c ss x=none->R false 8 U):Xn.c (aW p) x U R:=by
 refine Xn.o ?_;unfold Xn.v;refine Uz h (cD rfl (DF h x hx (λa=>cF rfl (h0 (DA a))) λi sl A B d hi C E=>cD rfl (bL ?_)));obtain⟨w,s,y,g,u⟩:=h.jM hi;have z:=Ko y g;refine E.bV.rP (x:=some ⟨w.1,0,none⟩) (E.get z.2.2) ?_;have m:=Uh d g;exact Wfi u x hx (λj r=>h1 _ (by rw[m,r];rfl)) λa=>h0 (by rw[m,a];rfl)
theorem GF {x:Int}{k:Nat}{s:cH}(hk:ld c ss x=some k)(hs:ss[k]?=some s):r7 c ss x=(idx c s x).map (at_ c s):=by
 unfold r7;rw[hk];simp only[hs]
theorem F2 {x:Int}(hk:ld c ss x=none):r7 c ss x=none:=by unfold r7;rw[hk]
theorem Wl0 {x:Int}{k:Nat}{s:cH}(hk:ld c ss x=some k)(hs:ss[k]?=some s):∃i,idx c s x=some i:=by
 obtain⟨hi,a,_⟩:=n4.1 hk;have:ss[k]=s:=by rw[cW hi]at hs;simpa using hs
 rw[this]at a;exact pX.1 a
theorem π (h:fF U F p c ps ss)(x:Int)(hx:iP x){R:Int->Int->Hp->Prop}(h1:∀a,r7 c ss x=some a->R (a:Int) 0 U)(h0:r7 c ss x=none->R 0 8 U):YG.c (aW p) x U R:=by
 refine YG.o ?_;unfold YG.v;refine Uz h (cD rfl (DF h x hx (λg=>cF rfl (h0 (F2 g))) λi sl K J b hi H E=>cD rfl (bL ?_)));obtain⟨C,s,G,u,w⟩:=h.jM hi;have A:=Ko G u;obtain⟨r,j⟩:=Wl0 b u;have B:=GF b u;have D:=h.ok;unfold cA.ok at D;have y:=((Ux O).1 j).2.2;rw[w.len]at y;have g:=h.ok.kN;have z:=w.fit;have M:r*c.size<=128*512:=mD O O;refine E.bV.rP (x:=some ⟨C.1,0,none⟩) (E.get A.2.2) ?_;refine Ec w x hx (λL d=>?_) λg=>by rw[j]at g;cases g
 rw[j]at d;cases d;refine bL (E.bV.fL (x:=s.st) (E.get A.2.1) (cT (m:=s.st*256) aA O (bL (H.fL rfl ?_))));refine cT (m:=r*c.size) aA O (cT (m:=at_ c s r) (by simp[at_]) (by unfold at_;omega) (h1 _ (by rw[B,j];rfl)))
theorem xA {h:Hp}{rb i:Nat}{cs:List Value}{x y:Int}{z:Option Addr}{e:Nat}(hb:bZ h rb cs)(h0:cs[3*i]?=some (.int .i64 x))(h1:cs[3*i+1]?=some (.int .i64 y))(h2:cs[3*i+2]?=some (.pointer z))
 {K:Int->Int->Option Addr->Prop} (hK:K x y z):gM .i64 (Addr.add ⟨rb,3*i,none⟩ 0) h λu=>gM .i64 (Addr.add ⟨rb,3*i,none⟩ 1) h λv=>fY (Addr.add ⟨rb,3*i,none⟩ 2) h λw=>K u v w:=
 hb.rI h0 (hb.rI h1 (hb.rP h2 hK))
theorem Jt {h:Hp}{x y:Int}{z:Option Addr}{e:Nat}{K:Addr->Hp->Prop}(hK:∀h',aF h h'->bZ h' h.size [.int .i64 x,.int .i64 y,.pointer z]->K ⟨h.size,0,none⟩ h') :
 Nw (.cells #[.int .i64 0,.int .i64 0,.pointer none] e (0,0)) h λn v=>dX (n.add 0) (.int .i64 x) v λv1=>dX (n.add 1) (.int .i64 y) v1 λv2=>dX (n.add 2) (.pointer z) v2 λv3=>K n v3:=by
 refine nw (cs:=[.int .i64 0,.int .i64 0,.pointer none]) λv j e b=>b.s1 aA λv1 o1 a=>a.s1 aA λv2 o2 g=>g.s1 aA λv3 o3 d=>?_;refine hK v3 ?_ d;exact Ext.fresh (Ext.fresh (Ext.fresh e o1.ext λi hi=>O) o2.ext λi hi=>O) o3.ext λi hi=>by omega
def iT (c:cA)(l:List Nat):List Value:=l.flatMap λ(s:Nat)=>[.int .i64 (s:Int),.int .i64 (c.aG:Int)]
theorem Tz (c:cA)(l:List Nat):(iT c l).length=2*l.length:=by
 induction l with
 | nil=>rfl
 | cons x l ih=>simp only[iT,oy,zJ,zS,kr]at *;omega
theorem O8 (hc:c.ok){R:Option Addr->Int->Hp->Prop}(hR:∀σ' p,aF U σ'->U.size<=p->p<σ'.size->fF σ' (· = p) p c [] []->R (some ⟨p,0,none⟩) 0 σ'):QM.c c.size c.aG c.batch U R:=by
 refine QM.o ?_;unfold QM.v;refine nw (cs:=[.int .i64 c.size,.int .i64 c.aG,.int .i64 c.batch]) λv y e d=>?_;refine d.rI rfl (d.rI rfl (d.rI rfl (FC _ _ _ (λs r e1 e2 x u j=>?_) λb=>?_)))
 case refine_2=>rw[(IM c).2 hc]at b;cases b
 have a:=j.bV d id;refine cD rfl (a.rI rfl (a.rI rfl (a.rI rfl (nw (cs:=[.int .i64 c.size,.int .i64 c.aG,.int .i64 c.batch,.slice none 0 0]) λw m i g=>?_))));exact hR _ _ ((e.trans j).trans i) (by have:=j.1;omega) O ⟨⟨⟨none,0,0⟩,g,bT.nil _ _ _ _⟩,by simp,rfl,by simp[eE],by simp[eE],rfl,hc,by simp⟩
theorem O4 (a b a' b':Nat){R:aO}(hR:∀σ',aF U σ'->R (decide (a>a')||(a==a'&&decide (b<b'))) σ'):Xk.c (a:Int) (b:Int) (a':Int) (b':Int) U R:=by
 refine Xk.o ?_;unfold Xk.v;refine nw (cs:=[.int .i64 a,.int .i64 b]) λv s e p=>nw (cs:=[.int .i64 a',.int .i64 b']) λr m e1 g=>?_;have i:=e1.bV p id;have d:=hR _ (e.trans e1);refine i.rI rfl (g.rI rfl (bX.intro (cN (λh=>?_) λh=>?_)))
 ·have:decide (a>a')=true:=by simpa using h
  rw[this,Bool.true_or]at d;exact d
 ·have:decide (a>a')=false:=by simpa using h
  rw[this,wH]at d;refine i.rI rfl (g.rI rfl (bX.intro ?_));rw[mg];refine cQ (λj=>?_) λj=>?_
  ·rw[j,rO]at d;refine i.rI rfl (g.rI rfl ?_);have:decide ((b:Int)<(b':Int))=decide (b<b'):=by rw[decide_eq_decide];omega
   rw[this];exact d
  ·rw[j,vt]at d;exact d
theorem Kn:∀{i k:Nat},Zy ss i=some k->k<i/\∃s,ss[k]?=some s/\s.many<s.tk.length
 | 0,_,h=>by simp[Zy]at h
 | i+1,k,h=>by
  have up:Zy ss i=some k->k<i+1/\∃s,ss[k]?=some s/\s.many<s.tk.length:=λh=>by
   have:=Kn h;exact⟨O,this.2⟩
  simp only[Zy]at h;split at h
  ·rename_i x hx;split at h
   ·rename_i hlt;have a:i<i+1/\∃s,ss[i]?=some s/\s.many<s.tk.length:=⟨O,x,hx,hlt⟩;split at h
    ·rename_i j hj;split at h
     ·split at h
      ·cases h;exact a
      ·cases h;exact up hj
     ·cases h;exact a
    ·cases h;exact a
   ·exact up h
  ·exact up h
theorem A5 {s:cH}(h:s.many<s.tk.length):∃i,low s=some i/\i<s.tk.length/\s.is i=false:=by
 unfold low;cases hf:s.tk.findIdx? (· == false)with
 | some i=>
  obtain⟨hi,b,_⟩:=n4.1 hf;refine⟨i,rfl,hi,?_⟩;have:s.tk[i]=false:=by simpa using b
  simp[cH.is,zQ,cW hi,this]
 | none=>
  exfalso;have a:=wb.1 hf;have:s.many=s.tk.length:=by
   unfold cH.many;rw[List.count_eq_length];intro x hx;have:=a x hx;cases x
   ·simp at this
   ·rfl
  omega
theorem IJ:∀{ps:List (Nat×Nat)} {ss:List cH} {k:Nat} {s s':cH},ps.length=ss.length->ss[k]?=some s->s'.st=s.st->dR ps (ss.set k s')=(dR ps ss).set (3*k) (.int .i64 (s'.many:Int))
 | [],[],_,_,_,_,h,_=>by simp at h
 | [],_::_,_,_,_,h,_,_=>by simp at h
 | _::_,[],_,_,_,_,h,_=>by simp at h
 | x::ps,t::ss,0,s,s',_,h,e=>by simp at h;subst h;simp[dR,e]
 | x::ps,t::ss,k+1,s,s',hl,h,e=>by
  simp only[sX,dR];rw[IJ (ps:=ps) (ss:=ss) (s:=s) (by simpa using hl) (by simpa using h) e];rw[show 3*(k+1)=3*k+1+1+1 by omega];simp
theorem υ {h:Hp}{b:Nat}{cs cs':List Value}(h1:bZ h b cs)(h2:bZ h b cs'):cs=cs':=by
 obtain⟨e,d⟩:=h1;obtain⟨g,a⟩:=h2;rw[d]at a;simp only[Option.some.injEq,Obj.cells.injEq]at a;simpa using congrArg Array.toList a.1
theorem Q1 {x:Nat×Nat}{i:Nat}(hx:ps[i]?=some x):x.1∈eE ps/\x.2∈eE ps:=
 ⟨HP.2 ⟨x,zG hx,.inl rfl⟩,HP.2 ⟨x,zG hx,.inr rfl⟩⟩
theorem ED:∀{ps:List (Nat×Nat)},(eE ps).Nodup->∀{i j:Nat} {x y:Nat×Nat},ps[i]?=some x->ps[j]?=some y->i≠j->∀b,(b=x.1\/b=x.2)->¬(b=y.1\/b=y.2)
 | [],_,_,_,_,_,h,_,_=>by simp at h
 | z::ps,hn,i,j,x,y,h1,h2,hij=>by
  have hn':z.1∉eE ps/\z.2∉eE ps/\z.1≠z.2/\(eE ps).Nodup:=by
   simp only[eE,oy,lO,sN,zr,zW,not_or]at hn;exact⟨hn.1.2,hn.2.1,hn.1.1,hn.2.2⟩
  intro b hb hb'
  match i,j,hij with
  | 0,0,h=>exact h rfl
  | 0,j+1,_=>
   simp at h1;subst h1;have:=Q1 (ps:=ps) (i:=j) (by simpa using h2);rcases hb with rfl|rfl<;>rcases hb' with e|e<;>rw[e]at hn'<;>simp[this]at hn'
  | i+1,0,_=>
   simp at h2;subst h2;have:=Q1 (ps:=ps) (i:=i) (by simpa using h1);rcases hb with rfl|rfl<;>rcases hb' with e|e<;>rw[←e]at hn'<;>simp[this]at hn'
  | i+1,j+1,h=>exact ED hn'.2.2.2 (by simpa using h1) (by simpa using h2) O b hb hb'
theorem fF.px (h:fF U F p c ps ss){k:Nat}{x:Nat×Nat}{s s':cH}(hx:ps[k]?=some x)(hs:ss[k]?=some s)(hst:s'.st=s.st){σ1:Hp}(e1:Ext (λb=>b=x.1\/b=x.2) U σ1)(hS:il σ1 x.1 x.2 c s')
 {sl:Sl} {rb:Nat} {cs:List Value} (hb:bZ U p [.int .i64 (c.size:Int),.int .i64 (c.aG:Int),.int .i64 (c.batch:Int),.slice sl.a sl.len sl.cap]) (E:sI U F p ps ss sl rb cs)
 {K:aP} (hK:∀σ2,Ext F U σ2->fF σ2 F p c ps (ss.set k s')->K σ2):dX ⟨rb,3*k,none⟩ (.int .i64 (s'.many:Int)) σ1 K:=by
 obtain⟨nD,D,N⟩:=h.hd;have J:nD=sl:=by
  have:=υ D hb;simp at this;obtain⟨a,n,c⟩:=sl;obtain⟨V,S,Q⟩:=nD;simp at this ⊢;exact this
 subst J;have m:=Q1 hx;have g:=h.nd;simp only[zr]at g;have r:=(cX.1 hs).1;have H:=(bT.loc nD 3 (dR ps ss)).bS N e1 λb hb P=>λd=>P.2.2 (by rcases d with rfl|rfl;exact m.1;exact m.2);have B:=e1.bV hb λd=>g.1 (by rcases d with h|h<;>rw[h];exact m.1;exact m.2)
 refine H.st (j:=3*k) (by rw[KE h.len];omega) (λb z=>by rw[E.a]at z;cases z;rfl) λσ2 e2 G=>?_;have C:Ext F U σ2:=(e1.sub λi hi=>h.fb i (by rcases hi with rfl|rfl;exact m.1;exact m.2)).trans (e2.sub λi hi=>hi.1);refine hK σ2 C ⟨⟨nD,e2.bV B λd=>d.2.1 rfl,?_⟩,λi y t u A=>?_,h.fp,h.fb,h.nd,by simpa using h.len,h.ok,?_⟩
 ·rw[IJ h.len hs hst];exact G
 ·have w:=Q1 u;have k2:il σ1 y.1 y.2 c t:=by
   by_cases hik:i=k
   ·subst hik;rw[hx]at u;cases u;rw[zO r]at A;cases A;exact hS
   ·rw[zh (Ne.symm hik)]at A;have L:=ED g.2 u hx hik;exact(h.sp i y t u A).bS e1 (L _ (.inl rfl)) (L _ (.inr rfl))
  exact k2.bS e2 (λd=>d.2.2 w.1) (λd=>d.2.2 w.2)
 ·have:(ss.set k s').map (·.st)=ss.map (·.st):=by
   apply zy;intro i;simp only[zZ];by_cases hik:i=k
   ·subst hik;rw[zO r,hs];simp[hst]
   ·rw[zh (Ne.symm hik)]
  have M:=h.qT;rw[←q9 (f:=cH.st) (R:=(· < ·))]at M ⊢;rw[this];exact M
theorem S7 (h:fF U F p c ps ss){R:Int->Bool->Hp->Prop}(h1:∀x ss',iZ c ss=some (x,ss')->∀σ',Ext F U σ'->fF σ' F p c ps ss'->R (x:Int) true σ')(h0:iZ c ss=none->∀σ',aF U σ'->R 0 false σ') :
 Za.c (aW p) U R:=by
 refine Za.o ?_;unfold Za.v;obtain⟨sl,Y,hl,hr⟩:=h.sl;have hfew:=h.qH;have hn:=h.ok.kN;obtain⟨d,cs,E⟩:∃d cs,ss≠[]->sI U F p ps ss sl d cs:=by
  by_cases hne:ss=[]
  ·exact⟨0,[],λh=>absurd hne h⟩
  ·obtain⟨d,cs,E⟩:=hr hne;exact⟨d,cs,λ_=>E⟩
 refine bL (Y.rS rfl ?_);refine UC (a:=.p) (bb:=bO) (λ(iR:Option Addr) (t:Int) G=>∃i:Nat,t=(i:Int)/\i<=ss.length/\aF U G/\iR=(Zy ss i).map λk=>⟨d,3*k,none⟩) (λ_ t _=>ss.length-t.toNat) ⟨0,rfl,O,Ext.refl _ _,rfl⟩ ?_;rintro iR t G ⟨i,rfl,hi,e,rfl⟩;refine cN (λQ=>?_) λV=>?_
 ·simp only at Q;have L:i<ss.length:=by omega
  have E:=E (by rintro rfl;simp at L);obtain⟨P,s,M,D,w⟩:=h.jM L;have z:=Ko M D;have S:=w.len;refine bL ((e.bV Y id).rS rfl ?_);rw[E.a];refine ix O O ?_;rw[add_lit,show 0+(i:Int).toNat*3=3*i by omega];have Eb:=e.bV E.bV id;have C:Zy ss (i+1)=if s.many<s.tk.length then(match Zy ss i with
   | some j=>match ss[j]? with
    | some y=>if G5 s y then some i else some j
    | none=>some i
   | none=>some i)else Zy ss i:=by
   simp only[Zy,D];rfl
  have J:∀(r:Bool) (v:Hp),aF U v->(if r then some i else Zy ss i)=Zy ss (i+1) →
   If r (Ar .i64 ((i:Int)+1) λb=>(∃j:Nat,b=(j:Int)/\j<=ss.length/\aF U v/\some (⟨d,3*i,none⟩:Addr)=(Zy ss j).map λk=>⟨d,3*k,none⟩)/\ss.length-b.toNat<ss.length-(i:Int).toNat)
    (Ar .i64 ((i:Int)+1) λb=>(∃j:Nat,b=(j:Int)/\j<=ss.length/\aF U v/\((Zy ss i).map λk=>(⟨d,3*k,none⟩:Addr))=(Zy ss j).map λk=>⟨d,3*k,none⟩)/\ss.length-b.toNat<ss.length-(i:Int).toNat):=by
   intro r v ev hr';cases r
   ·refine cD rfl (cT (m:=i+1) O O ⟨⟨i+1,rfl,O,ev,?_⟩,O⟩);rw[←hr'];rfl
   ·refine cF rfl (cT (m:=i+1) O O ⟨⟨i+1,rfl,O,ev,?_⟩,O⟩);rw[←hr'];rfl
  refine Jn.intro ⟨λH=>bZ H d cs,Eb,bL ⟨_,λH w=>by rw[add_lit,add_lit,w.cell];exact E.get z.1,bL ⟨_,λH w=>by rw[add_lit,w.cell];exact E.get z.2.2,?_⟩⟩⟩;refine TG (w.bP e) ⟨Eb,?_⟩;refine cN (λhlt2=>?_) λhge2=>?_
  ·have hm:s.many<s.tk.length:=by omega
   rw[zC hm]at C;cases hbf:Zy ss i with
   | none=>
    rw[hbf]at C J;exact cF rfl (J true G e C.symm)
   | some j=>
    rw[hbf]at C J;obtain⟨hji,y,hy,hym⟩:=Kn hbf;simp only[hy]at C;have hpj:j<ps.length:=by rw[h.len];omega
    have u:=Ko (cW hpj) hy;have fin:Xk.c (s.many:Int) (s.st:Int) (y.many:Int) (y.st:Int) G λt46 v3=>bZ v3 d cs ∧
     If t46 (Ar .i64 ((i:Int)+1) λb=>(∃j:Nat,b=(j:Int)/\j<=ss.length/\aF U v3/\some (⟨d,3*i,none⟩:Addr)=(Zy ss j).map λk=>⟨d,3*k,none⟩)/\ss.length-b.toNat<ss.length-(i:Int).toNat)
      (Ar .i64 ((i:Int)+1) λb=>(∃j':Nat,b=(j':Int)/\j'<=ss.length/\aF U v3/\((some j).map λk=>(⟨d,3*k,none⟩:Addr))=(Zy ss j').map λk=>⟨d,3*k,none⟩)/\ss.length-b.toNat<ss.length-(i:Int).toNat):=by
     refine O4 _ _ _ _ λv3 e3=>⟨e3.bV Eb id,J _ v3 (e.trans e3) ?_⟩;rw[C];rfl
    refine cD rfl (bL (bL ⟨?_,?_⟩))
    ·exact Eb.fL (E.get z.1) (Eb.fL (E.get z.2.1) ⟨Eb,Eb.fL (E.get u.1) (Eb.fL (E.get u.2.1) ⟨Eb,fin⟩)⟩)
    ·exact Eb.fL (E.get u.1) (Eb.fL (E.get u.2.1) ⟨Eb,Eb.fL (E.get z.1) (Eb.fL (E.get z.2.1) ⟨Eb,fin⟩)⟩)
  ·have hm:¬s.many<s.tk.length:=by omega
   rw[zB hm]at C;exact J false G e C.symm
 ·have Z:i=ss.length:=by simp only at V;omega
  subst Z;cases hbf:Zy ss ss.length with
  | none=>
   refine cF rfl (h0 ?_ _ e);simp[iZ,iR,hbf]
  | some k=>
   obtain⟨hk,s,D,hsm⟩:=Kn hbf;have E:=E (by rintro rfl;simp at hk);obtain⟨P,s',M,N,w⟩:=h.jM hk;rw[D]at N;cases N;have z:=Ko M D;obtain⟨r,B,hr1,hr2⟩:=A5 hsm;have G:=h.bP e;have one:iZ c ss=some (at_ c s r,ss.set k (s.put r true)):=by simp[iZ,iR,hbf,D,B]
   have E':sI _ F p ps ss sl d cs:=⟨E.a,e.bV E.bV id,E.fr,E.get,E.BX⟩;refine cD rfl (bL (E'.bV.rP (x:=some ⟨P.1,0,none⟩) (E.get z.2.2) ?_));refine Nh (w.bP e) B λv5 e5 X=>bL ?_;have K:=Q1 M;have W:¬(d=P.1\/d=P.2):=λhh=>E.fr.2.2 (by rcases hh with h|h<;>rw[h];exact K.1;exact K.2)
   have hml:=Ee s;have g:=Au hr1 true;rw[hr2]at g;have A:(s.put r true).many=s.many+1:=by simp at g;omega
   have S:=w.len;refine(e5.bV E'.bV W).fL (E.get z.1) (cT (m:=s.many+1) O O (bL ?_));rw[add_lit,add_lit,kC,kC,←A];exact G.px (s':=s.put r true) M D rfl e5 X (e.bV Y id) E' λv6 e6 h6=>h1 _ _ one v6 (e.to.trans e6) h6
theorem SI {k:Nat}{s s':cH}(hs:ss[k]?=some s):pC (ss.set k s')+(s.tk.length-s.many)=pC ss+(s'.tk.length-s'.many):=by
 unfold pC
 induction ss generalizing k with
 | nil=>simp at hs
 | cons x ss ih=>
  cases k with
  | zero=>simp at hs;subst hs;simp;omega
  | succ k=>
   have:=ih (by simpa using hs);simp only[sX,zR,oE];omega
theorem NU {x:Nat}{ss':List cH}(h:iZ c ss=some (x,ss')):pC ss'+1=pC ss:=by
 unfold iZ at h;split at h
 ·rename_i k hk;obtain⟨_,s,m,b⟩:=Kn hk;rw[m]at h;simp only at h;split at h
  ·rename_i i hi;cases h;obtain⟨r,j,a,d⟩:=A5 b;rw[hi]at j;cases j;have u:=SI (s':=s.put i true) m;have g:=Au a true;rw[d]at g;have p:(s.put i true).tk.length=s.tk.length:=by simp[cH.put]
   simp at g;omega
  ·cases h
 ·cases h
theorem fF.room (h:fF U F p c ps ss):pC ss<=131072:=by
 have key:∀l:List cH,(∀s∈l,s.tk.length<=128)->pC l<=128*l.length:=by
  intro l
  induction l with
  | nil=>intro _;simp[pC]
  | cons x l ih=>
   intro hl;have m:=hl x aA;have j:=ih λs d=>hl s (by simp[d]);simp only[pC,zR,oE,zS]at *;omega
 have:=key ss λs d=>by
  obtain⟨i,hi⟩:=zP d;have b:=(cX.1 hi).1;obtain⟨x,r,_,a,g⟩:=h.jM b;rw[hi]at a;cases a;rw[g.len];exact h.ok.kN
 have:=h.qH;omega
theorem Gk {m:Nat}{x:Nat}{ss':List cH}(h:iZ c ss=some (x,ss')):KH c (m+1) ss=(x::(KH c m ss').1,(KH c m ss').2):=by
 simp[KH,h]
theorem MY (h:fF U F p c ps ss)(m:Int)(hm:0<=m){R:Sl->Int->Hp->Prop}
 (hR:∀s σ',Ext F U σ'->bT s 1 (ints (KH c m.toNat ss).1) σ' (λb=>U.size<=b)->fF σ' (Cut F U) p c ps (KH c m.toNat ss).2->R s 0 σ'):Xs.c (aW p) m U R:=by
 refine Xs.o ?_;unfold Xs.v;have h:=fF.loc.cut h;have H:=fF.room h;refine Uz h (cD rfl (gA O ?_));refine Qv (a:=.s) (λ(out:Sl) C=>∃j d,Ext F U C/\bT out 1 (ints j) C (λb=>U.size<=b)/\fF C (Cut F U) p c ps d/\j.length<=m.toNat/\j.length+pC d=pC ss/\KH c m.toNat ss=(j++(KH c (m.toNat-j.length) d).1,(KH c (m.toNat-j.length) d).2))
  (λout _=>m.toNat-out.len) ⟨[],ss,Ext.refl _ _,bT.nil _ _ _ _,h,by simp,by simp,by simp⟩ ?_
 rintro out C ⟨j,d,e,g,K,P,Q,u⟩;have N:=g.pn;refine cN (λS=>?_) λY=>?_
 ·have r:m.toNat-j.length=(m.toNat-(j.length+1))+1:=by omega
  refine S7 K (λx E w v2 e2 G=>cD rfl ?_) λz v2 e2=>cF rfl ?_
  ·have B:Ext F U v2:=e.trans (e2.sub λi hi=>hi.1);have y:=aI.bS g e2 λb _ D M=>by have:=M.2;omega
   refine y.push (vs:=[.int .i64 (x:Int)]) (λb D=>kx B.1 D) rfl rfl (by simp[dS]) O O λs' Z V L J=>?_;have W:=NU w;refine⟨⟨j++[x],E,B.dQ L λi hi=>.inr hi,by rw[HA];exact J,fF.loc.bS G L λb _ D M=>(by have:=D.2;omega),by simp;omega,by simp;omega,?_⟩,O⟩;rw[u,r,Gk w];simp
  ·have:KH c (m.toNat-j.length) d=([],d):=by rw[r];simp[KH,z]
   rw[this]at u;have A:=hR out v2 (e.trans e2.to);rw[u,kb]at A;exact A (aI.bP g e2) (K.bP e2)
 ·have X:m.toNat-j.length=0:=by omega
  rw[X]at u;have A:=hR out C e;rw[u]at A;simp only[KH,kb]at A;exact A g K
theorem PV (h:fF U F p c ps ss)(m:Int)(hm:m<0){R:Sl->Int->Hp->Prop}(hR:R ⟨none,0,0⟩ 1 U):Xs.c (aW p) m U R:=by
 refine Xs.o ?_;unfold Xs.v;exact Uz h (cD rfl (l9 O hR))
def jc:List (Nat×Nat)->List cH->List (Nat×Nat)
 | x::ps,s::ss=>if s.many != 0 then x::jc ps ss else jc ps ss
 | _,_=>[]
theorem GN:∀{ps:List (Nat×Nat)} {ss:List cH},ps.length=ss.length->(jc ps ss).length=(cK ss).length
 | [],[],_=>rfl
 | x::ps,s::ss,h=>by
  have ih:=GN (ps:=ps) (ss:=ss) (by simpa using h);simp only[jc,cK,uG]at *;split<;>simp[ih]
theorem BB:∀{ps:List (Nat×Nat)} {ss:List cH},(jc ps ss).Sublist ps
 | [],_=>by simp[jc]
 | _::_,[]=>by simp[jc]
 | x::ps,s::ss=>by
  simp only[jc];split
  ·exact BB.cons_cons x
  ·exact BB.cons x
theorem J9:∀{ps ps':List (Nat×Nat)} {ss ss':List cH},ps.length=ss.length->jc (ps++ps') (ss++ss')=jc ps ss++jc ps' ss'
 | [],_,[],_,_=>rfl
 | x::ps,_,s::ss,_,h=>by
  simp only[lO,jc,J9 (ps:=ps) (ss:=ss) (by simpa using h)];split<;>rfl
theorem Lq:∀{ps:List (Nat×Nat)} {ss:List cH} {i:Nat} {x:Nat×Nat} {s:cH},ps.length=ss.length->(jc ps ss)[i]?=some x->(cK ss)[i]?=some s->∃j:Nat,ps[j]?=some x/\ss[j]?=some s
 | [],[],_,_,_,_,h,_=>by simp[jc]at h
 | y::ps,t::ss,i,x,s,hl,h1,h2=>by
  have ih:=λi=>Lq (ps:=ps) (ss:=ss) (i:=i) (x:=x) (s:=s) (by simpa using hl);simp only[jc,cK,uG]at h1 h2;cases hm:(t.many != 0)
  ·rw[hm]at h1 h2;obtain⟨j,a,b⟩:=ih i h1 h2;exact⟨j+1,by simpa using a,by simpa using b⟩
  ·rw[hm]at h1 h2;cases i with
   | zero=>simp at h1 h2;exact⟨0,by simp[h1],by simp[h2]⟩
   | succ i=>
    obtain⟨j,a,b⟩:=ih i (by simpa using h1) (by simpa[cK]using h2);exact⟨j+1,by simpa using a,by simpa using b⟩
theorem PS (a b:List cH):cK (a++b)=cK a++cK b:=by simp[cK]
theorem TY (a b:List cH):QX (a++b)=QX a++QX b:=by simp[QX]
theorem We2 (c:cA)(a b:List Nat):iT c (a++b)=iT c a++iT c b:=by simp[iT]
theorem Rh {a b:List (Nat×Nat)}(h:a.Sublist b):(eE a).Sublist (eE b):=by
 induction h with
 | slnil=>exact List.Sublist.refl _
 | cons x _ ih=>exact(ih.cons _).cons _
 | cons_cons x _ ih=>exact(ih.cons_cons _).cons_cons _
theorem JO {h:Hp}{Q:Rg}{n3:Nat}{o:Sl}{l:List Nat}{x1 x2:Nat}{s:cH}(hb:bZ h n3 [.slice o.a o.len o.cap])(hrow:bT o 2 (iT c l) h Q)(hQ:∀b,Q b->n3<b)(hl:l.length<=2000)(hS:il h x1 x2 c s){R:aO}
 (hR:∀h' o',Ext (λb=>b=n3\/Q b) h h'->bZ h' n3 [.slice (Sl.a o') o'.len o'.cap]->bT o' 2 (iT c (l++if s.many=0 then[s.st]else[])) h' (Grow Q h)->R (s.many==0) h') :
 VU Tryz.prog ⟨248,#[],#[.pointer (some ⟨n3,0,none⟩)]⟩ [.agg #[.int .i64 (s.many:Int),.int .i64 (s.st:Int),.pointer (some ⟨x1,0,none⟩)]] [.one .b] h R:=by
 refine G8 (all := #[.agg #[.int .i64 (s.many:Int),.int .i64 (s.st:Int),.pointer (some ⟨x1,0,none⟩)],.pointer (some ⟨n3,0,none⟩)]) (by kernel_rfl) aA ?_;refine Ye.o ?_;unfold Ye.v;refine nw (cs:=[.int .i64 (s.many:Int),.int .i64 (s.st:Int),.pointer (some ⟨x1,0,none⟩)]) λv Z e d=>?_;have W:=hb.lt;have g:=e.bV hb id;have hrow:=(bT.loc o 2 (iT c l)).mono hrow (G:=λb=>Q b/\b<h.size) λb hb z=>⟨z,hb⟩;refine Jn.intro (d.fL rfl ?_);rw[wW];refine cQ (λB=>?_) λB=>?_
 ·have r:s.many=0:=by simpa using B
  rw[zC r]at hR;refine⟨λh'=>bZ h' h.size [.int .i64 (s.many:Int),.int .i64 (s.st:Int),.pointer (some ⟨x1,0,none⟩)]/\bZ h' n3 [.slice o.a o.len o.cap],⟨d,g⟩,⟨o,λh' hS=>by rw[hS.2.cell];rfl,⟨some ⟨x1,0,none⟩,λh' hS=>by rw[add_lit,hS.1.cell];rfl,?_⟩⟩⟩;refine LR (hS.bP e) λX e2=>⟨⟨e2.bV d id,e2.bV g id⟩,?_⟩;have x:=e.trans e2;have m:=aI.bP hrow x;have y:=m.1;rw[Tz]at y;refine nw (cs:=[.int .i64 (s.st:Int),.int .i64 (c.aG:Int)]) λv3 L w A=>⟨⟨(e2.trans w).bV d id,(e2.trans w).bV g id⟩,?_⟩;have p:=aI.bP m w;have N:=x.1;refine p.app (ys:=[.int .i64 (s.st:Int),.int .i64 (c.aG:Int)]) rfl rfl ?_ (by simp[dS]) ?_ ?_ nm λM H V C D=>?_
  ·intro j u hu;rw[add_lit,zH,A.cell];exact hu
  ·simp only;have:(o.len+1)*16<=2001*16:=mD O O;omega
  ·simp only;omega
  ·have K:bZ H h.size [.int .i64 (s.many:Int),.int .i64 (s.st:Int),.pointer (some ⟨x1,0,none⟩)]:=C.bV ((e2.trans w).bV d id) λE=>by have:=E.2;omega
   have J:bZ H n3 [.slice o.a o.len o.cap]:=C.bV ((e2.trans w).bV g id) λE=>by have:=hQ _ E.1;omega
   refine⟨⟨K,J⟩,J.s0 aA λv5 o5 U=>(WE o5 K O).fL rfl ?_⟩;have F:Ext (λb=>b=n3\/Q b) h v5:=(aF.to ((e.trans e2).trans w)).trans (C.sub λi hi=>.inr hi.1)|>.trans (o5.ext.sub λi hi=>.inl hi);rw[wW];refine hR v5 M F U ?_;rw[We2];have:iT c [s.st]=[.int .i64 (s.st:Int),.int .i64 (c.aG:Int)]:=rfl;rw[this];have S:=aI.mono D (G:=Grow Q h) λb _ P=>by
    rcases P with h|h
    ·exact .inl h.1
    ·exact .inr O
   exact aI.bS S o5.ext λb _ z Y=>by
    rcases z with h|h
    ·have:=hQ _ h;omega
    ·omega
 ·have r:¬s.many=0:=by simpa using B
  rw[zB r,kb]at hR;refine d.fL rfl ?_;rw[wW];exact hR v o e.to g (aI.bP (aI.mono hrow λb _ z=>.inl z.1) e)
def Al (n3:Nat)(c:cA)(l:List Nat)(h:Hp):Prop:=∃o:Sl,bZ h n3 [.slice o.a o.len o.cap]/\bT o 2 (iT c l) h (λb=>n3<b)
theorem CW {A D:List Value}{x y z:Value}{k:Nat}(hk:k=A.length)(hD:3<=D.length):(((A++D).set k x).set (k+1) y).set (k+2) z=A++[x,y,z]++D.drop 3:=by
 subst hk
 match D,hD with
 | d0::d1::d2::D,_=>simp[List.set_append]
theorem GB {i:Nat}{s:cH}(hs:ss[i]?=some s):QX (ss.take (i+1))=QX (ss.take i)++(if s.many=0 then[s.st]else[]):=by
 rw[j6,hs,TY]
 congr 1
 by_cases hm:s.many=0<;>simp[QX,hm]
theorem GG {i:Nat}{s:cH}(hs:ss[i]?=some s):cK (ss.take (i+1))=cK (ss.take i)++(if s.many=0 then[]else[s]):=by
 rw[j6,hs,PS]
 congr 1
 by_cases hm:s.many=0<;>simp[cK,hm]
theorem Cv {i:Nat}{x:Nat×Nat}{s:cH}(hl:ps.length=ss.length)(hx:ps[i]?=some x)(hs:ss[i]?=some s):jc (ps.take (i+1)) (ss.take (i+1))=jc (ps.take i) (ss.take i)++(if s.many=0 then[]else[x]):=by
 rw[j6,j6,hs,hx,J9 (by simp[hl])]
 congr 1
 by_cases hm:s.many=0<;>simp[jc,hm]
theorem WhV (l:List cH):(QX l).length<=l.length:=by unfold QX;rw[zk];exact oV _ _
theorem Wir (l:List cH):(cK l).length<=l.length:=oV _ _
theorem Tp (h:fF U F p c ps ss){sl:Sl}{rb n3:Nat}{cs:List Value}{σ1:Hp}(e1:aF U σ1)(hlen:sl.len=ss.length)(hn3:U.size<=n3)(hE:ss≠[]->sI U F p ps ss sl rb cs/\sl.len<=sl.cap/\cs.length=sl.cap*3)(h0:Al n3 c [] σ1){R:Sl->Hp->Prop}
 (hR:∀h' nD,Ext (λb=>F b/\b≠p/\b∉eE ps\/n3<=b) σ1 h'->Al n3 c (QX ss) h'->(nD=sl/\QX ss=[]/\cK ss=ss/\jc ps ss=ps/\Ext (λb=>n3<=b) σ1 h'\/(bT nD 3 (dR (jc ps ss) (cK ss)) h' (λb=>F b/\b≠p/\b∉eE ps)))->R nD h') :
 Wi.c sl ⟨248,#[],#[.pointer (some ⟨n3,0,none⟩)]⟩ σ1 R:=by
 refine Wi.o ?_;unfold Wi.v;refine Wn.o ?_;unfold Wn.v;have hfew:=h.qH;have r:=h.len;refine Qv (a:=bO) (λ(t:Int) h'=>∃i:Nat,t=(i:Int)/\i<=ss.length/\Ext (λb=>n3<=b) σ1 h'/\Al n3 c [] h'/\QX (ss.take i)=[]/\cK (ss.take i)=ss.take i/\jc (ps.take i) (ss.take i)=ps.take i) (λt _=>ss.length-t.toNat) ⟨0,rfl,O,Ext.refl _ _,h0,by simp[QX],by simp[cK],by simp[jc]⟩ ?_;rintro t h' ⟨i,rfl,hi,e,⟨o,V,aa⟩,q1,q2,q3⟩;have eo:∀{v:Hp},Ext (λb=>n3<=b) σ1 v->Ext (λb=>n3<=b) U v:=λe=>e1.to.trans e;refine cN (λhlt=>?_) λhge=>?_
 ·have af:i<ss.length:=by omega
  obtain⟨E,hcap,hcl⟩:=hE (by rintro rfl;simp at af);obtain⟨xx,s,hp,K,hS⟩:=h.jM af;have eg:=Ko hp K;have hrl:=E.bV.lt;have hSl:=hS.lt;rw[E.a];refine ix O O ?_;rw[add_lit,show 0+(i:Int).toNat*3=3*i by omega];refine xA (e:=0) ((eo e).bV E.bV O) (E.get eg.1) (E.get eg.2.1) (E.get eg.2.2) ?_;have hn3h:n3<h'.size:=V.lt;refine JO V aa (λb h=>h) aA (hS.bS (eo e) O O) λh2 o2 e2 ae A=>?_;have e2:Ext (λb=>n3<=b) h' h2:=e2.sub λb g=>by omega
  have A:=aI.mono A (G:=λb=>n3<b) λb _ g=>by
   rcases g with h|h
   ·exact h
   ·omega
  refine cQ (λhm=>?_) λhm=>?_
  ·-- the first that goes
   have x:s.many=0:=by simpa using hm
   rw[zC x,sN]at A;have C:((i:Int)==(-1))=false:=by rw[mX];omega
   show If ((i:Int)==(-1)) _ _;refine cD C (cT (m:=i+1) O O ?_);have q1':QX (ss.take (i+1))=[s.st]:=by rw[GB K,q1,zC x];rfl
   have P:cK (ss.take (i+1))=ss.take i:=by rw[GG K,q2,zC x,kb]
   have q3':jc (ps.take (i+1)) (ss.take (i+1))=ps.take i:=by rw[Cv r hp K,q3,zC x,kb]
   have hke:∀k,k<=ss.length->(dR (jc (ps.take k) (ss.take k)) (cK (ss.take k))).length=3*(cK (ss.take k)).length:=λk _=>KE (GN (by simp[r]));have Eb2:bZ h2 rb cs:=(eo (e.trans e2)).bV E.bV O;refine UC (a:=bO) (bb:=bO) (λ(i1 j1:Int) v=>∃j:Nat,j1=(j:Int)/\i<j/\j<=ss.length/\i1=((cK (ss.take j)).length:Int)/\(cK (ss.take j)).length<j/\Ext (λb=>b=rb\/n3<=b) σ1 v/\Al n3 c (QX (ss.take j)) v ∧
    bZ v rb (dR (jc (ps.take j) (ss.take j)) (cK (ss.take j))++cs.drop (3*(cK (ss.take j)).length))) (λ_ j1 _=>ss.length-j1.toNat) ?_ ?_
   ·refine⟨i+1,rfl,O,O,?_,?_,(e.trans e2).sub λb g=>.inr g,?_,?_⟩
    ·rw[P,zY];omega
    ·rw[P,zY];omega
    ·rw[q1'];exact⟨o2,ae,A⟩
    ·rw[P,q3',zY,qW O];have:dR (ps.take i) (ss.take i)++cs.drop (3*i)=cs:=by
      have h1:(dR (ps.take i) (ss.take i)).length=3*i:=by rw[KE (by simp[r]),zY];omega
      apply zy;intro k;rcases ku k (3*i)with hk|hk
      ·rw[zd O];have h2:(dR ps ss)[k]?=(dR (ps.take i) (ss.take i))[k]? := by
        conv=>lhs;rw[←oJ i ps,←oJ i ss,VM (by simp[r])]
        rw[zd O]
       rw[←h2];have h3:k<(dR ps ss).length:=by rw[KE r];omega
       rw[cW h3];exact(E.get (cW h3)).symm
      ·rw[zp O,lg,h1]
       congr 1;omega
     rw[this];exact Eb2
   ·rintro i1 j1 v ⟨j,rfl,hij,hj,rfl,hKj,ev,⟨o3,D,M⟩,z⟩;have y:=hke j hj;have evo:Ext (λb=>b=rb\/n3<=b) U v:=e1.to.trans ev;refine cN (λhlt2=>?_) λhge2=>?_
    ·have hj':j<ss.length:=by omega
     obtain⟨yy,u,Q,H,ac⟩:=h.jM hj';have S:=Ko Q H;have hSul:=ac.lt;have Z:=Q1 Q;refine ix O O ?_;rw[add_lit,show 0+(j:Int).toNat*3=3*j by omega];have get:∀d,d<3->∀w,(dR ps ss)[3*j+d]?=some w->(dR (jc (ps.take j) (ss.take j)) (cK (ss.take j))++cs.drop (3*(cK (ss.take j)).length))[3*j+d]?=some w:=by
      intro d hd w hw;rw[zp O,lg,y,show 3*(cK (ss.take j)).length+(3*j+d-3*(cK (ss.take j)).length)=3*j+d by omega];exact E.get hw
     refine xA (e:=0) z (get 0 O _ S.1) (get 1 O _ S.2.1) (get 2 O _ S.2.2) (Jt λv5 X b5=>b5.rI rfl (b5.rI rfl (b5.rP rfl ?_)));have hn3v:n3<v.size:=D.lt;have Y:=aI.mono M (G:=λb=>n3<b/\b<v.size) λb g hf=>⟨hf,g⟩;have J:=WhV (ss.take j);rw[zY]at J;refine JO (X.bV D id) (aI.bP Y X) (λb g=>g.1) O ((ac.bS evo (λW=>by rcases W with h|h;exact E.fr.2.2 (h▸Z.1);omega) (λW=>by rcases W with h|h;exact E.fr.2.2 (h▸Z.2);omega)).bP X) λv6 o6 e6 ab B=>?_;have hsz5:=X.1;have B:=aI.mono B (G:=λb=>n3<b) λb _ g=>by
      rcases g with h|h
      ·exact h.1
      ·omega
     have b6:bZ v6 v.size [.int .i64 (u.many:Int),.int .i64 (u.st:Int),.pointer (some ⟨yy.1,0,none⟩)]:=e6.bV b5 λW=>by rcases W with h|h;omega;have:=h.2;omega
     have hrb:rb<U.size:=E.bV.lt;have L:=e6.bV (X.bV z id) λW=>by rcases W with h|h;omega;have:=h.1;omega
     have ah:Ext (λb=>b=rb\/n3<=b) σ1 v6:=(ev.trans X.to).trans (e6.sub λb g=>by rcases g with h|h;omega;have:=h.1;omega);rw[←GB H]at B;have st:=GG H;have kt:=Cv r Q H;by_cases hum:u.many=0
     ·rw[zC hum,kb]at st kt;have:(u.many==0)=true:=by simp[hum]
      rw[this];refine cD rfl (cT (m:=j+1) O O ⟨⟨j+1,rfl,O,O,?_,?_,ah,⟨o6,ab,B⟩,?_⟩,O⟩)
      ·rw[st]
      ·rw[st];omega
      ·rw[st,kt];exact L
     ·rw[zB hum]at st kt;have:(u.many==0)=false:=by simp[hum]
      rw[this];refine cF rfl (b6.rI rfl (b6.rI rfl (b6.rP rfl (ix O O ?_))));rw[add_lit,show 0+((cK (ss.take j)).length:Int).toNat*3=3*(cK (ss.take j)).length by omega];have hlen6:(dR (jc (ps.take j) (ss.take j)) (cK (ss.take j))++cs.drop (3*(cK (ss.take j)).length)).length=cs.length:=by
       rw[zJ,y,ky];omega
      refine L.s1 O λv7 o7 b7=>b7.s1 aE λv8 o8 b8=>b8.s1 aE λv9 o9 b9=>?_;rw[kC,CW y.symm (by rw[ky];omega),List.drop_drop]at b9;have ev9:Ext (λb=>b=rb\/n3<=b) σ1 v9:=((ah.trans (o7.ext.sub λb g=>.inl g)).trans (o8.ext.sub λb g=>.inl g)).trans (o9.ext.sub λb g=>.inl g);have ad:Ext (· = rb) v6 v9:=(o7.ext.trans o8.ext).trans o9.ext;refine cT (m:=(cK (ss.take j)).length+1) O O (cT (m:=j+1) O O ⟨⟨j+1,rfl,O,O,?_,?_,ev9,⟨o6,ad.bV ab O,aI.bS B ad λb _ g he=>O⟩,?_⟩,O⟩)
      ·rw[st];simp
      ·rw[st];simp;omega
      ·rw[st,kt,VM (GN (by simp[r]))];simp only[zJ,zS,kr,dR];rw[show 3*((cK (ss.take j)).length+(0+1))=3*(cK (ss.take j)).length+3 by omega];exact b9
    ·have hjj:j=ss.length:=by omega
     subst hjj;rw[lL]at *;have N:ps.take ss.length=ps:=by rw[←r,lL]
     rw[N]at z y;have J:=Wir ss;refine jA O O O ?_;have hK3:3*(cK ss).length<=cs.length:=by omega
     have hlt3:(cK ss).length<ss.length:=hKj;rw[zB O];simp only[E.a,ze,add_lit,zH];refine⟨by simp[dS],?_⟩;simp only;have hz:(List.replicate (sl.len-(cK ss).length) [Value.int .i64 0,.int .i64 0,.pointer none]).flatten.length=3*(sl.len-(cK ss).length):=by
      rw[xr,vV,yx];simp;omega
     refine V9 (o:=(cK ss).length*3) (i:=0) z (by rw[hz,zJ,y,ky];omega) λv10 fX b10=>?_;refine jA (lo:=0) O O O ?_;have ag:Ext (λb=>b=rb\/n3<=b) σ1 v10:=ev.trans (fX.ext.sub λb g=>.inl g);refine hR v10 _ (ag.sub λb g=>?_) ⟨o3,WE fX D (by have:=E.bV.lt;omega),aI.bS M fX.ext λb _ g he=>by have:=E.bV.lt;omega⟩ (.inr ?_)
     ·rcases g with rfl|h
      ·exact .inl E.fr
      ·exact .inr h
     ·refine⟨by rw[KE (GN r)];simp;omega,.inr ⟨rb,_,E.fr,?_,b10,?_,?_,?_⟩⟩
      ·simp only[E.a];split<;>simp[add_lit]
      ·simp only;omega
      ·simp only[zJ,zY,ky,hz,y];omega
      ·rw[KE (GN r),kC,show(cK ss).length*3=3*(cK ss).length by omega];rw[zl,pN (by rw[zY,zJ,y];omega),yP,Nat.min_self];rw[pN O,lN O]
  ·have x:¬s.many=0:=by simpa using hm
   rw[zB x,kb]at A;refine cT (m:=i+1) O O ⟨⟨i+1,rfl,O,e.trans e2,⟨o2,ae,A⟩,?_,?_,?_⟩,O⟩
   ·rw[GB K,q1,zB x];rfl
   ·rw[GG K,q2,zB x,j6,K];rfl
   ·rw[Cv r hp K,q3,zB x,j6,hp];rfl
 ·have hii:i=ss.length:=by omega
  subst hii;rw[lL]at *;have N:ps.take ss.length=ps:=by rw[←r,lL]
  rw[N]at q3;have C:((-1:Int)==(-1))=true:=rfl;refine cF C (hR h' sl (e.sub λb g=>.inr g) ?_ (.inl ⟨rfl,q1,q2,q3,e⟩));rw[q1];exact⟨o,V,aa⟩
theorem fF.nD (h:fF U F p c ps ss):∃sl:Sl,bZ U p [.int .i64 (c.size:Int),.int .i64 (c.aG:Int),.int .i64 (c.batch:Int),.slice sl.a sl.len sl.cap]/\sl.len=ss.length/\bT sl 3 (dR ps ss) U (λb=>F b/\b≠p/\b∉eE ps) ∧
 ∃rb cs,(ss≠[]->sI U F p ps ss sl rb cs/\sl.len<=sl.cap/\cs.length=sl.cap*3):=by
 obtain⟨sl,m,i⟩:=h.hd;have r:=i.1;rw[KE h.len]at r;refine⟨sl,m,O,i,?_⟩;rcases i.2 with⟨h0,_⟩|⟨b,cs,hq,ha,hbb,hle,hcl,ht⟩
 ·exact⟨0,[],λg=>by have:=pY.2 g;omega⟩
 ·refine⟨b,cs,λ_=>⟨⟨ha,hbb,hq,λ{j v} d=>?_,?_⟩,hle,hcl⟩⟩
  ·rw[←ht,zm]at d;split at d
   ·exact d
   ·cases d
  ·have:=congrArg List.length ht;rw[zY,KE h.len]at this;omega
theorem Wlp (h:fF U F p c ps ss){R:Sl->Hp->Prop}
 (hR:∀o σ',Ext F U σ'->bT o 2 (iT c (QX ss)) σ' (λb=>U.size<=b)->fF σ' (Cut F U) p c (jc ps ss) (cK ss)->R o σ'):Ya.c (aW p) U R:=by
 refine Ya.o ?_;unfold Ya.v;have h:=fF.loc.cut h;obtain⟨sl,a,C,A,W,cs,M⟩:=h.nD;refine Uz h (cD rfl (nw (cs:=[.slice none 0 0]) λX S e1 D=>bL ((e1.bV a id).rS rfl ?_)));refine Tp h e1 C (zE _) M ⟨⟨none,0,0⟩,D,bT.nil _ _ _ _⟩ λV nD e2 ⟨o,w,E⟩ u=>bL ?_;have K:=a.lt;have g:=h.nd;have d:=Rh (BB (ps:=ps) (ss:=ss));simp only[zr]at g;refine(e2.bV (e1.bV a id) λJ=>by rcases J with h|h;exact h.2.1 rfl;omega).s1 aA λv3 o3 G=>?_;have B:=WE o3 w (by have:=w.lt;omega);refine B.wc rfl (hR o v3 ?_ (aI.bS (aI.mono E λb _ a=>O) o3.ext λb _ a m=>O) ?_)
 ·refine(e1.to.dQ e2 λb a=>?_).dQ o3.ext λb a=>?_
  ·rcases a with h|h
   ·exact .inl h.1.1
   ·exact .inr h
  ·subst a;exact .inl h.fp.1
 ·have y:∀b,b∈eE ps->b<U.size->¬(Cut F U b/\b≠p/\b∉eE ps\/U.size<=b):=λb a P J=>by
   rcases J with h|h
   ·exact h.2.2 a
   ·omega
  refine⟨⟨nD,G,?_⟩,λi x s N Q=>?_,h.fp,λb a=>h.fb b (d.subset a),?_,GN h.len,h.ok,h.qT.sublist tP⟩
  ·rcases u with⟨rfl,_,q2,q3,ex⟩|hr
   ·rw[q2,q3];exact aI.bS (aI.bS (aI.bP A e1) ex λb _ a m=>by have:=a.1.2;omega) o3.ext λb _ a m=>a.2.1 m
   ·exact aI.bS (aI.mono hr λb _ a=>⟨a.1,a.2.1,λr=>a.2.2 (d.subset r)⟩) o3.ext λb _ a m=>a.2.1 m
  ·obtain⟨j,z,H⟩:=Lq h.len N Q;have L:=h.sp j x s z H;have r:=Q1 z;have C:=L.lt;exact((L.bP e1).bS e2 (y _ r.1 C.1) (y _ r.2 C.2)).bS o3.ext (λm=>g.1 (m▸r.1)) (λm=>g.1 (m▸r.2))
  ·simp only[zr];exact⟨λr=>g.1 (d.subset r),g.2.sublist d⟩
theorem Mq {x:Int}{k i:Nat}{s:cH}(hc:0<c.size)(hk:ld c ss x=some k)(hs:ss[k]?=some s)(v:Bool)(y:Int):ld c (ss.set k (s.put i v)) y=ld c ss y:=by
 have b:∀t:cH,∀j w z,idx c (t.put j w) z=idx c t z:=λt j w z=>by unfold idx cH.put;simp only[oP]
 unfold ld;have a:=(cX.1 hs).1;have:(ss.set k (s.put i v)).map (λs=>(idx c s y).isSome)=ss.map (λs=>(idx c s y).isSome):=by
  apply zy;intro j;simp only[zZ];by_cases hjk:j=k
  ·subst hjk;rw[zO a,hs];simp[b]
  ·rw[zh (Ne.symm hjk)]
 have d:∀l:List cH,l.findIdx? (λs=>(idx c s y).isSome)=(l.map λs=>(idx c s y).isSome).findIdx? id:=λl=>by rw[List.findIdx?_map];rfl
 rw[d,d,this]
def kF (c:cA)(ss:List cH)(xs:List Int):Prop:=(∀x∈xs,eB c ss x=some true)/\xs.Nodup
theorem Ac {x:Int}{b:Bool}(h:eB c ss x=some b):∃k s i,ld c ss x=some k/\ss[k]?=some s/\obj c s x=some i/\s.is i=b:=by
 unfold eB at h;split at h
 ·rename_i k hk;split at h
  ·rename_i s hs;cases ho:obj c s x with
   | none=>rw[ho]at h;cases h
   | some i=>rw[ho]at h;exact⟨k,s,i,hk,hs,ho,by simpa[cH.is]using h⟩
  ·cases h
 ·cases h
theorem AS {x:Int}{k i:Nat}{s:cH}(hk:ld c ss x=some k)(hs:ss[k]?=some s)(ho:obj c s x=some i):fH c ss x=ss.set k (s.put i false):=by
 simp[fH,hk,hs,ho]
theorem Rk {x y:Int}(hc:0<c.size)(hx:eB c ss x=some true)(hne:y≠x):eB c (fH c ss x) y=eB c ss y:=by
 obtain⟨k,s,i,u,d,A,_⟩:=Ac hx;rw[AS u d A];have g:=(cX.1 d).1;have a:=Mq hc u d false (i:=i) y;have p:∀t:cH,∀j w z,obj c (t.put j w) z=obj c t z:=λt j w z=>by unfold obj idx at_ cH.put;simp only[oP]
 cases hy:ld c ss y with
 | none=>rw[DA (a.trans hy),DA hy]
 | some m=>
  by_cases hmk:m=k
  ·subst hmk;rw[Uh (a.trans hy) (zO g),Uh hy d,p];cases hoy:obj c s y with
   | none=>rfl
   | some j=>
    simp only[ze,Option.some.injEq];have r:i≠j:=λe=>by
     subst e;exact hne (((U8 hc).1 hoy).1.trans ((U8 hc).1 A).1.symm)
    simp[cH.is,cH.put,zQ,zh r]
  ·have b:m<ss.length:=(n4.1 hy).1;rw[Uh (a.trans hy) ((zh (Ne.symm hmk)).trans (cW b)),Uh hy (cW b)]
theorem kF.next {x:Int}{xs:List Int}(hc:0<c.size)(h:kF c ss (x::xs)):kF c (fH c ss x) xs:=by
 have a:=zr.1 h.2;refine⟨λy b=>?_,a.2⟩;rw[Rk hc (h.1 x aA) λe=>a.1 (e▸b)];exact h.1 y (by simp[b])
theorem IG {xs:List Int}(h:iI c ss xs=0):kF c ss xs:=by
 unfold iI at h;split at h
 ·cases h
 ·rename_i h1;split at h
  ·cases h
  ·rename_i h2;simp only[nO,not_or,sg,mC,Bool.not_eq_false',zV,zU]at h1 h2;refine⟨λx d=>?_,h2.2⟩;have a:=h1 x d;have b:=h2.1 x d;cases ht:eB c ss x with
   | none=>rw[ht]at a;simp at a
   | some v=>
    cases v
    ·rw[ht]at b;exact absurd rfl b
    ·rfl
theorem WgW {sl:Sl}{xs:List Int}{X:Rg}(h:fF U F p c ps ss)(hs:cV sl 1 (xs.map (Value.int .i64)) U X)(hX:∀b,X b->¬F b)(hi:∀x∈xs,iP x)(hA:kF c ss xs)(hl:xs.length<=1000000){K:aP}
 (hK:∀σ',Ext F U σ'->fF σ' F p c ps (xs.foldl (fH c) ss)->K σ') :
 X6 [bO] (λI1=>I1 0 U) λJ3 (t49:Int) v6=>If (decide (t49<((sl.len:Nat):Int))) (Ix sl.a sl.len t49 1 λa51=>gM .i64 a51 v6 λaddr1=>
  X2.c (aW p) addr1 v6 λvx v7=>bW vx λa57=>fY (a57.add 2) v7 λt59=>ZR.c t59 addr1 v7 λt61 v8=>bW vx λa63=>gM .i64 ((a63.add 0).add 0) v8 λt66=>
  Ar .i64 (t66-1) λt67=>bW vx λa68=>dX ((a68.add 0).add 0) (.int .i64 t67) v8 λv9=>Ar .i64 (t49+1) λt71=>J3 t71 v9) (K v6):=by
 have hlen:sl.len=xs.length:=by have:=hs.1;simp at this;omega
 have B:0<c.size:=by have:=h.ok.1;omega
 refine Qv (a:=bO) (λ(t:Int) J=>∃(i:Nat) (r:List cH),t=(i:Int)/\i<=xs.length/\Ext F U J/\fF J F p c ps r/\kF c r (xs.drop i)/\(xs.drop i).foldl (fH c) r=xs.foldl (fH c) ss) (λt _=>xs.length-t.toNat) ⟨0,ss,rfl,O,Ext.refl _ _,h,by simpa using hA,by simp⟩ ?_;rintro t J ⟨i,r,rfl,hil,e,N,y,H⟩;refine cN (λhlt=>?_) λhge=>?_
 ·have w:i<xs.length:=by omega
  have hx:xs[i]?=some xs[i]:=cW w;have hd:xs.drop i=xs[i]::xs.drop (i+1):=xg w;rw[hd]at y H;refine(aH.bS hs e λb _ W hF=>hX b W hF).lQ hx ?_;obtain⟨k,s,j,L,g,M,D⟩:=Ac (y.1 xs[i] mY);have z:=hi xs[i] (zt w);refine DF N xs[i] z (λhn=>by rw[L]at hn;cases hn) λk' nD rb cs C V W E=>bL ?_;rw[L]at C;cases C;obtain⟨Y,s',Z,G,R⟩:=N.jM V;rw[g]at G;cases G;have eg:=Ko Z g;have hj:=((U8 B).1 M).2;refine E.bV.rP (x:=some ⟨Y.1,0,none⟩) (E.get eg.2.2) ?_;refine Ni R z M D λv8 e8 Q=>bL ?_;have A:=Q1 Z;have S:¬(rb=Y.1\/rb=Y.2):=λhh=>E.fr.2.2 (by rcases hh with h|h<;>rw[h];exact A.1;exact A.2)
  have hml:=Ee s;have d:=Au hj false;rw[D]at d;have hsl:=R.len;have hnl:=R.ok.kN;have u:((s.put j false).many:Int)=s.many-1:=by simp at d;omega
  refine(e8.bV E.bV S).fL (E.get eg.1) (ar O O (bL ?_));simp only[add_lit,kC];rw[←u];refine N.px (s':=s.put j false) Z g rfl e8 Q W E λv9 e9 P=>?_;refine cT (m:=i+1) O O ⟨⟨i+1,_,rfl,O,e.trans e9,P,?_,?_⟩,O⟩
  ·have:=kF.next B y
   rwa [AS L g M]at this
  ·rw[re,AS L g M]at H;exact H
 ·have:i=xs.length:=by omega
  subst this;rw[List.drop_length,List.foldl_nil]at H;subst H;exact hK J e N
theorem Wnd (h:fF U F p c ps ss){sl:Sl}{xs:List Int}{X:Rg}(hs:cV sl 1 (xs.map (Value.int .i64)) U X)(hX:∀b,X b->¬F b)(hi:∀x∈xs,iP x)(hl:xs.length<=1000000)(hcap:sl.len<=sl.cap){R:Sl->Int->Hp->Prop}
 (h0:iI c ss xs≠0->R ⟨none,0,0⟩ (iI c ss xs) U)
 (h1:iI c ss xs=0->∀o σ',Ext F U σ'->bT o 2 (iT c (QX (xs.foldl (fH c) ss))) σ' (λb=>U.size<=b)->fF σ' (Cut F U) p c (jc ps (xs.foldl (fH c) ss)) (cK (xs.foldl (fH c) ss))->R o 0 σ') :
 Zd.c (aW p) sl U R:=by
 refine Zd.o ?_;unfold Zd.v;have hlen:sl.len=xs.length:=by have:=hs.1;simp at this;omega
 refine Uz h (cD rfl ?_);have V:∀i,(xs.take i).any (λx=>eB c ss x==some false)=true\/¬(xs.take i).Nodup->(∀x∈xs,(eB c ss x).isSome=true)->iI c ss xs=9:=by
  intro i d hall;unfold iI;rw[zB,zC]
  ·rcases d with d|d
   ·rw[jV]at d;obtain⟨x,u,N⟩:=d;have:xs.any (λx=>eB c ss x==some false)=true:=jV.2 ⟨x,vO u,N⟩;rw[this];rfl
   ·have:¬xs.Nodup:=λE=>d (E.sublist (Co _ _));simp[this]
  ·simp only[sg,mC];intro x u;have:=hall x u;cases ht:eB c ss x
   ·rw[ht]at this;cases this
   ·simp
 refine UC (a:=.b) (bb:=bO) (λ(V:Bool) (t:Int) B=>∃i:Nat,t=(i:Int)/\i<=xs.length/\B=U/\(∀x∈xs.take i,(eB c ss x).isSome=true)/\(V=true↔(xs.take i).any (λx=>eB c ss x==some false)=true\/¬(xs.take i).Nodup)) (λ_ t _=>xs.length-t.toNat)
  ⟨0,rfl,O,rfl,by simp,by simp⟩ ?_
 rintro A t B ⟨i,rfl,hil,rfl,g,C⟩;refine cN (λhlt=>?_) λhge=>?_
 ·have D:i<xs.length:=by omega
  have u:xs[i]?=some xs[i]:=cW D;have P:=hi xs[i] (zt D);have G:xs.take (i+1)=xs.take i++[xs[i]]:=by rw[j6,u];rfl
  refine hs.lQ u (EU h xs[i] P (λb d=>cD rfl ?_) λE=>cF rfl ?_)
  ·have w:∀x∈xs.take (i+1),(eB c ss x).isSome=true:=by
    rw[G];intro x u;rcases zK.1 u with h1|h1
    ·exact g x h1
    ·simp at h1;subst h1;rw[d];rfl
   have fin:∀H:Bool,(H=true↔(xs.take (i+1)).any (λx=>eB c ss x==some false)=true\/¬(xs.take (i+1)).Nodup)->Ar .i64 ((i:Int)+1) λs=>
    (∃j:Nat,s=(j:Int)/\j<=xs.length/\B=B/\(∀x∈xs.take j,(eB c ss x).isSome=true)/\(H=true↔(xs.take j).any (λx=>eB c ss x==some false)=true\/¬(xs.take j).Nodup))/\xs.length-s.toNat<xs.length-(i:Int).toNat:=
    λH hr1=>cT (m:=i+1) O O ⟨⟨i+1,rfl,O,rfl,w,hr1⟩,O⟩
   have Y:∀y:Int,(xs.take i++[y]).Nodup↔(xs.take i).Nodup/\y∉xs.take i:=λy=>by
    rw[nB];constructor
    ·exact λh=>⟨h.1,λM=>h.2.2 y M y aA rfl⟩
    ·exact λh=>⟨h.1,by simp,λa ha z hz e=>by simp at hz;subst hz;exact h.2 (e▸ha)⟩
   have ex:(xs.take (i+1)).any (λx=>eB c ss x==some false)=true\/¬(xs.take (i+1)).Nodup↔(A=true\/b=false)\/xs[i]∈xs.take i:=by
    rw[G,Y,List.any_append,C];simp only[List.any_cons,List.any_nil,Bool.or_false,nO,d];have Z:((some b==some false)=true)↔b=false:=by cases b<;>simp
    rw[Z];constructor
    ·rintro((h|h)|h)
     ·exact .inl (.inl (.inl h))
     ·exact .inl (.inr h)
     ·by_cases E:(xs.take i).Nodup
      ·by_cases M:xs[i]∈xs.take i
       ·exact .inr M
       ·exact absurd ⟨E,M⟩ h
      ·exact .inl (.inl (.inr E))
    ·rintro(((h|h)|h)|h)
     ·exact .inl (.inl h)
     ·exact .inr λL=>h L.1
     ·exact .inl (.inr h)
     ·exact .inr λL=>L.2 h
   have J1:∀r:Bool,(r=true↔A=true\/b=false)->bX (λH v4=>Ar .i64 ((i:Int)+1) λs=>
    (∃j:Nat,s=(j:Int)/\j<=xs.length/\v4=B/\(∀x∈xs.take j,(eB c ss x).isSome=true)/\(H=true↔(xs.take j).any (λx=>eB c ss x==some false)=true\/¬(xs.take j).Nodup))/\xs.length-s.toNat<xs.length-(i:Int).toNat) λJ2=>
    If r (J2 true B) (fD sl 1 0 (i:Int) (sl.cap:Nat) λt41=>Ww.c t41 xs[i] B λt43 v5=>J2 t43 v5):=by
    intro r hr;refine bX.intro ?_;cases r
    ·refine cD rfl ?_;refine jA (lo:=0) O O O ?_;have K:cV ⟨if sl.cap=0 then sl.a else sl.a.map (·.add (0*1)),i-0,sl.cap-0⟩ 1 ((xs.take i).map (Value.int .i64)) B X:=by
      refine⟨by simp;omega,?_⟩;rcases hs.2 with h0|⟨b',o',cs',hf',ha',hb',hc'⟩
      ·left;have:xs=[]:=by simpa using h0
       simp[this]
      ·refine .inr ⟨b',o',cs',hf',?_,hb',λj hj=>?_⟩
       ·rw[zB O,ha'];simp[add_lit]
       ·simp only[zk,zY]at hj;rw[hc' j aE,List.map_take,zm,zC O]
     refine G6 K aE _ (fin _ ?_);rw[ex,←hr];simp
    ·refine cF rfl (fin true ?_);rw[ex,←hr];simp
   refine bX.intro ?_;cases A
   ·refine cD rfl (J1 _ ?_);cases b<;>simp
   ·exact cF rfl (J1 _ aA)
  ·have:iI c ss xs=8:=by
    unfold iI;rw[zC];exact jV.2 ⟨xs[i],zt D,by rw[E];rfl⟩
   have h0:=h0 (by rw[this];decide);rw[this]at h0;exact h0
 ·have:i=xs.length:=by omega
  subst this;rw[lL]at *;cases A
  ·refine cD rfl ?_;have hE:iI c ss xs=0:=by
    unfold iI;have h2:¬(xs.any (λx=>eB c ss x==some false)=true\/¬xs.Nodup):=λL=>by have:=C.2 L;cases this
    rw[zB,zB]
    ·simp only[not_or,sg,Decidable.not_not]at h2;rw[h2.1];simp[h2.2]
    ·simp only[sg,mC];intro x u;have:=g x u;cases ht:eB c ss x
     ·rw[ht]at this;cases this
     ·simp
   refine WgW (fF.loc.cut h) hs (λb d hf=>hX b d hf.1) hi (IG hE) hl λv6 e6 W=>?_;refine Wlp W λo aa S Q J=>?_;exact h1 hE o aa ((e6.trans S).sub λb d=>d.1) (aI.mono Q λb _ d=>kx e6.1 d) (fF.loc.mono J λb _ d=>d.1)
  ·refine cF rfl ?_;have h9:=V xs.length (by rw[lL];exact C.1 rfl) g;have h0:=h0 (by rw[h9];decide);rw[h9]at h0;exact h0
theorem σ {x y:Sl}{a o b o':Nat}{cs ds:List Value}(hx:x.a=some ⟨a,o,none⟩)(hy:y.a=some ⟨b,o',none⟩)(ha:bZ U a cs)(hb:bZ U b ds)(hne:a≠b)(hd:ds≠[]){K:aO}(hK:K false U) :
 uI Tryz.prog 320 [.slice x.a x.len x.cap,.slice y.a y.len y.cap] U K:=by
 rintro w rfl;obtain⟨d,ha⟩:=ha;obtain⟨g,hb⟩:=hb;refine⟨false,w,?_,.refl _,hK⟩;rw[hx,hy,run_callFunc_extern Tryz.func320 (by kernel_rfl) (by kernel_rfl) (by kernel_rfl) (e:=Extern.SlicesOverlaps.overlaps #[272,272] #[4]) (by kernel_rfl)];have:=Lib.run_overlaps_apart (P:=Tryz.prog) w 272 4 279 Tryz.underlying272 3 Tryz.sizeOf279
  ⟨a,o,none⟩ ⟨b,o',none⟩ x.len x.cap y.len y.cap hne d g cs.length ds.length (by simp[World.shape?,ha]) (by simp[World.shape?,hb]) (by simpa using hd) (by simp[World.frozen?,ha]) (by simp[World.frozen?,ha])
 rw[this];rfl
theorem ζ {Q:Rg}{s:Sl}{xs:List Value}{i m vb:Nat}{x y z:Value}(h:bT s 3 xs U Q)(hlen:s.len=m)(hm:m<=2000)(hi:i<=m)(hv:bZ U vb [x,y,z])(hvb:¬Q vb)(h1:∀v∈xs,dS v=true)(h2:dS x=true/\dS y=true/\dS z=true)
 {R:Sl->Hp->Prop} (hR:∀s' σ',Ext Q U σ'->bT s' 3 (xs.take (3*i)++[x,y,z]++xs.drop (3*i)) σ' (Grow Q U)->R s' σ') :
 Wl.c s (i:Int) ⟨some ⟨vb,0,none⟩,1,1⟩ U R:=by
 refine Wl.o ?_;unfold Wl.v;have hxl:=h.1;have hcap:s.len<=s.cap:=by
  rcases h.2 with⟨h0,h0'⟩|⟨b,cs,_,_,_,K,_⟩
  ·omega
  ·exact K
 have ad:Rd U (some ⟨vb,0,none⟩) [x,y,z]:=by
  intro j u hu;rw[add_lit,zH,hv.cell];exact hu
 have ho:∀v∈[x,y,z],dS v=true:=by simp[h2]
 refine jA O O O (cD rfl (cQ (λhe=>?_) λhe=>?_))
 ·have aa:i=m:=by
   have:(i:Int)=((s.len:Nat):Int):=by simpa using he
   omega
  refine h.app (ys:=[x,y,z]) rfl rfl ad ho aD aD nm λs' h' hl' e' ho'=>hR s' h' e' ?_
  rw[lN O,D9 O,kb];exact ho'
 ·have aa:i<m:=by
   have:¬(i:Int)=((s.len:Nat):Int):=by simpa using he
   omega
  obtain⟨b,cs,P,Y,E,K,M,ht⟩:∃b cs,Q b/\s.a=some ⟨b,0,none⟩/\bZ U b cs/\s.len<=s.cap/\cs.length=s.cap*3/\cs.take xs.length=xs:=by
   rcases h.2 with⟨h0,_⟩|h
   ·omega
   ·exact h
  have G:vb≠b:=λe=>hvb (e▸P);have w:∀j v,xs[j]?=some v->cs[j]?=some v:=λj v p=>by
   rw[←ht,zm]at p;split at p
   ·exact p
   ·cases p
  refine cT (m:=m+1) aD O (cN (λhgt=>?_) λhle2=>?_)
  ·-- no room: a new row
   refine jA (lo:=0) O O O (cT (m:=m+1) aD O (cT (m:=m+1-i) O O ?_))
   have D:¬s.cap=0:=by omega
   rw[zB D];simp only[Y,ze,add_lit,vG,kC,Nat.sub_zero];refine⟨O,xs.take (3*i),by rw[zY];simp only;omega,?_,by simp[dS],by simp only;omega,by simp only;omega,O,λV=>by simp only at V;omega,λ_ cc H=>?_⟩
   ·intro j v p;rw[add_lit,zH,E.cell];rw[zm]at p;split at p
    ·exact w j v p
    ·cases p
   simp only[dG]at H ⊢;have W:i+(m+1-i)=m+1:=by omega
   rw[W]at H ⊢;refine nw λv2 hz2 e2 ab=>?_;have A:∀k,(List.replicate k [Value.int .i64 0,.int .i64 0,.pointer none]).flatten.length=3*k:=λk=>by
    rw[xr,vV,yx];simp;omega
   have g:(xs.take (3*i)).length=3*i:=by rw[zY];omega
   refine jA aD aD aD ?_
   have ae:=e2.bV hv id;have n1:(if cc=i then(some ⟨U.size,0,none⟩:Option Addr)else(some ⟨U.size,0,none⟩:Option Addr).map (·.add (i*3)))=some ⟨U.size,i*3,none⟩:=by
    have:¬cc=i:=by omega
    rw[zB this];simp[add_lit]
   rw[n1];refine⟨[x,y,z],by simp only;rw[qW O];rfl,?_,ho,?_⟩
   ·intro j u hu;rw[add_lit,zH,ae.cell];exact hu
   simp only;refine V9 (o:=i*3) (i:=0) ab (by simp only[zJ,g,A,zS,kr];omega) λv3 o3 S=>?_;refine cT (m:=i+1) aD O (jA aD aD aD (jA O O O ?_))
   have J:bZ v3 b cs:=WE o3 (e2.bV E id) (by have:=E.lt;omega);have d:(xs.drop (3*i)).length=3*(m-i):=by rw[ky];omega
   refine⟨xs.drop (3*i),by simp only;rw[qW O,d];omega,?_,λv hv=>h1 v (uC hv),?_⟩
   ·have r:¬s.cap=i:=by omega
    rw[zB r];simp only[Y,ze,add_lit];intro j v p;rw[add_lit,J.cell];rw[lg]at p;have:=w _ _ p;rw[show 0+i*3+j=3*i+j by omega];exact this
   have hbig:(xs.take (3*i)++(List.replicate (m+1-i) [Value.int .i64 0,.int .i64 0,.pointer none]).flatten++(List.replicate (cc-(m+1)) [Value.int .i64 0,.int .i64 0,.pointer none]).flatten).length=3*cc:=by
    simp only[zJ,g,A];omega
   have tk:∀L:List Value,((xs.take (3*i)++(List.replicate (m+1-i) [Value.int .i64 0,.int .i64 0,.pointer none]).flatten++(List.replicate (cc-(m+1)) [Value.int .i64 0,.int .i64 0,.pointer none]).flatten).take (3*i))=xs.take (3*i):=λ_=>by
    rw[zl,pN O,lN O]
   have fin:∀v4,Ka v3 v4 U.size->bZ v4 U.size ((xs.take (3*i)++[x,y,z])++xs.drop (3*i)++((xs.take (3*i)++(List.replicate (m+1-i) [Value.int .i64 0,.int .i64 0,.pointer none]).flatten++(List.replicate (cc-(m+1)) [Value.int .i64 0,.int .i64 0,.pointer none]).flatten).drop (3*i+3)).drop (3*(m-i)))->R ⟨some ⟨U.size,0,none⟩,m+1,cc⟩ v4:=by
    intro v4 o4 b4;refine hR _ v4 ?_ ⟨?_,.inr ⟨U.size,_,.inr (zE _),rfl,b4,by simp only;omega,?_,?_⟩⟩
    ·exact((e2.to.dQ o3.ext λi hi=>by subst hi;exact .inr (zE _)).dQ o4.ext λi hi=>by subst hi;exact .inr (zE _))
    ·simp only[zJ,g,d,zS,kr];omega
    ·simp only[zJ,g,d,zS,kr,ky,A];omega
    ·rw[zl (xs.take (3*i)++[x,y,z]),←zl,AF];rfl
   have e3:(xs.take (3*i)++(List.replicate (m+1-i) [Value.int .i64 0,.int .i64 0,.pointer none]).flatten++(List.replicate (cc-(m+1)) [Value.int .i64 0,.int .i64 0,.pointer none]).flatten).take (i*3+0)=xs.take (3*i):=by
    rw[show i*3+0=3*i by omega];exact tk []
   rw[e3]at S;have B:(xs.take (3*i)++[x,y,z]++(xs.take (3*i)++(List.replicate (m+1-i) [Value.int .i64 0,.int .i64 0,.pointer none]).flatten++(List.replicate (cc-(m+1)) [Value.int .i64 0,.int .i64 0,.pointer none]).flatten).drop (i*3+0 + [x,y,z].length)).length=3*cc:=by
    simp only[zJ,ky,g,A,zS,kr];omega
   by_cases r:cc=i+1
   ·exfalso;omega
   ·rw[zB r];simp only[ze,add_lit,zH];refine V9 (o:=(i+1)*3) (i:=0) S (by rw[B,d];omega) λv4 o4 b4=>fin v4 o4 ?_;have q1:(i+1)*3+0=(xs.take (3*i)++[x,y,z]).length:=by rw[zJ,g];simp;omega
    have q2:(i+1)*3+0+(xs.drop (3*i)).length=(xs.take (3*i)++[x,y,z]).length+3*(m-i):=by rw[d,q1]
    rw[q2,q1,AF,List.drop_append]at b4
    ·rw[D9 (show(xs.take (3*i)++[x,y,z]).length<=(xs.take (3*i)++[x,y,z]).length+3*(m-i) by omega),sN]at b4;have q3:i*3+0 + [x,y,z].length=3*i+3:=by simp;omega
     rw[q3]at b4;have q4:(xs.take (3*i)++[x,y,z]).length+3*(m-i)-(xs.take (3*i)++[x,y,z]).length=3*(m-i):=by omega
     rw[q4]at b4;exact b4
    ·rfl
  ·-- room: the rest moves
   have hle3:m+1<=s.cap:=by omega
   have D:¬s.cap=0:=by omega
   have r:¬s.cap=i:=by omega
   refine cT (m:=m+1) aD O (jA (lo:=0) O O O ?_)
   rw[zB D];simp only[Y,ze,add_lit,vG,kC,Nat.sub_zero];refine cT (m:=i+1) aD O (jA aD aD aD ?_)
   have C:cs.take (3*m)=xs:=by rw[←hlen,show 3*s.len=xs.length by omega];exact ht
   have Z:∃o',(if s.cap=i+1 then(some ⟨b,0,none⟩:Option Addr)else(some ⟨b,0,none⟩:Option Addr).map (·.add ((i+1)*3)))=some ⟨b,o',none⟩:=by
    split
    ·exact⟨0,rfl⟩
    ·exact⟨_,by simp[add_lit];rfl⟩
   obtain⟨o',Z⟩:=Z;refine σ (x:=⟨some ⟨vb,0,none⟩,1,1⟩) (a:=vb) (o:=0) (b:=b) rfl Z hv E G (λe=>by rw[e]at M;simp at M;omega) (cF rfl ?_);refine cT (m:=i+1) aD O (jA aD aD aD (jA aD aD aD ?_))
   have N:¬s.cap=i+1:=by omega
   rw[zB N,zB r];simp only[ze,add_lit,zH];have d:(xs.drop (3*i)).length=3*(m-i):=by rw[ky];omega
   refine⟨xs.drop (3*i),by simp only;rw[Nat.min_eq_right O,d];omega,?_,λv hv=>h1 v (uC hv),?_⟩
   ·intro j v p;rw[add_lit,E.cell];rw[lg]at p;have:=w _ _ p;rw[show i*3+j=3*i+j by omega];exact this
   refine V9 (o:=(i+1)*3) (i:=0) E (by rw[d];omega) λv3 o3 S=>?_;refine jA aD aD aD ?_
   rw[zB r];simp only[ze,add_lit,zH];have ac:=WE o3 hv G;refine⟨[x,y,z],by simp only;rw[qW O];rfl,?_,ho,?_⟩
   ·intro j u hu;rw[add_lit,zH,ac.cell];exact hu
   have X:(cs.take ((i+1)*3+0)++xs.drop (3*i)++cs.drop ((i+1)*3+0+(xs.drop (3*i)).length)).length=cs.length:=by
    simp only[zJ,zY,ky,d];omega
   refine V9 (o:=i*3) (i:=0) S (by rw[X];simp;omega) λv4 o4 b4=>?_;have a1:(cs.take ((i+1)*3+0)).length=3*i+3:=by rw[zY];omega
   have g:(xs.take (3*i)).length=3*i:=by rw[zY];omega
   have p1:(cs.take ((i+1)*3+0)++xs.drop (3*i)++cs.drop ((i+1)*3+0+(xs.drop (3*i)).length)).take (i*3+0)=xs.take (3*i):=by
    rw[zl,pN O,yP,qW O,←C,yP,qW O]
    congr 1;omega
   have p2:(cs.take ((i+1)*3+0)++xs.drop (3*i)++cs.drop ((i+1)*3+0+(xs.drop (3*i)).length)).drop (i*3+0 + [x,y,z].length)=xs.drop (3*i)++cs.drop ((i+1)*3+0+(xs.drop (3*i)).length):=by
    rw[zl,List.drop_left'];rw[a1];simp;omega
   rw[p1,p2,←zl]at b4;refine hR _ v4 ((Ext.eU (F:=Q) o3 P).trans (Ext.eU o4 P)) ⟨?_,.inr ⟨b,_,.inl P,rfl,b4,aD,?_,?_⟩⟩
   ·simp only[zJ,g,zS,kr,d];omega
   ·simp only[zJ,g,ky,zS,kr,d];omega
   ·rw[AF];rfl
def ZG (ss:List cH)(st:Nat):Nat:=(ss.takeWhile (λs=>s.st<st)).length
theorem GM (l:List cH)(P:cH->Bool):l.takeWhile P=l.take (l.takeWhile P).length/\l.dropWhile P=l.drop (l.takeWhile P).length:=by
 induction l with
 | nil=>simp
 | cons x l ih=>
  simp only[List.takeWhile_cons,List.dropWhile_cons];cases P x
  ·simp
  ·simp only[zT,zS,vY,wq];exact⟨by rw[←ih.1],ih.2⟩
theorem xN (c:cA)(ss:List cH)(st:Nat):iv c ss st=ss.take (ZG ss st)++⟨st,List.replicate c.n false⟩::ss.drop (ZG ss st):=by
 have:=GM ss (λs=>decide (s.st<st));unfold iv ZG;rw[this.2,←this.1]
theorem GI (hs:ss.Pairwise (λa b=>a.st<b.st))(st:Nat):ZG ss st<=ss.length/\∀(i:Nat) s,ss[i]?=some s->(s.st<st↔i<ZG ss st):=by
 unfold ZG
 induction ss with
 | nil=>simp
 | cons x ss ih=>
  have d:=tC.1 hs;obtain⟨j,g⟩:=ih d.2;simp only[List.takeWhile_cons];by_cases hx:x.st<st
  ·simp only[hx,decide_true,zT,zS];refine⟨O,λi s hi=>?_⟩;cases i with
   | zero=>simp at hi;subst hi;simp[hx]
   | succ i=>have:=g i s (by simpa using hi);omega
  ·simp only[hx,decide_false,za,jT,kr,Nat.zero_le,Nat.not_lt_zero,iff_false,tV];intro i s hi;cases i with
   | zero=>simp at hi;subst hi;exact hx
   | succ i=>
    have:=d.1 s (zG (i:=i) (by simpa using hi));omega
theorem TL (h:fF U F p c ps ss){σ1:Hp}(e1:aF U σ1){sl:Sl}{rb:Nat}{cs:List Value}(hl:sl.len=ss.length)(hE:ss≠[]->sI U F p ps ss sl rb cs)(st:Nat)(hst:st<=1024){R:Int->Bool->Hp->Prop}(hR:∀σ' b,aF σ1 σ'->R (ZG ss st:Int) b σ') :
 Wc.c sl (st:Int) ⟨292,#[],#[]⟩ σ1 R:=by
 refine Wc.o ?_;unfold Wc.v;have V:=h.qH;obtain⟨L,kB⟩:=GI h.qT st;have D:∀(k:Nat) (x:Nat×Nat) s (v:Hp) (K:aN),ps[k]?=some x->ss[k]?=some s->aF σ1 v->(∀B,aF v B->K ((s.st:Int)-(st:Int)) B) →
  VU Tryz.prog ⟨292,#[],#[]⟩ [.agg #[.int .i64 (s.many:Int),.int .i64 (s.st:Int),.pointer (some ⟨x.1,0,none⟩)],.int .i64 (st:Int)] [.one bO] v K:=by
  intro k x s v K w g ev hK;refine G8 (all := #[.agg #[.int .i64 (s.many:Int),.int .i64 (s.st:Int),.pointer (some ⟨x.1,0,none⟩)],.int .i64 (st:Int)]) (by kernel_rfl) aA ?_;refine YU.o ?_;unfold YU.v;have hf:=(h.sp k x s w g).fit;refine nw (cs:=[.int .i64 (s.many:Int),.int .i64 (s.st:Int),.pointer (some ⟨x.1,0,none⟩)]) λY hz e H=>H.fL rfl (ar O O (hK Y e))
 refine UC (a:=bO) (bb:=bO) (λ(i j:Int) v=>∃a b:Nat,i=(a:Int)/\j=(b:Int)/\a<=ZG ss st/\ZG ss st<=b/\b<=ss.length/\aF σ1 v) (λi j _=>j.toNat-i.toNat) ⟨0,ss.length,rfl,by rw[hl],O,L,O,Ext.refl _ _⟩ ?_;rintro i j v ⟨a,b,rfl,rfl,X,H,C,ev⟩;have z:aF U v:=e1.trans ev;refine cN (λW=>?_) λaa=>?_
 ·have u:ss≠[]:=by rintro rfl;simp at C;omega
  have E:=hE u;refine cT (m:=a+b) O O ?_;have Z:IntKind.u64.wrap ((a+b:Nat):Int)=((a+b:Nat):Int):=by
   unfold IntKind.wrap;simp[IntKind.bits,IntKind.signed];omega
  refine vz ?_;rw[Z];refine nn O ?_;have M:min (1:Int).toNat IntKind.u64.bits=1:=by decide
  rw[M,Dr];have A:(((a+b:Nat):Int)/2^1)=(((a+b)/2:Nat):Int):=by omega
  refine cT (m:=(a+b)/2) A O ?_;have d:(a+b)/2<ss.length:=by omega
  obtain⟨x,s,w,g,hS⟩:=h.jM d;have y:=Ko w g;rw[E.a];refine ix O O ?_;rw[add_lit,show 0+(((a+b)/2:Nat):Int).toNat*3=3*((a+b)/2) by omega];refine xA (e:=0) (z.bV E.bV id) (E.get y.1) (E.get y.2.1) (E.get y.2.2) (D _ x s v _ w g ev λB G=>?_);have r:=kB _ s g;show If (decide (((s.st:Int)-(st:Int))<0)) _ _;refine cN (λP=>?_) λN=>?_
  ·exact cT (m:=(a+b)/2+1) O O ⟨⟨_,b,rfl,rfl,by have:=r.1 O;omega,H,C,ev.trans G⟩,O⟩
  ·exact⟨⟨a,_,rfl,rfl,X,by
    apply Classical.byContradiction;intro hc;have:=r.2 O;omega,O,ev.trans G⟩,O⟩
 ·have J:a=ZG ss st:=by omega
  subst J;refine bX.intro (cN (λQ=>?_) λS=>hR v _ ev);have d:ZG ss st<ss.length:=by omega
  have u:ss≠[]:=by rintro rfl;simp at d
  have E:=hE u;obtain⟨x,s,w,g,hS⟩:=h.jM d;have y:=Ko w g;rw[E.a];refine ix O O ?_;rw[add_lit,show 0+(ZG ss st:Int).toNat*3=3*ZG ss st by omega];refine xA (e:=0) (z.bV E.bV id) (E.get y.1) (E.get y.2.1) (E.get y.2.2) (D _ x s v _ w g ev λB G=>hR B _ (ev.trans G))
theorem SJ (h:fF U F p c ps ss){st:Nat}(hf:st+c.aG<=1024){R:aN}(h9:oC c ss st=9->∀σ',aF U σ'->R 9 σ')
 (h0:oC c ss st=0->∀σ' ps',Ext F U σ'->fF σ' (Grow F U) p c ps' (iv c ss st)->R 0 σ'):Y4.c (aW p) (st:Int) U R:=by
 refine Y4.o ?_;unfold Y4.v;have h:=fF.loc.cut h;obtain⟨sl,d,hl,aa,rb,cs,hE⟩:=h.nD;have hfew:=h.qH;have hc:=h.ok;have hck:=hc;unfold cA.ok at hck;refine Uz h (cD rfl (bL (d.fL rfl (d.fL rfl (d.fL rfl ?_)))));refine LS hc hf λv1 C M e1 hpn hqn Q=>cD rfl (bL ((e1.bV d id).rS rfl ?_));have hplt:=d.lt;refine Qv (a:=bO) (λ(t:Int) v=>∃i:Nat,t=(i:Int)/\i<=ss.length/\aF v1 v/\∀(j:Nat) s,j<i->ss[j]?=some s->¬max s.st st-min s.st st<c.aG) (λt _=>ss.length-t.toNat) ⟨0,rfl,O,Ext.refl _ _,λj s z=>O⟩ ?_;rintro t v ⟨i,rfl,hi,ev,V⟩;have r:=e1.trans ev;refine cN (λhlt=>?_) λhge=>?_
 ·simp only at hlt;have hi':i<ss.length:=by omega
  obtain⟨E,hcap,hcl⟩:=hE (by rintro rfl;simp at hi');obtain⟨x,s,y,g,hS⟩:=h.jM hi';have eg:=Ko y g;have hsf:=hS.fit;rw[E.a];refine ix O O ?_;rw[add_lit,show 0+(i:Int).toNat*3=3*i by omega];refine xA (e:=0) (r.bV E.bV id) (E.get eg.1) (E.get eg.2.1) (E.get eg.2.2) (Jt λv6 e6 b6=>b6.fL rfl (b6.fL rfl ?_));have hd:(if(st:Int)>(s.st:Int)then(st:Int)else(s.st:Int))-(if(st:Int)<(s.st:Int)then(st:Int)else(s.st:Int))=((max s.st st-min s.st st:Nat):Int):=by
   split<;>split<;>omega
  refine cT (m:=max s.st st-min s.st st) hd O (bL (((r.trans e6).bV d id).fL rfl ?_));refine cN (λhlt2=>h9 ?_ _ (r.trans e6)) λhge2=>?_
  ·unfold oC;rw[zC];exact jV.2 ⟨s,zG g,by simpa using(by omega:max s.st st-min s.st st<c.aG)⟩
  ·refine cT (m:=i+1) O O ⟨⟨i+1,rfl,O,ev.trans e6,λj s' z Y=>?_⟩,O⟩;by_cases e:j=i
   ·subst e;rw[g]at Y;cases Y;omega
   ·exact V j s' O Y
 ·have hii:i=ss.length:=by simp only at hge;omega
  subst hii;have hE0:oC c ss st=0:=by
   unfold oC;rw[zB];simp only[sg,mC,zV];intro s g;obtain⟨j,z⟩:=zP g;exact V j s (cX.1 z).1 z
  refine bL ((r.bV d id).rS rfl ?_);refine TL h r hl (λP=>(hE P).1) st O λv7 bb e7=>bL (((r.trans e7).bV d id).rS rfl ?_);have e07:=r.trans e7;obtain⟨hp1,kB⟩:=GI h.qT st;refine nw (cs:=[.int .i64 0,.int .i64 st,.pointer (some ⟨C,0,none⟩)]) λv8 hz8 e8 hb8=>?_;have J:=e07.trans e8;have S:=aI.bP aa J;have hsz7:=e07.1;refine ζ S hl O hp1 hb8 (λw=>by have:=w.1.2;omega) Ex ⟨rfl,rfl,rfl⟩ λs' v9 e9 hr9=>bL ?_;have hb9:=e9.bV (J.bV d id) λw=>w.2.1 rfl;refine hb9.s1 aA λW fX hb10=>?_;have H:=h.len;have D:=h.nd;simp only[zr]at D;have hlt:=Q.lt;have hsz1:=(ev.trans e7).trans e8 |>.1;have B:∀b∈eE ps,b<U.size:=λb d=>(h.fb b d).2;have hS9:∀{a b s'},il v8 a b c s'->¬(Cut F U a/\a≠p/\a∉eE ps)->¬(Cut F U b/\b≠p/\b∉eE ps)->a≠p->b≠p->il W a b c s':=λhS n1 n2 m1 m2=>(hS.bS e9 n1 n2).bS fX.ext m1 m2;have hnew:=((Q.bP ev).bP e7).bP e8;have hent:dR (ps.take (ZG ss st)++(C,M)::ps.drop (ZG ss st)) (ss.take (ZG ss st)++⟨st,List.replicate c.n false⟩::ss.drop (ZG ss st)) =
   (dR ps ss).take (3*ZG ss st)++[.int .i64 0,.int .i64 st,.pointer (some ⟨C,0,none⟩)]++(dR ps ss).drop (3*ZG ss st):=by
   rw[VM (by simp[H])];have u:dR ps ss=dR (ps.take (ZG ss st)) (ss.take (ZG ss st))++dR (ps.drop (ZG ss st)) (ss.drop (ZG ss st)):=by
    rw[←VM (by simp[H]),oJ,oJ]
   have h2:(dR (ps.take (ZG ss st)) (ss.take (ZG ss st))).length=3*ZG ss st:=by rw[KE (by simp[H]),zY];omega
   rw[u,AF h2,List.drop_left' h2,zl];have:cH.many ⟨st,List.replicate c.n false⟩=0:=by simp[cH.many,Ag]
   simp[dR,this]
  refine h0 hE0 W (ps.take (ZG ss st)++(C,M)::ps.drop (ZG ss st)) ?_ ?_
  ·refine(((aF.to J).trans (e9.sub λb d=>d.1.1))).trans (fX.ext.sub λb d=>d▸h.fp.1)
  ·have A:(eE (ps.take (ZG ss st)++(C,M)::ps.drop (ZG ss st))).Perm (C::M::eE ps):=by
    have:eE ps=eE (ps.take (ZG ss st))++eE (ps.drop (ZG ss st)):=by
     conv=>lhs;rw[←oJ (ZG ss st) ps]
     simp only[eE,Bv]
    rw[this];have h3:eE (ps.take (ZG ss st)++(C,M)::ps.drop (ZG ss st))=eE (ps.take (ZG ss st))++C::M::eE (ps.drop (ZG ss st)):=by simp[eE]
    rw[h3];exact List.perm_middle.trans ((List.perm_middle).cons C)
   have X:∀b,b∈eE (ps.take (ZG ss st)++(C,M)::ps.drop (ZG ss st))↔b=C\/b=M\/b∈eE ps:=by
    intro b;rw[A.mem_iff];simp
   refine⟨⟨s',hb10,?_⟩,λi x s y g=>?_,.inl h.fp.1,λb d=>?_,?_,?_,hc,?_⟩
   ·rw[xN,hent];refine aI.bS (aI.mono hr9 λb _ d=>?_) fX.ext λb _ d he=>d.2.1 he;rw[X];rcases d with d|d
    ·exact⟨.inl d.1.1,d.2.1,λw=>by
      rcases w with h|h|h
      ·have:=d.1.2;omega
      ·have:=d.1.2;omega
      ·exact d.2.2 h⟩
    ·exact⟨.inr O,O,λw=>by
      rcases w with h|h|h
      ·omega
      ·omega
      ·have:=B b h;omega⟩
   ·rw[xN]at g;have L:(ps.take (ZG ss st)).length=ZG ss st:=by rw[zY];omega
    have K:(ss.take (ZG ss st)).length=ZG ss st:=by rw[zY];omega
    have Z:∀j:Nat,ps[j]?=some x->ss[j]?=some s->il W x.1 x.2 c s:=λj u h2=>by
     have G:=Q1 u;exact hS9 ((h.sp j x s u h2).bP J) (λw=>w.2.2 G.1) (λw=>w.2.2 G.2) (λe=>D.1 (e▸G.1)) (λe=>D.1 (e▸G.2))
    rcases qB i (ZG ss st)with hlt'|heq|hgt
    ·rw[zd O,zm,zC hlt']at y g;exact Z i y g
    ·rw[zp O]at y g;rw[L,heq,pS]at y;rw[K,heq,pS]at g;simp at y g;subst y;subst g;exact hS9 hnew (λw=>by have:=w.1.2;simp only at this;omega) (λw=>by have:=w.1.2;simp only at this;omega) aC aC
    ·rw[zp O]at y g;rw[L]at y;rw[K]at g;obtain⟨k,hk⟩:∃k,i-ZG ss st=k+1:=⟨i-ZG ss st-1,O⟩;rw[hk,yY,lg]at y g;exact Z _ y g
   ·rcases(X b).1 d with u|u|u
    ·subst u;exact .inr hpn
    ·subst u;exact .inr hqn
    ·exact .inl (h.fb b u).1
   ·simp only[zr];refine⟨λG=>?_,?_⟩
    ·rcases(X p).1 G with u|u|u
     ·omega
     ·omega
     ·exact D.1 u
    ·rw[A.nodup_iff];simp only[zr,zW,not_or];have P:=Q.ne;exact⟨⟨P,λG=>by have:=B _ G;omega⟩,λG=>by have:=B _ G;omega,D.2⟩
   ·rw[xN];simp[H]
   ·rw[xN];rw[qx];have N:=h.qT;refine⟨N.sublist (Co _ _),tC.2 ⟨λs g=>?_,N.sublist (List.drop_sublist _ _)⟩,λa ha b d=>?_⟩
    ·obtain⟨j,z⟩:=zP g;rw[lg]at z;have u:=kB _ s z;have h2:s.st≠st:=λe=>by
      have:=V (ZG ss st+j) s (cX.1 z).1 z;rw[e]at this;simp at this;omega
     show st<s.st;omega
    ·obtain⟨i,hi⟩:=zP ha;rw[zm]at hi;split at hi
     ·rename_i hlt';have hat:=(kB i a hi).2 hlt';rcases zW.1 d with rfl|d
      ·exact hat
      ·obtain⟨j,z⟩:=zP d;rw[lg]at z;obtain⟨hi1,hi2⟩:=cX.1 hi;obtain⟨hj1,hj2⟩:=cX.1 z;have:=kS.1 N i (ZG ss st+j) hi1 hj1 O;rw[hi2,hj2]at this;exact this
     ·cases hi
end Go.Ar
namespace Go.Proofs
open Go.Vc
set_option maxRecDepth 100000
def Xy.h:Hn:=.q .o1 (.q (.cU (.seq [.op,.op,.op,.cY true 5 (RI.ops 5),.op])) .l)
def Xy.v (a:R2)(b:Hp)(c:aO):Prop:=bX (λd e=>c d e) λf=>If (!a.isNone) (bE a 0 b λh=>f (decide (h>0)) b) (f false b)
theorem Xy.o {a b c}(d:Xy.v a b c):Xy.c a b c:=Wa Tryz.func199 (x:=Xy.h) (R0 d)
def Qt.h:Hn:=.q .o2 (.q (.q (.cU (.seq [.op,.op,.op,.cY false 2 [.op,.op],.op,.cY false 2 [.op,.op],.op,.cY false 2 [.op,.op]])) .aJ) (.q .o6 .l))
def Qt.v (a b:Int)(c:Hp)(d:Option Addr->Int->Hp->Prop):Prop:=bX (λe f=>bX (λg h=>bX (λi j=>If i (d none 1 j) (aV #[.I a,.I b,.I 0,.slice none 0 0] 283 j λk l=>d (some k) 0 l)) λm=>If g (m true h) (m (decide (b>8)) h)) λn=>If e (n true f) (n (decide (b<0)) f)) λo=>If (a<1) (o true c) (o (decide (a>32)) c)
theorem Qt.o {a b c d}(e:Qt.v a b c d):Qt.c a b c d:=Wa Tryz.func213 (x:=Qt.h) (R0 e)
def WT.h:Hn:=.q .o2 (.q (.k (.q .o4 (.c .aL (.q .o7 .aJ)))) (.q .o7 (.q .o8 (.q .fX (.q .fX (.q .o3 .l))))))
def WT.v (a:R2)(b:Hp)(c:Sl->Int->Hp->Prop):Prop:=Xy.c a b λd e=>If (!d) (c ⟨none,0,0⟩ 5 e) (bF a 3 e λg=>If (((g.len:Nat):Int)==0) (c ⟨none,0,0⟩ 4 e) (bF a 3 e λi=>bM (((i.len:Nat):Int)-1) λj=>bF a 3 e λl=>Ix l.a l.len j 1 λm=>jG m e λn=>bF a 3 e λp=>fD p 1 0 j (p.cap:Nat) λq=>bW a λr=>aR r 3 (.slice q.a q.len q.cap) e λs=>bE a 2 s λu=>bW a λv=>aR v 2 (.I (if j<u then j else u)) s λw=>c n 0 w))
theorem WT.o {a b c}(d:WT.v a b c):WT.c a b c:=Wa Tryz.func232 (x:=WT.h) (R0 d)
def Xq.h:Hn:=.q .o2 (.q (.k (.q .o4 (.c .aL (.q .o8 (.c .aL (.q (.oq 11) .aJ)))))) (.q (.cU (.held true [8,11] (.tk [0,1,2,3,4,5] (.all [(6,.all [(7,.all [(8,.take 9 (.take 10 (.all [(11,.done)])))])])])))) .aL))
def Xq.v (a:R2)(b:Sl)(c:Hp)(d:Bool->Int->Hp->Prop):Prop:=Xy.c a c λe f=>If (!e) (d false 5 f) (bE a 0 f λh=>If (((b.len:Nat):Int) != h) (d false 1 f) (bF a 3 f λj=>bE a 1 f λl=>If (((j.len:Nat):Int)≥l) (d false 0 f) (dY f λm=>bW a λn=>aT m n 3 λo=>W3.c b f λp q=>And (m q) <| aV #[.slice p.a p.len p.cap] 31 q λr s=>And (m s) <| App o 1 24 31 [.slice none 0 0] ⟨some r,1,1⟩ s λt u=>bW a λv=>aR v 3 (.slice t.a t.len t.cap) u λw=>d true 0 w)))
theorem Xq.o {a b c d}(e:Xq.v a b c d):Xq.c a b c d:=Wa Tryz.func300 (x:=Xq.h) (R0 e)
end Go.Proofs
namespace Go.Ar
open Go Go.Vc Go.Proofs
variable {U:Hp}{F:Rg}{p batch room:Nat}{t:gP}
def qL (s:Sl):Value:=.slice s.a s.len s.cap
def Wy (xs:List Int):List Value:=xs.map (Value.int .i64)
theorem Uk {l:List Int}:∀v∈Wy l,dS v=true:=by
 intro v hv;simp only[Wy,zD]at hv;obtain⟨x,_,rfl⟩:=hv;rfl
def rm (sls:List Sl)(bs:List (List Int))(U:Hp)(D:Rg):Prop:=sls.length=bs.length/\∀(i:Nat) s xs,sls[i]?=some s->bs[i]?=some xs->cV s 1 (Wy xs) U D/\s.len<=s.cap
theorem rm.loc (sls:List Sl)(bs:List (List Int)):dN (rm sls bs):=λU m F G h g j=>⟨h.1,λi s d b a=>⟨cV.loc _ _ _ _ _ _ _ (h.2 i s d b a).1 g j,(h.2 i s d b a).2⟩⟩
def Dj (sls:List Sl):Prop:=sls.Pairwise λs t=>∀a a',s.a=some a->t.a=some a'->a.block≠a'.block
def kY (s:Sl)(b:Nat):Prop:=∃a,s.a=some a/\a.block=b
theorem _root_.Go.Vc.cV.mE {s:Sl}{sz:Nat}{xs:List Value}{D:Rg}(h:cV s sz xs U D):cV s sz xs U λb=>D b/\kY s b:=
 ⟨h.1,h.2.imp id λ⟨b,o,g,d,a,r⟩=>⟨b,o,g,⟨d,_,a,rfl⟩,a,r⟩⟩
theorem _root_.Go.Vc.cV.bV {s:Sl}{sz:Nat}{xs:List Value}{D:Rg}(h:cV s sz xs U D)(hx:xs≠[]){b:Nat}(hb:kY s b):D b/\b<U.size:=by
 rcases h.2 with h0|⟨b',o,cs,hq,ha,hc,_⟩
 ·exact absurd h0 hx
 ·obtain⟨a,d,rfl⟩:=hb;rw[ha]at d;cases d;exact⟨hq,hc.lt⟩
theorem Dj.snoc {sls:List Sl}{bs:List (List Int)}{D:Rg}{z:Nat}{s':Sl}{xs:List Value}{v:Hp}(h:Dj sls)(hB:rm sls bs U D)(hne:∀xs∈bs,xs≠[])(hz:∀b,D b->b<z)(hs:bT s' 1 xs v λb=>z<=b)(hx:xs≠[]):Dj (sls++[s']):=by
 refine qx.2 ⟨h,List.pairwise_singleton _ _,λs g u m a x r p=>?_⟩;rw[zN]at m;subst m;obtain⟨i,hi⟩:=zP g;have j:=(cX.1 hi).1;have d:bs[i]?=some (bs[i]'(by rw[←hB.1];exact j)):=cW _;have w:=((hB.2 i s _ hi d).1.bV (by simp only[Wy,ne_eq,yA];exact hne _ (zG d)) ⟨a,r,rfl⟩).1;have y:=(hs.fW.bV hx ⟨x,p,rfl⟩).1;have:=hz _ w;omega
structure iW (U:Hp) (F:Rg) (p batch room:Nat) (t:gP):Prop where
 mem:∃(sl:Sl) (sls:List Sl) (D:Rg),bZ U p [.int .i64 (batch:Int),.int .i64 (room:Int),.int .i64 (t.low:Int),.slice sl.a sl.len sl.cap]/\bT sl 1 (sls.map qL) U (λb=>F b/\b≠p/\¬D b)/\rm sls t.bs U D/\(∀b,D b->F b/\b≠p)/\Dj sls
 fp:F p
 b1:1<=batch/\batch<=32
 r1:room<=8
 qH:t.bs.length<=room
 low:t.low<=t.bs.length
 all:∀xs∈t.bs,xs.length=batch
theorem iW.loc:dN λU F=>iW U F p batch room t:=λU x F G h r d=>by
 obtain⟨sl,i,D,a,u,w,j,s⟩:=h.mem;refine⟨⟨sl,i,λb=>D b/\b<U.size,?_,?_,?_,λb a=>⟨(d b a.2 (j b a.1).1).1,(j b a.1).2⟩,s⟩,(d p a.lt h.fp).1,h.b1,h.r1,h.qH,h.low,h.all⟩
 ·obtain⟨e,m⟩:=a;exact⟨e,(d p (bZ.lt ⟨e,m⟩) h.fp).2.trans m⟩
 ·exact bT.loc _ _ _ _ _ _ _ u r λb a g=>⟨⟨(d b a g.1).1,g.2.1,λhd=>g.2.2 hd.1⟩,(d b a g.1).2⟩
 ·exact rm.loc _ _ _ _ _ _ w r λb a hd=>⟨⟨hd,a⟩,(d b a (j b hd).1).2⟩
theorem iW.bP {σ':Hp}(h:iW U F p batch room t)(e:aF U σ'):iW σ' F p batch room t:=dN.bP iW.loc h e
theorem BQ (h:iW U F p batch room t){R:aO}(hR:R true U):Xy.c (aW p) U R:=by
 refine Xy.o ?_;unfold Xy.v;obtain⟨sl,a,D,b,_⟩:=h.mem;have:=h.b1;refine bX.intro (cF rfl (bL (b.rI rfl ?_)));rw[zI O];exact hR
theorem _root_.Go.Vc.cV.TR {s:Sl}{F:Rg}{sls:List Sl}(h:cV s 1 (sls.map qL) U F){i:Nat}{x:Sl}(hx:sls[i]?=some x){K:Sl->Prop}(hK:K x):Ix s.a s.len (i:Int) 1 λa=>jG a U K:=by
 have hi:=(cX.1 hx).1;obtain⟨b,o,m,d⟩:=h.cell (j:=i) (v:=qL x) (by simp[hx]);have g:=h.1;rw[zk]at g;rw[m];refine ix O O ?_;rw[add_lit];exact oA (by simpa[qL]using d) hK
theorem WlR (h1:1<=batch)(h2:batch<=32)(h3:room<=8){R:Option Addr->Int->Hp->Prop}(hR:∀σ' p,aF U σ'->U.size<=p->p<σ'.size->iW σ' (· = p) p batch room ⟨0,[]⟩->R (some ⟨p,0,none⟩) 0 σ'):Qt.c batch room U R:=by
 refine Qt.o ?_;unfold Qt.v;refine bX.intro (gA O (bX.intro (gA O (bX.intro (gA O (gA O ?_))))));refine nw (cs:=[.int .i64 batch,.int .i64 room,.int .i64 0,.slice none 0 0]) λv g e a=>?_;exact hR v _ e (zE _) O ⟨⟨⟨none,0,0⟩,[],λ_=>False,a,bT.nil _ _ _ _,⟨rfl,λi s d h=>by simp at h⟩,λb h=>h.elim,List.Pairwise.nil⟩,rfl,⟨h1,h2⟩,h3,by simp,by simp,by simp⟩
theorem LU (h:iW U F p batch room t){sl:Sl}{xs:List Int}{X:Rg}(hs:cV sl 1 (Wy xs) U X)(hl:xs.length<=1000000){R:Bool->Int->Hp->Prop}(h1:xs.length≠batch->R false 1 U)(h2:xs.length=batch->room<=t.bs.length->R false 0 U)
 (h3:xs.length=batch->t.bs.length<room->∀σ',Ext F U σ'->iW σ' (Grow F U) p batch room {t with bs:=t.bs++[xs]}->R true 0 σ'):Xq.c (aW p) sl U R:=by
 refine Xq.o ?_;unfold Xq.v;have h:=iW.loc.cut h;obtain⟨B,x,D,d,hr,z,J,hJ⟩:=h.mem;have r:sl.len=xs.length:=by have:=hs.1;simp[Wy]at this;omega
 have hso:B.len=t.bs.length:=by have:=hr.1;rw[zk,z.1]at this;omega
 have hr8:=h.r1;have hb1:=h.b1;refine BQ h (cD rfl (bL (d.rI rfl ?_)));rw[rH];refine cQ (λw=>h1 (by rw[←r];simpa using w)) λM=>?_;have g:xs.length=batch:=by rw[←r];simpa using M
 refine bL (d.rS rfl (bL (d.rI rfl (cN (λY=>h2 g (by simp only at Y;omega)) λP=>?_))));simp only at P;refine⟨λh'=>bZ h' p [.int .i64 (batch:Int),.int .i64 (room:Int),.int .i64 (t.low:Int),.slice B.a B.len B.cap],d,bL ⟨B,λh' Z=>by rw[add_lit,Z.cell];rfl,?_⟩⟩;refine Gh hs Uk O λy v1 hl1 e1 A=>⟨e1.bV d id,?_⟩;refine nw (cs:=[.slice y.a y.len y.cap]) λv2 hz2 e2 W=>⟨(e1.trans e2).bV d id,?_⟩;have S:=aI.bP (aI.bP hr e1) e2;refine S.app (ys:=[qL y]) rfl rfl ?_ (by simp[dS,qL]) ?_ ?_ nm λs2 v3 hl3 L K=>bL ?_
 ·intro j u hu;rw[add_lit,zH,W.cell];exact hu
 ·simp only;have:(B.len+1)*24<=9*24:=mD O O;omega
 ·simp only;omega
 ·have N:=L.bV ((e1.trans e2).bV d id) λH=>H.2.1 rfl;have hplt:=d.lt;have hs1:=e1.1;refine N.s1 aA λv4 o4 V=>h3 g O v4 ?_ ?_
  ·exact((aF.to (e1.trans e2)).trans (L.sub λb d=>d.1.1)).trans (o4.ext.sub λb d=>d▸h.fp.1)
  ·refine⟨⟨s2,x++[y],λb=>D b/\b<U.size\/U.size<=b/\b<v1.size,V,?_,⟨by simp[z.1],λi s ys hi m=>?_⟩,λb d=>?_,?_⟩,.inl h.fp.1,h.b1,h.r1,by simp;omega,by have:=h.low;simp;omega,λys m=>?_⟩
   ·rw[zj];refine aI.bS (aI.mono K λb _ d=>?_) o4.ext λb _ d Q=>d.2.1 Q;rcases d with d|d
    ·exact⟨.inl d.1.1,d.2.1,λhd=>by
      rcases hd with hd|hd
      ·exact d.2.2 hd.1
      ·have:=d.1.2;omega⟩
    ·exact⟨.inr O,O,λhd=>by rcases hd with hd|hd<;>omega⟩
   ·have mv:∀{s:Sl} {ys:List Int} {G:Rg},cV s 1 (Wy ys) v2 G->(∀b,G b->b≠p/\¬(Cut F U b/\b≠p/\¬D b))->cV s 1 (Wy ys) v4 G:=λZ hn=>
     aH.bS (aH.bS Z L λb _ d=>(hn b d).2) o4.ext λb _ d Q=>(hn b d).1 Q
    rcases ku i x.length with hi'|hi'
    ·rw[zd hi']at hi;rw[zd (by rw[←z.1];exact hi')]at m;obtain⟨k1,k2⟩:=z.2 i s ys hi m;refine⟨aH.mono (mv (aH.bP (aH.bP (aH.mono k1 (G:=λb=>D b/\b<U.size) λb d hd=>⟨hd,d⟩) e1) e2) λb hd=>⟨(J b hd.1).2,λH=>H.2.2 hd.1⟩) λb _ hd=>.inl hd,k2⟩
    ·rw[zp hi']at hi;rw[zp (by rw[←z.1];exact hi')]at m;have E:i-x.length=0:=by
      have:=(cX.1 hi).1;simp at this;omega
     rw[E]at hi;rw[show i-t.bs.length=0 by rw[←z.1];exact E]at m;simp at hi m;subst hi;subst m;have C:y.len<=y.cap:=by
      rcases A.2 with⟨q1,q2⟩|⟨_,_,_,_,_,q,_⟩
      ·omega
      ·exact q
     refine⟨aH.mono (mv (aH.bP (aH.mono A.fW (G:=λb=>U.size<=b/\b<v1.size) λb d hd=>⟨hd,d⟩) e2) λb hd=>⟨O,λH=>by have:=H.1.2;omega⟩) λb _ hd=>.inr hd,C⟩
   ·rcases d with hd|hd
    ·exact⟨.inl (J b hd.1).1.1,(J b hd.1).2⟩
    ·exact⟨.inr hd.1,O⟩
   ·have w:∀ys∈t.bs,ys≠[]:=λys m e=>by have:=iW.all ‹_› ys m;rw[e]at this;simp at this;omega
    exact hJ.snoc z w (λb hd=>(J b hd).1.2) A (by simp only[Wy,ne_eq,yA];intro e;rw[e]at g;simp at g;omega)
   ·rcases zK.1 m with h|h
    ·exact iW.all ‹_› ys h
    ·simp at h;subst h;exact g
theorem T8 (h:iW U F p batch room t)(h0:t.bs=[]){R:Sl->Int->Hp->Prop}(hR:R ⟨none,0,0⟩ 4 U):WT.c (aW p) U R:=by
 refine WT.o ?_;unfold WT.v;obtain⟨j,d,D,g,i,b,m,r⟩:=h.mem;have a:j.len=t.bs.length:=by have:=i.1;rw[zk,b.1]at this;omega
 refine BQ h (cD rfl (bL (g.rS rfl (cF ?_ hR))));simp[a,h0]
theorem OT (h:iW U F p batch room t)(h0:t.bs≠[]){R:Sl->Int->Hp->Prop}(hR:∀out σ',Ext F U σ'->(∀b,kY out b->F b)->cV out 1 (Wy (t.bs.getLast?.getD [])) σ' (kY out)->out.len<=out.cap->iW σ' (λb=>F b/\¬kY out b) p batch room t.rem->R out 0 σ'):WT.c (aW p) U R:=by
 refine WT.o ?_;unfold WT.v;obtain⟨Q,g,D,d,H,z,B,V⟩:=h.mem;have hso:Q.len=t.bs.length:=by have:=H.1;rw[zk,z.1]at this;omega
 have W:=pY.2 h0;have hr8:=h.r1;have hfw:=h.qH;have X:=h.low;have S:t.bs.length-1<g.length:=by rw[z.1];omega
 obtain⟨o,P⟩:∃o,g[t.bs.length-1]?=some o:=⟨_,cW S⟩;have j:t.bs[t.bs.length-1]?=some (t.bs.getLast?.getD []):=by
  rw[List.getLast?_eq_getElem?,cW O];rfl
 obtain⟨Z,k2⟩:=z.2 _ o _ P j;refine BQ h (cD rfl (bL (d.rS rfl (cD ?_ ?_))))
 ·simp only[mX];omega
 refine bL (d.rS rfl (cT (m:=t.bs.length-1) aC O (bL (d.rS rfl ?_))));refine H.fW.TR P (bL (d.rS rfl ?_));have Y:Q.len<=Q.cap:=by
  rcases H.2 with⟨q1,q2⟩|⟨_,_,_,_,_,q,_⟩
  ·omega
  ·exact q
 refine jA (lo:=0) O aD aD (bL (d.s1 aA λv1 o1 E=>bL (E.rI rfl (bL ?_))))
 refine E.s1 aA λv2 o2 u=>?_;have r:Ext (· = p) U v2:=o1.ext.trans o2.ext;have C:(if((t.bs.length-1:Nat):Int)<(t.low:Int)then((t.bs.length-1:Nat):Int)else(t.low:Int))=((min t.low (t.bs.length-1):Nat):Int):=by split<;>omega
 rw[C]at u;have J:∀y∈t.bs,y≠[]:=λy w e=>by have h1:=h.all y w;have h2:=h.b1;rw[e]at h1;simp at h1;omega
 have A:∀b,kY o b->D b:=λb d=>(Z.bV (by simp only[Wy,ne_eq,yA];exact J _ (zG j)) d).1;refine hR o v2 (r.sub λb d=>d▸h.fp) (λb d=>(B b (A b d)).1) (aH.mono (aH.bS Z r λb _ d G=>(B b d).2 G).mE λb _ hd=>hd.2) k2 ⟨⟨_,g.dropLast,λb=>D b/\¬kY o b,u,?_,⟨by simp[z.1,gP.rem],λi s y hi w=>?_⟩,λb hd=>⟨⟨(B b hd.1).1,hd.2⟩,(B b hd.1).2⟩,List.Pairwise.sublist (List.dropLast_sublist _) V⟩,⟨h.fp,λd=>(B p (A p d)).2 rfl⟩,h.b1,h.r1,by simp[gP.rem];omega,by simp[gP.rem];omega,λy w=>h.all y (List.dropLast_subset _ w)⟩
 ·refine aI.bS ?_ r λb _ d G=>d.2.1 G;refine⟨by simp[z.1],?_⟩;rcases H.2 with⟨q1,q2⟩|⟨b,cs,hq,N,hbb,hle,hcl,ht⟩
  ·omega
  ·refine .inr ⟨b,cs,⟨⟨hq.1,λd=>hq.2.2 (A b d)⟩,hq.2.1,λhd=>hq.2.2 hd.1⟩,?_,hbb,by simp only;omega,by simp only;omega,?_⟩
   ·simp only[N];split<;>simp[add_lit]
   ·simp only[zk]at ht ⊢;have hd:g.dropLast.map qL=(g.map qL).take (g.length-1):=by rw[yU,List.map_take]
    rw[hd,←ht,yP,Cz]
    congr 1;omega
 ·have x:i<t.bs.length-1:=by
   have:=(cX.1 w).1;simpa[gP.rem]using this
  rw[yU,zm]at hi;simp only[gP.rem,yU,zm]at w;rw[zC (by rw[z.1];exact x)]at hi;rw[zC x]at w;obtain⟨m1,m2⟩:=z.2 i s y hi w;refine⟨aH.mono (aH.bS m1 r λb _ d G=>(B b d).2 G).mE λb _ d=>⟨d.1,λu=>?_⟩,m2⟩;obtain⟨a,N,e1⟩:=d.2;obtain⟨a',L,e2⟩:=u;obtain⟨M,rfl⟩:=cX.1 hi;obtain⟨K,rfl⟩:=cX.1 P;exact kS.1 V i _ M K x a a' N L (e1.trans e2.symm)
def xC (out:Sl)(bs:List (List Int))(U:Hp)(G:Rg):Prop:=∃sls:List Sl,cV out 1 (sls.map qL) U G/\rm sls bs U G
theorem xC.loc (out:Sl)(bs:List (List Int)):dN (xC out bs):=λU j F G ⟨a,i,g⟩ b d=>⟨a,cV.loc _ _ _ _ _ _ _ i b d,rm.loc _ _ _ _ _ _ g b d⟩
end Go.Ar
namespace Go.Ar
open Go Go.Vc Go.Proofs
open Go.Bu (Zz)
variable {U:Hp}{F:Rg}{p:Nat}{ow:Nat->Nat}
def wg (ow:Nat->Nat)(x:Nat)(l:List (Nat×Nat×Nat)):Prop:=
 l.length<=x/\(∀r∈l,1<=r.2.1/\r.1+r.2.1<=x/\∀y,r.1<=y->y<r.1+r.2.1->ow y=r.2.2)/\∀y,y<x->ow y≠0->∃r∈l,r.1<=y/\y<r.1+r.2.1
theorem wg.new {x:Nat}{l:List (Nat×Nat×Nat)}(h:wg ow x l):wg ow (x+1) (l++[(x,1,ow x)]):=by
 refine⟨by simp;exact h.1,λr d=>?_,λy i g=>?_⟩
 ·rcases zK.1 d with a|a
  ·exact⟨(h.2.1 r a).1,by have:=(h.2.1 r a).2.1;omega,(h.2.1 r a).2.2⟩
  ·simp at a;subst a;exact⟨zE _,zE _,λy a b=>by simp only at a b ⊢;rw[show y=x by omega]⟩
 ·rcases ku y x with a|a
  ·obtain⟨r,d,b⟩:=h.2.2 y a g;exact⟨r,kO _ d,b⟩
  ·exact⟨(x,1,ow x),by simp,by simp only;omega⟩
theorem wg.more {x a m no:Nat}{l:List (Nat×Nat×Nat)}(h:wg ow x (l++[(a,m,no)]))(he:a+m=x)(hno:ow x=no):wg ow (x+1) (l++[(a,m+1,no)]):=by
 refine⟨by have:=h.1;simp at this ⊢;omega,λr g=>?_,λy j i=>?_⟩
 ·rcases zK.1 g with b|b
  ·have:=h.2.1 r (kO _ b);exact⟨this.1,O,this.2.2⟩
  ·simp at b;subst b;have:=h.2.1 (a,m,no) aA;refine⟨by simp only;omega,by simp only;omega,λy b d=>?_⟩;simp only at b d ⊢;rcases ku y (a+m)with h3|h3
   ·exact this.2.2 y b h3
   ·rw[show y=x by omega];exact hno
 ·rcases ku y x with b|b
  ·obtain⟨r,g,d⟩:=h.2.2 y b i;rcases zK.1 g with h3|h3
   ·exact⟨r,kO _ h3,d⟩
   ·simp at h3;subst h3;exact⟨(a,m+1,no),by simp,by simp only at d ⊢;omega⟩
  ·exact⟨(a,m+1,no),by simp,by simp only;have:=h.2.1 (a,m,no) aA;simp only at this;omega⟩
end Go.Ar
namespace Go.Proofs
open Go.Vc
set_option maxRecDepth 100000
def YK.h:Hn:=.q .o1 (.q (.q .o4 (.q .o2 .aJ)) (.q .o5 .aM))
def YK.v (a:R2)(b c:Int)(d:Hp)(e:aN):Prop:=XJ.c a b 1 d λf g=>If (f != 0) (e f g) (Nz 8<|bM (b.tdiv 8) λh=>Zq.c a h c g λi=>e 0 i)
theorem YK.o {a b c d e}(f:YK.v a b c d e):YK.c a b c d e:=Wa Tryz.func62 (x:=YK.h) (R0 f)
def Y9.h:Hn:=.q .o2 (.q (.q .o4 (.q .o2 (.c (.q .o3 .l) .l))) (.q .o6 .l))
def Y9.v (a:R2)(b:Int)(c:Hp)(d:Int->Int->Hp->Prop):Prop:=XJ.c a b 1 c λe f=>If (e != 0) (d 0 e f) (Nz 8<|bM (b.tdiv 8) λg=>Zv.c a g f λh i=>d h 0 i)
theorem Y9.o {a b c d}(e:Y9.v a b c d):Y9.c a b c d:=Wa Tryz.func65 (x:=Y9.h) (R0 e)
def XJ.h:Hn:=.q .o1 (.q (.k (.q .o4 (.c .aM (.q .o3 (.c .aM (.q (.cU (.seq [.op,.op,.op,.cY false 3 (RI.ops 3),.op])) .aK)))))) (.q .fX (.q (.q (.cU (.gI true [] [(50,.one .b)] (.tk [0,1,2,3,4,5,6,7] (.split 39 (.tk [8,9,10,11,12,13,14,15,16,17,18] (.done)) (.tk [8,9,10,11,12,13,14,15,16] (.all [(17,.take 18 (.done))])))))) .aK) .aM)))
def XJ.v (a:R2)(b c:Int)(d:Hp)(e:aN):Prop:=XT.c a d λf g=>If (!f) (e 5 g) (If (c==0) (e 0 g) (bX (λh i=>If h (e 7 i) (Nz 256<|bM (b.tdiv 256) λj=>Nz 8<|bM (b.tdiv 8) λk=>bM (k+c) λl=>bM (l-1) λm=>Nz 32<|bM (m.tdiv 32) λn=>Jn [.b] (λ(o:Bool) p=>If o (e 7 p) (e 0 p)) λq=>dY i λr=>bW a λs=>aT r s 0 λt=>If (n≥((t.len:Nat):Int)) (q true i) (bW a λu=>aT r u 0 λv=>bM (n+1) λw=>fD v 2 j w (v.cap:Nat) λx=>gG r .b ((Addr.mk 0 0 none).add 0) λ(y:Bool)=>gG r .b ((Addr.mk 0 0 none).add 1) λ(z:Bool)=>Wq.c x y z i λaa ab=>And (r ab) <| q aa ab))) λac=>If (b<0) (ac true g) (Nz 8 <| ac ((b.tmod 8) != 0) g)))
theorem XJ.o {a b c d e}(f:XJ.v a b c d e):XJ.c a b c d e:=Wa Tryz.func104 (x:=XJ.h) (R0 f)
def Zq.h:Hn:=.q .o3 (.kI [] (.q (.oq 9) (.c (.q (.cU (.tail 7 (RI.ops 7) [.op])) (.q (.cU (.held true [6] (.tk [0,1,2,3,4] (.all [(5,.all [(6,.done)])])))) (.cU (.tail 13 (RI.ops 13) [.op])))) .l)) (.o 11))
def Zq.v (a:R2)(b c:Int)(d:Hp)(e:aP):Prop:=Nz 32<|bM (b.tdiv 32) λf=>Jn [] (λg=>bJ a 1 g λi=>Lk .i64 .s i f g λj=>Nz 32 <| Ix (j.getD ⟨none,0,0⟩).a (j.getD ⟨none,0,0⟩).len (b.tmod 32) 1 λk=>dX k (.I c) g λl=>e l) λm=>bF a 0 d λo=>Ix o.a o.len f 2 λp=>aZ p 0 d λq=>aZ p 1 d λr=>l5 ((Addr.mk 1 0 none).add 0) d λs=>l5 ((Addr.mk 1 0 none).add 1) d λt=>If (!((q==s)&&((r==t)&&true))) (bF a 0 d λv=>l5 ((Addr.mk 1 0 none).add 0) d λw=>l5 ((Addr.mk 1 0 none).add 1) d λx=>Ix v.a v.len f 2 λy=>aR y 0 (.bool w) d λz=>aR y 1 (.bool x) z λaa=>dY aa λab=>bW a λac=>gG ab .m (ac.add 1) λ(ad:Option Nat)=>Mk 32 32 8 3 [.I 0] aa λae af=>And (ab af) <| kD .i64 .s ad f ae af λag=>bE a 2 ag λai=>bJ a 1 ag λak=>r4 .i64 .s ak ag λal=>bW a λam=>aR am 2 (.I (if al>ai then al else ai)) ag λan=>m an) (m d)
theorem Zq.o {a b c d e}(f:Zq.v a b c d e):Zq.c a b c d e:=Wa Tryz.func105 (x:=Zq.h) (R0 f)
def Zv.h:Hn:=.q .o1 (.q (.q (.o 12) (.q .o1 (.c (.q .o6 .l) .l))) .aM)
def Zv.v (a:R2)(b:Int)(c:Hp)(d:aN):Prop:=bJ a 1 c λf=>Nz 32<|bM (b.tdiv 32) λg=>Lk .i64 .s f g c λh=>If h.isSome (Nz 32 <| Ix (h.getD ⟨none,0,0⟩).a (h.getD ⟨none,0,0⟩).len (b.tmod 32) 1 λi=>bN i c λj=>d j c) (d 0 c)
theorem Zv.o {a b c d}(e:Zv.v a b c d):Zv.c a b c d:=Wa Tryz.func110 (x:=Zv.h) (R0 e)
def X3.h:Hn:=.q .o1 (.q (.q .o3 .aK) (.q .o6 .l))
def X3.v (a:R2)(b:Hp)(c:aN):Prop:=XT.c a b λd e=>If (!d) (c 0 e) (bF a 0 e λg=>c ((g.len:Nat):Int) e)
theorem X3.o {a b c}(d:X3.v a b c):X3.c a b c:=Wa Tryz.func130 (x:=X3.h) (R0 d)
def XT.h:Hn:=.q .o1 (.q (.cU (.seq [.op,.op,.op,.cY true 6 (RI.ops 6),.op])) .l)
def XT.v (a:R2)(b:Hp)(c:aO):Prop:=bX (λd e=>c d e) λf=>If (!a.isNone) (bF a 0 b λh=>f (decide (((h.len:Nat):Int)>0)) b) (f false b)
theorem XT.o {a b c}(d:XT.v a b c):XT.c a b c:=Wa Tryz.func131 (x:=XT.h) (R0 d)
def Kz.h:Hn:=.q .o2 (.q (.q (.cU (.seq [.op,.op,.op,.cY false 2 [.op,.op]])) .aJ) (.q .o7 .l))
def Kz.v (a:Int)(b:Hp)(c:Option Addr->Int->Hp->Prop):Prop:=bX (λd e=>If d (c none 1 e) (Mk a a 2 181 [.bool false,.bool false] e λf g=>Nw (.map #[] 0) g λh i=>aV #[.slice f.a f.len f.cap,.map (some h.block),.I 0] 185 i λj k=>c (some j) 0 k)) λl=>If (a<1) (l true b) (l (decide (a>1024)) b)
theorem Kz.o {a b c}(d:Kz.v a b c):Kz.c a b c:=Wa Tryz.func153 (x:=Kz.h) (R0 d)
def Zu.h:Hn:=.q .o2 (.q (.k (.q .o4 (.c .aL (.q (.cU (.seq [.op,.op,.op,.cY false 2 [.op,.op],.op,.cY false 7 (RI.ops 7),.op,.cY false 9 (RI.ops 9),.op])) .aJ)))) (.q (.o 11) .l))
def Zu.v (a:R2)(b c:Int)(d:Hp)(e:Sl->Int->Hp->Prop):Prop:=XT.c a d λf g=>If (!f) (e ⟨none,0,0⟩ 5 g) (bX (λh i=>bX (λj k=>bX (λl m=>If l (e ⟨none,0,0⟩ 1 m) (bF a 0 m λo=>bM (b+c) λp=>fD o 2 b p (o.cap:Nat) λq=>e q 0 m)) λr=>If j (r true k) (bF a 0 k λt=>bM (((t.len:Nat):Int)-b) λu=>r (decide (c>u)) k)) λv=>If h (v true i) (bF a 0 i λx=>v (decide (b>((x.len:Nat):Int))) i)) λy=>If (b<0) (y true g) (y (decide (c<1)) g))
theorem Zu.o {a b c d e}(f:Zu.v a b c d e):Zu.c a b c d e:=Wa Tryz.func306 (x:=Zu.h) (R0 f)
def Zr.h:Hn:=.q .o1 (.q .o2 (.k (.loop [(8,.I)] (.q (.q .o5 (.c .l .l)) (.q (.k (.q (.cU (.tail 7 (RI.ops 7) [.op])) .o6)) .o3)))))
def Zr.v (a:R2)(b c:Int)(d e:Bool)(f:Hp)(g:aP):Prop:=aV #[.bool d,.bool e] 181 f λh i=>X6 [bO] (λj=>j b i) λk (l:Int) m=>bM (b+c) λn=>If (l<n) (bF a 0 m λp=>aZ h 0 m λq=>aZ h 1 m λr=>Ix p.a p.len l 2 λs=>aR s 0 (.bool q) m λt=>aR s 1 (.bool r) t λu=>bJ a 1 u λw=>mn .i64 .s w l u λx=>bM (l+1) λy=>k y x) (g m)
theorem Zr.o {a b c d e f g}(h:Zr.v a b c d e f g):Zr.c a b c d e f g:=Wa Tryz.func307 (x:=Zr.h) (R0 h)
def Zn.h:Hn:=.q .o1 (.q .o9 (.q (.k (.q .o3 (.c .aL (.q .o3 .aK)))) (.q .o5 .aM)))
def Zn.v (a:R2)(b c:Int)(d:Hp)(e:aN):Prop:=Zu.c a b c d λf g h=>If (g != 0) (e g h) (Wk.c f ⟨342,#[],#[]⟩ h λi j=>If i (e 5 j) (l5 ((Addr.mk 2 0 none).add 0) j λk=>l5 ((Addr.mk 2 0 none).add 1) j λl=>Zr.c a b c k l j λm=>e 0 m))
theorem Zn.o {a b c d e}(f:Zn.v a b c d e):Zn.c a b c d e:=Wa Tryz.func318 (x:=Zn.h) (R0 f)
def YQ.h:Hn:=.q .o2 (.q .o4 .l)
def YQ.v (a b:Bool)(c:Hp)(d:aO):Prop:=aV #[.bool a,.bool b] 181 c λe f=>aZ e 0 f λg=>aZ e 1 f λh=>l5 ((Addr.mk 0 0 none).add 0) f λi=>l5 ((Addr.mk 0 0 none).add 1) f λj=>d (!((g==i)&&((h==j)&&true))) f
theorem YQ.o {a b c d}(e:YQ.v a b c d):YQ.c a b c d:=Wa Tryz.func342 (x:=YQ.h) (R0 e)
end Go.Proofs
namespace Go.Ar
open Go Go.Vc Go.Proofs
open Go.Bu (Zz)
variable {U:Hp}{F:Rg}{p q r:Nat}{sp:Sp}
structure Gl (U:Hp):Prop where
 c0:cell U ⟨2,0,none⟩=some (.bool true)
 c1:cell U ⟨2,1,none⟩=some (.bool false)
 u0:cell U ⟨0,0,none⟩=some (.bool false)
 u1:cell U ⟨0,1,none⟩=some (.bool false)
structure Gc (U:Hp):Prop where
 d0:cell U ⟨1,0,none⟩=some (.bool true)
 d1:cell U ⟨1,1,none⟩=some (.bool true)
structure Gd (U:Hp):Prop where
 lt:1<U.size
def jf (F:Rg):Prop:=∀b,F b->b≠2/\b≠0
theorem KV {h:Hp}{b o:Nat}{v:Value}(hc:cell h ⟨b,o,none⟩=some v):b<h.size:=(Jw hc).1
theorem Gl.bS {σ':Hp}(g:Gl U)(e:Ext F U σ')(hF:jf F):Gl σ':=by
 have b:¬F 2:=λh=>(hF _ h).1 rfl;have a:¬F 0:=λh=>(hF _ h).2 rfl;exact⟨(KW e (KV g.c0) b).trans g.c0,(KW e (KV g.c1) b).trans g.c1,(KW e (KV g.u0) a).trans g.u0,(KW e (KV g.u1) a).trans g.u1⟩
theorem Gc.bS {σ':Hp}(g:Gc U)(e:Ext F U σ')(hF:¬F 1):Gc σ':=⟨(KW e (KV g.d0) hF).trans g.d0,(KW e (KV g.d1) hF).trans g.d1⟩
theorem Gc.bP {σ':Hp}(g:Gc U)(e:aF U σ'):Gc σ':=g.bS e id
theorem Gd.bS {σ':Hp}(g:Gd U)(e:Ext F U σ')(hF:¬F 1):Gd σ':=⟨u9 g.lt e.1⟩
theorem Gd.bP {σ':Hp}(g:Gd U)(e:aF U σ'):Gd σ':=g.bS e id
theorem Gc.gd (g:Gc U):Gd U:=⟨KV g.d0⟩
theorem Gl.bP {σ':Hp}(g:Gl U)(e:aF U σ'):Gl σ':=g.bS e λ_ h=>h.elim
theorem jf.grow (hF:jf F)(g:Gl U):jf (Grow F U):=λb a=>by
 rcases a with h|h
 ·exact hF b h
 ·have d:=KV g.c0;have i:=KV g.u0;exact⟨O,O⟩
theorem jf.sub {G:Rg}(hF:jf F)(h:∀b,G b->F b):jf G:=λb a=>hF b (h b a)
def gD:Nat->Bool×Bool
 | 0=>(false,false)
 | 1=>(true,false)
 | _=>(true,true)
def ia (st:List Nat):List Value:=st.flatMap λx=>[.bool (gD x).1,.bool (gD x).2]
theorem V8 (l:List Nat):(ia l).length=2*l.length:=by
 induction l with
 | nil=>rfl
 | cons x l ih=>simp only[ia,oy,zJ,zS,kr]at *;omega
theorem E9 {l:List Nat}{i x:Nat}(h:l[i]?=some x):(ia l)[2*i]?=some (.bool (gD x).1)/\(ia l)[2*i+1]?=some (.bool (gD x).2):=by
 induction l generalizing i with
 | nil=>simp at h
 | cons y l ih=>
  have e:ia (y::l)=[.bool (gD y).1,.bool (gD y).2]++ia l:=by simp[ia]
  rw[e];cases i with
  | zero=>simp at h;subst h;simp
  | succ i=>
   have:=ih (i:=i) (by simpa using h);rw[show 2*(i+1)=2*i+2 by omega];simpa using this
theorem FE {l:List Nat}{i v:Nat}(h:i<l.length)(rest:List Value):((ia l++rest).set (2*i) (.bool (gD v).1)).set (2*i+1) (.bool (gD v).2)=ia (l.set i v)++rest:=by
 induction l generalizing i with
 | nil=>simp at h
 | cons y l ih=>
  have e:∀z m,ia (z::m)=.bool (gD z).1 :: .bool (gD z).2::ia m:=λz m=>by simp[ia]
  cases i with
  | zero=>simp[e]
  | succ i=>
   have:=ih (i:=i) (by simpa using h);rw[sX,e,e,show 2*(i+1)=2*i+1+1 by omega];simp only[lO,sX];rw[this]
theorem DU {x y:Nat}(hx:x<=2)(hy:y<=2):(((gD x).1==(gD y).1)&&(((gD x).2==(gD y).2)&&true))=(x==y):=by
 match x,y,hx,hy with
 | 0,0,_,_=>rfl
 | 1,1,_,_=>rfl
 | 2,2,_,_=>rfl
 | 0,1,_,_=>rfl
 | 0,2,_,_=>rfl
 | 1,0,_,_=>rfl
 | 1,2,_,_=>rfl
 | 2,0,_,_=>rfl
 | 2,1,_,_=>rfl
theorem KZ {α:Type}(x:Int×α)(l:List (Int×α))(k:Int):bU (x::l) k=if x.1=k then some x.2 else bU l k:=by
 unfold bU;rw[vB];by_cases h:x.1=k
 ·simp[h]
 ·have:(x.1==k)=false:=by simpa using h
  rw[this,zB h]
theorem Oc {α:Type}(l:List (Int×α))(n k:Int)(v:α):bU (l.map λx=>if x.1==n then(n,v)else x) k=if k=n then(if l.any (λx=>x.1==n)then some v else none)else bU l k:=by
 induction l with
 | nil=>simp[bU]
 | cons x l ih=>
  rw[zR,KZ,ih,KZ,List.any_cons];by_cases hx:x.1=n
  ·by_cases hk:k=n
   ·subst hk;simp[hx]
   ·have:¬n=k:=λe=>hk e.symm;simp[hx,hk,this]
  ·have a:(x.1==n)=false:=by simpa using hx
   simp only[a,za,jT,wH];by_cases hk:k=n
   ·subst hk;simp[hx]
   ·simp[hk]
theorem Tq {α:Type}(l:List (Int×α))(n k:Int)(v:α)(h:l.any (λx=>x.1==n)=false):bU (l++[(n,v)]) k=if k=n then some v else bU l k:=by
 induction l with
 | nil=>
  rw[sN,KZ];by_cases hk:k=n
  ·simp[hk]
  ·have:¬n=k:=λe=>hk e.symm;simp[hk,this,bU]
 | cons x l ih=>
  rw[List.any_cons,wD]at h;rw[lO,KZ,ih h.2,KZ];have a:¬x.1=n:=by simpa using h.1
  by_cases hk:k=n
  ·subst hk;simp[a]
  ·simp[hk]
theorem US {α:Type}(l:List (Int×α))(n k:Int)(v:α):bU (dA l n v) k=if k=n then some v else bU l k:=by
 unfold dA;cases h:l.any (λx=>x.1==n)
 ·rw[zB aA,Tq l n k v h]
 ·rw[zC rfl,Oc,h];simp
theorem Dv {α:Type}(l:List (Int×α))(n k:Int):bU (cO l n) k=if k=n then none else bU l k:=by
 unfold cO
 induction l with
 | nil=>simp[bU]
 | cons x l ih=>
  rw[uG,KZ];by_cases hx:x.1=n
  ·have:(!(x.1==n))=false:=by simp[hx]
   rw[this];simp only[za,jT,ih];by_cases hk:k=n
   ·simp[hk]
   ·have:¬x.1=k:=λe=>hk (e.symm.trans hx);simp[hk,this]
  ·have:(!(x.1==n))=true:=by simpa using hx
   rw[this,zC rfl,KZ,ih];by_cases hk:k=n
   ·subst hk;simp[hx]
   ·simp[hk]
theorem Z9 {α:Type}{l:List (Int×α)}{k:Int}{v:α}(h:bU l k=some v):(k,v)∈l:=by
 unfold bU at h;cases hf:l.find? (λx=>x.1==k)with
 | none=>rw[hf]at h;cases h
 | some x=>
  rw[hf]at h;have g:=ux hf;have d:=uH hf;have b:x.1=k:=by simpa using g
  have a:x.2=v:=by simpa using h
  rw[←b,←a];exact d
theorem PC {α:Type}{l:List (Int×α)}{k:Int}:(bU l k).isSome=true↔k∈l.map (·.1):=by
 unfold bU;rw[Option.isSome_map,CA];simp
def Ij (U:Hp)(s:Sl)(b:Nat)(f:Nat->Int):Prop:=s.a=some ⟨b,0,none⟩/\s.len=32/\32<=s.cap/\∃cs,bZ U b cs/\32<=cs.length/\∀j,j<32->cs[j]?=some (.int .i64 (f j))
structure fI (U:Hp) (F:Rg) (p q r:Nat) (l:List (Int×Sl)) (B:Nat->Nat) (sp:Sp):Prop where
 hd:∃cap,sp.st.length<=cap/\bZ U p [.slice (some ⟨q,0,none⟩) sp.st.length cap,.map (some r),.int .i64 (sp.pk:Int)]
 row:∃rest,bZ U q (ia sp.st++rest)
 map:dJ U r .i64 .s l
 keys:∀x:Int,(bU l x).isSome=true↔∃k:Nat,x=k/\sp.st[k]?=some 2
 wd:∀(k:Nat) s,bU l (k:Int)=some s->Ij U s (B k) λj=>sp.wd (32*k+j)
 inj:∀k k':Nat,sp.st[k]?=some 2->sp.st[k']?=some 2->B k=B k'->k=k'
 out:∀k:Nat,sp.st[k]?=some 2->F (B k)/\B k≠p/\B k≠q/\B k≠r
 fs:F p/\F q/\F r/\p≠q/\p≠r/\q≠r
 zero:∀w:Nat,sp.st[w/32]?≠some 2->sp.wd w=0
 n1:1<=sp.st.length
 n2:sp.st.length<=1024
 tj:∀x∈sp.st,x<=2
 pk:sp.pk<=1024
def dP (U:Hp)(F:Rg)(p:Nat)(sp:Sp):Prop:=∃q r l B,fI U F p q r l B sp
theorem fI.entry {l:List (Int×Sl)}{B:Nat->Nat}(h:fI U F p q r l B sp){k:Nat}(hk:sp.st[k]?=some 2):∃s,bU l (k:Int)=some s/\Ij U s (B k) λj=>sp.wd (32*k+j):=by
 have:=(h.keys (k:Int)).2 ⟨k,rfl,hk⟩;obtain⟨s,a⟩:=pX.1 this;exact⟨s,a,h.wd k s a⟩
theorem fI.l3 {l:List (Int×Sl)}{B:Nat->Nat}(h:fI U F p q r l B sp){k:Nat}{s:Sl}(hs:bU l (k:Int)=some s):sp.st[k]?=some 2:=by
 obtain⟨k',e,a⟩:=(h.keys (k:Int)).1 (by rw[hs];rfl);have:k=k':=by omega
 subst this;exact a
theorem dP.loc:dN λU F=>dP U F p sp:=λU J F G ⟨q,r,l,B,h⟩ P y=>by
 have d:∀{b:Nat} {i:List Value},bZ U b i->F b->bZ J b i/\G b:=by
  rintro b i ⟨e,C⟩ N;have:=y b (bZ.lt ⟨e,C⟩) N;exact⟨⟨e,this.2.trans C⟩,this.1⟩
 obtain⟨c,L,hd⟩:=h.hd;obtain⟨m,a⟩:=h.row;obtain⟨M,w,D,K⟩:=h.map;have j:=y r (jS.1 D).1 h.fs.2.2.1;refine⟨q,r,l,B,⟨c,L,(d hd h.fs.1).1⟩,⟨m,(d a h.fs.2.1).1⟩,⟨M,w,j.2.trans D,K⟩,h.keys,λk s g=>?_,h.inj,λk g=>?_,⟨(d hd h.fs.1).2,(d a h.fs.2.1).2,j.1,h.fs.2.2.2⟩,h.zero,h.n1,h.n2,h.tj,h.pk⟩
 ·obtain⟨A,x,E,i,u,z⟩:=h.wd k s g;exact⟨A,x,E,i,(d u (h.out k (h.l3 g)).1).1,z⟩
 ·obtain⟨s,H,A,x,E,i,u,z⟩:=h.entry g;exact⟨(d u (h.out k g).1).2,(h.out k g).2⟩
theorem dP.bP {σ':Hp}(h:dP U F p sp)(e:aF U σ'):dP σ' F p sp:=dN.bP dP.loc h e
variable {l:List (Int×Sl)}{B:Nat->Nat}
theorem fI.rS (h:fI U F p q r l B sp){K:Sl->Prop}(hK:∀cap,sp.st.length<=cap->K ⟨some ⟨q,0,none⟩,sp.st.length,cap⟩):jG (Addr.add ⟨p,0,none⟩ 0) U K:=by
 obtain⟨c,a,hd⟩:=h.hd;exact hd.rS rfl (hK c a)
theorem fI.rM (h:fI U F p q r l B sp){K:Option Nat->Prop}(hK:K (some r)):lP (Addr.add ⟨p,0,none⟩ 1) U K:=by
 obtain⟨c,a,hd⟩:=h.hd;exact hd.rM rfl hK
theorem fI.Bh (h:fI U F p q r l B sp){i x:Nat}(hx:sp.st[i]?=some x){K:Bool->Bool->Prop}(hK:K (gD x).1 (gD x).2):l5 (Addr.add ⟨q,2*i,none⟩ 0) U λa=>l5 (Addr.add ⟨q,2*i,none⟩ 1) U λb=>K a b:=by
 obtain⟨g,d⟩:=h.row;have hi:=(cX.1 hx).1;have j:=E9 hx;refine d.rB (x:=(gD x).1) ?_ (d.rB (x:=(gD x).2) ?_ hK)
 ·rw[kC,zd (by rw[V8];omega)];exact j.1
 ·rw[zd (by rw[V8];omega)];exact j.2
theorem Ct (h:dP U F p sp){R:aO}(hR:R true U):XT.c (aW p) U R:=by
 refine XT.o ?_;unfold XT.v;obtain⟨q,r,l,B,h⟩:=h;have:=h.n1;refine bX.intro (cF rfl (bL (h.rS λcap _=>?_)));rw[zI aC];exact hR
theorem Jp (h:dP U F p sp){R:aN}(hR:R (sp.st.length:Int) U):X3.c (aW p) U R:=by
 refine X3.o ?_;unfold X3.v;have a:=h;obtain⟨q,r,l,B,h⟩:=h;exact Ct a (cD rfl (bL (h.rS λcap _=>hR)))
theorem fI.wQ (h:fI U F p q r l B sp):l.length=sp.st.count 2:=by
 have s:=h.map.nodup;have m:(l.map (·.1)).Perm (((List.range sp.st.length).filter λk=>sp.st[k]?==some 2).map λk=>((k:Nat):Int)):=by
  rw[DO s]
  ·intro x;rw[←PC,h.keys];simp only[zD,zL,zg,zU];constructor
   ·rintro⟨k,rfl,hk⟩;exact⟨k,⟨(cX.1 hk).1,hk⟩,rfl⟩
   ·rintro⟨k,⟨_,hk⟩,rfl⟩;exact⟨k,rfl,hk⟩
  ·have d:((List.range sp.st.length).filter λk=>sp.st[k]?==some 2).Pairwise (· ≠ ·):=List.Pairwise.sublist tP List.nodup_range;exact List.Pairwise.map _ (λa b (g:a≠b) i=>g (by exact_mod_cast i)) d
 have j:=m.length_eq;simp only[zk]at j;rw[j,←yE];have key:∀st:List Nat,(List.range st.length).countP (λk=>st[k]?==some 2)=st.count 2:=by
  intro st
  induction st with
  | nil=>rfl
  | cons x st ih=>
   rw[zS,List.range_succ_eq_map,wR,List.countP_map,List.count_cons,←ih]
   congr 1
 exact key sp.st
end Go.Ar
namespace Go.Ar
open Go Go.Vc Go.Proofs
open Go.Bu (Zz)
variable {U:Hp}{F:Rg}{p q r:Nat}{sp:Sp}{l:List (Int×Sl)}{B:Nat->Nat}
theorem Wka (l:List Nat)(n:Nat):ia (l.take n)=(ia l).take (2*n):=by
 induction l generalizing n with
 | nil=>simp[ia]
 | cons y l ih=>
  have e:∀z m,ia (z::m)=.bool (gD z).1 :: .bool (gD z).2::ia m:=λz m=>by simp[ia]
  cases n with
  | zero=>simp[ia]
  | succ n=>
   rw[vY,e,e,ih,show 2*(n+1)=2*n+1+1 by omega];simp
theorem M3 (l:List Nat)(n:Nat):ia (l.drop n)=(ia l).drop (2*n):=by
 induction l generalizing n with
 | nil=>simp[ia]
 | cons y l ih=>
  have e:∀z m,ia (z::m)=.bool (gD z).1 :: .bool (gD z).2::ia m:=λz m=>by simp[ia]
  cases n with
  | zero=>simp[ia]
  | succ n=>
   rw[wq,e,ih,show 2*(n+1)=2*n+1+1 by omega];simp
theorem SQ (n v:Nat):ia (List.replicate n v)=(List.replicate n [Value.bool (gD v).1,.bool (gD v).2]).flatten:=by
 induction n with
 | zero=>rfl
 | succ n ih=>rw[tD,tD,vv,←ih];simp[ia]
theorem _root_.Go.Vc.cV.Bh {s:Sl}{l:List Nat}(h:cV s 2 (ia l) U F){i x:Nat}(hx:l[i]?=some x){K:Bool->Bool->Prop}(hK:K (gD x).1 (gD x).2) :
 Ix s.a s.len (i:Int) 2 λa=>l5 (a.add 0) U λu=>l5 (a.add 1) U λw=>K u w:=by
 have hi:=(cX.1 hx).1;have m:=E9 hx;obtain⟨b,o,j,r⟩:=h.cell m.1;obtain⟨y,o1,d,g⟩:=h.cell m.2;rw[j]at d;cases d;have p:=h.1;rw[V8]at p;rw[j];refine ix O O ?_;rw[add_lit];refine nN ?_ (nN ?_ hK)<;>rw[add_lit]
 ·rw[show o+(i:Int).toNat*2+0=o+2*i by omega];exact r
 ·rw[show o+(i:Int).toNat*2+1=o+(2*i+1) by omega];exact g
theorem _root_.Go.Vc.cV.xO {s:Sl}{l:List Nat}(h:cV s 2 (ia l) U F):s.len=l.length:=by
 have:=h.1;rw[V8]at this;omega
theorem Ζ {s:Sl}{xs:List Nat}(h:cV s 2 (ia xs) U F)(hl:xs.length<=1000000)(h2:∀x∈xs,x<=2){v:Nat}(hv:v<=2){R:aN}
 (hR:∀(t:Int) σ',aF U σ'->decide (t≥0)=xs.contains v->R t σ'):Wv.c s (gD v).1 (gD v).2 U R:=by
 refine Wv.o ?_;unfold Wv.v;have z:=h.xO;refine nw (cs:=[.bool (gD v).1,.bool (gD v).2]) λw E e A=>?_;have h:=aH.bP h e;refine Qv (a:=bO) (λ(t:Int) u=>∃i:Nat,t=(i:Int)/\i<=xs.length/\u=w/\∀j,j<i->xs[j]?≠some v) (λt _=>xs.length-t.toNat) ⟨0,rfl,O,rfl,λj g=>O⟩ ?_;rintro t u ⟨i,rfl,hi,rfl,b⟩;refine cN (λD=>?_) λC=>?_
 ·have d:i<xs.length:=by omega
  have y:xs[i]?=some xs[i]:=cW d;refine A.rB rfl (A.rB rfl (h.Bh y ?_));rw[DU hv (h2 _ (zt d))];refine cQ (λp=>?_) λp=>?_
  ·have:v=xs[i]:=by simpa using p
   refine hR _ _ e ?_;have B:xs.contains v=true:=by rw[this];simp
   rw[B,zI O]
  ·have r:¬v=xs[i]:=by simpa using p
   refine cT (m:=i+1) O O ⟨⟨i+1,rfl,O,rfl,λj g=>?_⟩,O⟩;by_cases e:j=i
   ·subst e;rw[y];intro e2;cases e2;exact r rfl
   ·exact b j O
 ·refine hR _ _ e ?_;have:xs.contains v=false:=by
   simp only[tx,decide_eq_false_iff_not];intro hm;obtain⟨j,g⟩:=zP hm;have:=(cX.1 g).1;exact b j O g
  rw[this];rfl
theorem Ta {s:Sl}{xs:List Nat}(h:cV s 2 (ia xs) U F)(hl:xs.length<=1000000)(h2:∀x∈xs,x<=2){v:Nat}(hv:v<=2){R:aO}
 (hR:∀σ',aF U σ'->R (xs.contains v) σ'):Wq.c s (gD v).1 (gD v).2 U R:=by
 refine Wq.o ?_;unfold Wq.v;refine nw (cs:=[.bool (gD v).1,.bool (gD v).2]) λw g e a=>a.rB rfl (a.rB rfl ?_);refine Ζ (aH.bP h e) hl h2 hv λt σ' b d=>?_;rw[d];exact hR σ' (Ext.trans e b)
theorem MO (g:Gl U){x:Nat}(hx:x<=2){R:aO}(hR:∀σ',aF U σ'->R (x != 0) σ'):YQ.c (gD x).1 (gD x).2 U R:=by
 refine YQ.o ?_;unfold YQ.v;refine nw (cs:=[.bool (gD x).1,.bool (gD x).2]) λv d e a=>a.rB rfl (a.rB rfl ?_);have g:=g.bP e;refine nN (by rw[←g.u0];rfl) (nN (by rw[←g.u1];rfl) ?_);have b:(((gD x).1==false)&&(((gD x).2==false)&&true))=(x==0):=DU hx (y:=0) O;rw[b];exact hR v e
theorem MX {s:Sl}{xs:List Nat}(h:cV s 2 (ia xs) U F)(g:Gl U)(hl:xs.length<=1000000)(h2:∀x∈xs,x<=2){R:aO}
 (hR:∀σ',aF U σ'->R (xs.any (· != 0)) σ'):Wk.c s ⟨342,#[],#[]⟩ U R:=by
 refine Wk.o ?_;unfold Wk.v;refine Wu.o ?_;unfold Wu.v;have B:=h.xO;refine Qv (a:=bO) (λ(t:Int) C=>∃i:Nat,t=(i:Int)/\i<=xs.length/\aF U C/\∀(j x:Nat),j<i->xs[j]?=some x->x=0) (λt _=>xs.length-t.toNat) ⟨0,rfl,O,Ext.refl _ _,λj x r=>O⟩ ?_;rintro t w ⟨i,rfl,hi,e,p⟩;refine cN (λG=>?_) λD=>?_
 ·have d:i<xs.length:=by omega
  have A:xs[i]?=some xs[i]:=cW d;refine(aH.bP h e).Bh A ?_;refine G8 (all := #[.agg #[.bool (gD xs[i]).1,.bool (gD xs[i]).2]]) (by kernel_rfl) aA ?_;refine MO (g.bP e) (h2 _ (zt d)) λE z=>?_;refine cQ (λu=>?_) λu=>?_
  ·have:xs.any (· != 0)=true:=jV.2 ⟨_,zt d,u⟩;have:=hR E (Ext.trans e z);rw[‹xs.any (· != 0)=true›]at this;show R (decide ((i:Int)≥0)) _;rw[zI O];exact this
  ·have y:xs[i]=0:=by simpa using u
   refine cT (m:=i+1) O O ⟨⟨i+1,rfl,O,Ext.trans e z,λj x r b=>?_⟩,O⟩;by_cases e:j=i
   ·subst e;rw[A]at b;cases b;exact y
   ·exact p j x O b
 ·have:xs.any (· != 0)=false:=by
   rw[mC];intro x hm;obtain⟨j,r⟩:=zP hm;have:=(cX.1 r).1;simpa using p j x O r
  have:=hR w e;rw[‹xs.any (· != 0)=false›]at this;exact this
theorem fI.part (h:fI U F p q r l B sp){x y c:Nat}(hl:x+y<=sp.st.length):cV ⟨some ⟨q,2*x,none⟩,y,c⟩ 2 (ia ((sp.st.drop x).take y)) U F:=by
 obtain⟨d,b⟩:=h.row;have a:(ia ((sp.st.drop x).take y)).length=y*2:=by rw[V8,zY,ky];omega
 refine⟨a,.inr ⟨q,2*x,_,h.fs.2.1,rfl,b.q,λj g=>?_⟩⟩;rw[a]at g;rw[zd (by rw[V8];omega),Wka,M3,zm,zC O,lg]
theorem NJ (h:dP U F p sp)(a m:Int){R:Sl->Int->Hp->Prop}(h0:Zz sp.st.length a m=false->R ⟨none,0,0⟩ 1 U)
 (h1:∀(x y:Nat) s,a=x->m=y->1<=y->x+y<=sp.st.length->cV s 2 (ia ((sp.st.drop x).take y)) U F->R s 0 U):Zu.c (aW p) a m U R:=by
 refine Zu.o ?_;unfold Zu.v;have j:=h;obtain⟨q,r,l,B,h⟩:=h;have n2:=h.n2;have b:¬(0<=a/\1<=m/\m<=sp.st.length-a)->R ⟨none,0,0⟩ 1 U:=λw=>h0 (by simp only[Zz,←wz];exact zM w);refine Ct j (cD rfl (bX.intro (cN (λg=>bX.intro (cF rfl (bX.intro (cF rfl (cF rfl (b O)))))) λg=>?_)));refine bX.intro (cN (λz=>bX.intro (cF rfl (cF rfl (b O)))) λz=>bL (h.rS λcap d=>?_));simp only;refine bX.intro (cN (λi=>cF rfl (b O)) λi=>?_);refine bL (h.rS λcap d=>ar aC aC ?_);simp only;refine cN (λA=>b O) λA=>?_;obtain⟨x,rfl⟩:=zc (show 0<=a by omega);obtain⟨y,rfl⟩:=zc (show 0<=m by omega);refine bL (h.rS λcap d=>cT (m:=x+y) O O ?_);refine jA O aC (zE _) ?_;simp only;rw[zB O];refine h1 x y _ rfl rfl O O ?_;have:=h.part (x:=x) (y:=y) (c:=cap-x) O;have e:(Option.map (λ(u:Addr)=>u.add (x*2)) (some (⟨q,0,none⟩:Addr)))=some ⟨q,2*x,none⟩:=by
  simp only[ze,add_lit];congr 2;omega
 rw[e,BL];exact this
def Sp.j7 (s:Sp)(k v:Nat):Sp:={s with st:=s.st.set k v,wd:=λw=>if k*32<=w/\w<(k+1)*32 then 0 else s.wd w}
theorem EG {st:List Nat}(h:∀x∈st,x<=2){k v:Nat}(hv:v<=2):∀x∈st.set k v,x<=2:=by
 intro x hx;rcases yX hx with h1|h1
 ·exact h x h1
 ·omega
theorem fI.j7 (h:fI U F p q r l B sp){k v:Nat}(hk:k<sp.st.length)(hv:v<=1){σ':Hp}(e:Ext (λb=>b=q\/b=r) U σ'){rest:List Value}
 (hb:bZ σ' q (ia (sp.st.set k v)++rest)) (hm:dJ σ' r .i64 .s (cO l (k:Int))):fI σ' F p q r (cO l (k:Int)) B (sp.j7 k v):=by
 have d:∀j:Nat,(sp.st.set k v)[j]?=some 2↔j≠k/\sp.st[j]?=some 2:=λj=>by
  rw[oa];by_cases hjk:k=j
  ·subst hjk;rw[zC rfl,zC hk];constructor
   ·intro h;have:v=2:=by simpa using h
    omega
   ·intro h;exact absurd rfl h.1
  ·rw[zB hjk];exact⟨λh=>⟨λe=>hjk e.symm,h⟩,λh=>h.2⟩
 obtain⟨c,H,hd⟩:=h.hd;have G:¬(p=q\/p=r):=by have:=h.fs;omega
 refine⟨⟨c,by simpa[Sp.j7]using H,by simpa[Sp.j7]using e.bV hd G⟩,⟨rest,hb⟩,hm,λx=>?_,λj s g=>?_,λj y K m=>?_,λj a=>?_,h.fs,λw u=>?_,by simpa[Sp.j7]using h.n1,by simpa[Sp.j7]using h.n2,EG h.tj O,h.pk⟩
 ·rw[Dv];by_cases hx:x=(k:Int)
  ·rw[zC hx];constructor
   ·intro h;cases h
   ·rintro⟨j,rfl,a⟩;have:=(d j).1 a;omega
  ·rw[zB hx,h.keys];constructor
   ·rintro⟨j,rfl,a⟩;exact⟨j,rfl,(d j).2 ⟨O,a⟩⟩
   ·rintro⟨j,rfl,a⟩;exact⟨j,rfl,((d j).1 a).2⟩
 ·rw[Dv]at g;by_cases hx:(j:Int)=(k:Int)
  ·rw[zC hx]at g;cases g
  ·rw[zB hx]at g;obtain⟨A,C,L,E,J,z,D⟩:=h.wd j s g;have M:=h.out j (h.l3 g);refine⟨A,C,L,E,e.bV J O,z,λi hi=>?_⟩;rw[D i hi];simp only[Sp.j7];rw[zB O]
 ·exact h.inj j y ((d j).1 K).2 ((d y).1 m).2
 ·exact h.out j ((d j).1 a).2
 ·simp only[Sp.j7]at u ⊢;by_cases hin:k*32<=w/\w<(k+1)*32
  ·rw[zC hin]
  ·rw[zB hin];refine h.zero w λm=>u ((d _).2 ⟨O,m⟩)
theorem Sp.pG (s:Sp)(a v:Nat):s.set a 0 v=s:=by
 have b:gE s.st a (a+0) v=s.st:=by
  apply zy;intro i;rw[HX];cases s.st[i]? with
  | none=>rfl
  | some x=>simp only[ze];rw[zB O]
 have d:(λw=>if a*32<=w/\w<(a+0)*32 then 0 else s.wd w)=s.wd:=by
  funext w;rw[zB O]
 simp only[Sp.set,b,d]
theorem Sp.oW (s:Sp)(a m v:Nat)(h:a+m<s.st.length):(s.set a m v).j7 (a+m) v=s.set a (m+1) v:=by
 have b:(gE s.st a (a+m) v).set (a+m) v=gE s.st a (a+(m+1)) v:=by
  apply zy;intro i;rw[oa,HX,HX,Vt];by_cases hi:a+m=i
  ·subst hi;rw[zC rfl,zC h,cW h,ze,zC O]
  ·rw[zB hi];cases s.st[i]? with
   | none=>rfl
   | some x=>
    simp only[ze];by_cases hin:a<=i/\i<a+m
    ·rw[zC hin,zC O]
    ·rw[zB hin,zB O]
 have d:(λw=>if(a+m)*32<=w/\w<(a+m+1)*32 then 0 else(if a*32<=w/\w<(a+m)*32 then 0 else s.wd w))=λw=>if a*32<=w/\w<(a+(m+1))*32 then 0 else s.wd w:=by
  funext w
  by_cases b:(a+m)*32<=w/\w<(a+m+1)*32
  ·rw[zC b,zC O]
  ·rw[zB b];by_cases d:a*32<=w/\w<(a+m)*32
   ·rw[zC d,zC O]
   ·rw[zB d,zB O]
 simp only[Sp.set,Sp.j7,b,d]
theorem WmM (h:dP U F p sp){x y v:Nat}(hl:x+y<=sp.st.length)(hv:v<=1){R:aP}(hR:∀σ',Ext F U σ'->dP σ' F p (sp.set x y v)->R σ') :
 Zr.c (aW p) x y (gD v).1 (gD v).2 U R:=by
 refine Zr.o ?_;unfold Zr.v;have W:sp.st.length<=1024:=by obtain⟨q,r,l,B,h⟩:=h;exact h.n2
 have s:dP U (Cut F U) p sp:=dN.cut dP.loc h;refine nw (cs:=[.bool (gD v).1,.bool (gD v).2]) λu hz e g=>?_;have X:=s.bP e;refine Qv (a:=bO) (λ(t:Int) w=>∃i:Nat,t=((x+i:Nat):Int)/\i<=y/\Ext (Cut F U) u w/\bZ w U.size [.bool (gD v).1,.bool (gD v).2]/\dP w (Cut F U) p (sp.set x i v)) (λt _=>x+y-t.toNat)
  ⟨0,rfl,O,Ext.refl _ _,g,by rw[Sp.pG];exact X⟩ ?_
 rintro t w ⟨i,rfl,hi,J,j,q,r,l,B,d⟩;refine cT (m:=x+y) O O (cN (λV=>?_) λY=>?_)
 ·have P:(sp.set x i v).st.length=sp.st.length:=Vt _ _ _ _;refine bL (d.rS λcap H=>j.rB rfl (j.rB rfl (ix O aC ?_)));rw[add_lit,show 0+((x+i:Nat):Int).toNat*2=2*(x+i) by omega];obtain⟨L,z⟩:=d.row;have E:x+i<(sp.set x i v).st.length:=by omega
  refine z.s1 (by rw[zJ,V8];omega) λw1 o1 Q=>Q.s1 (by rw[oP,zJ,V8];omega) λw2 o2 M=>?_;rw[kC,FE E]at M;have e2:Ext (· = q) w w2:=o1.ext.trans o2.ext;obtain⟨c,S,hd⟩:=d.hd;have D:=e2.bV hd d.fs.2.2.2.1;refine bL (D.rM rfl ⟨l,e2.fV d.map (λe=>d.fs.2.2.2.2.2 e.symm),λw3 C _ A=>?_⟩);have o3:=C r rfl;have G:Ext (λb=>b=q\/b=r) w w3:=(e2.sub λb g=>.inl g).trans (o3.ext.sub λb g=>.inr g);have K:=d.j7 E hv G (WE o3 M d.fs.2.2.2.2.2) A;rw[Sp.oW _ _ _ _ O]at K;have N:Ext (Cut F U) w w3:=G.sub λb g=>by
   rcases g with rfl|rfl
   ·exact d.fs.2.1
   ·exact d.fs.2.2.1
  refine cT (m:=x+(i+1)) O O ⟨⟨i+1,rfl,O,J.trans N,N.bV j λZ=>by have:=Z.2;omega,_,_,_,_,K⟩,O⟩
 ·have:i=y:=by omega
  subst this;refine hR w (Ext.cut (e.to.trans J)) (dN.mono dP.loc ⟨q,r,l,B,d⟩ λb _ g=>g.1)
theorem RO (h:dP U F p sp)(g:Gl U)(hF:jf F)(a m:Int){R:aN}(hR:∀σ',Ext F U σ'->dP σ' F p (fZ sp a m)->R (fE sp a m) σ') :
 Zn.c (aW p) a m U R:=by
 refine Zn.o ?_;unfold Zn.v;have j:(∀x∈sp.st,x<=2)/\sp.st.length<=1024:=by obtain⟨q,r,l,B,h⟩:=h;exact⟨h.tj,h.n2⟩
 refine NJ h a m (λi=>?_) λx y s A E L H C=>?_
 ·have e1:fE sp a m=1:=by unfold fE;rw[i];rfl
  have e2:fZ sp a m=sp:=by unfold fZ;rw[e1];rfl
  have:=hR U (Ext.refl _ _);rw[e1,e2]at this;exact cF rfl (this h)
 ·subst A;subst E;have i:Zz sp.st.length (x:Int) (y:Int)=true:=by simp only[Zz,zF,zV];omega
  refine cD rfl (MX C g (by rw[zY,ky];omega) (λz G=>j.1 z (uC (vO G))) λK e1=>?_);have d:fE sp x y=if((sp.st.drop x).take y).any (· != 0)then 5 else 0:=by unfold fE;rw[i];rfl
  refine cQ (λb=>?_) λb=>?_
  ·rw[b]at d;have e2:fZ sp x y=sp:=by unfold fZ;rw[d];rfl
   have:=hR K (aF.to e1);rw[d,e2]at this;exact this (h.bP e1)
  ·rw[b]at d;have e2:fZ sp x y=sp.set x y 1:=by unfold fZ;rw[d];rfl
   have u:=g.bP e1;refine nN (by rw[←u.c0];rfl) (nN (by rw[←u.c1];rfl) ?_);refine WmM (v:=1) (h.bP e1) H O λJ w D=>?_;have:=hR J (Ext.trans (aF.to e1) w);rw[d,e2]at this;exact this D
theorem FA (h:dP U F p sp)(g:Gl U)(x:Int)(hx:x<=9223372036854775807){R:aN}(hR:∀σ',aF U σ'->R (eI sp x) σ') :
 XJ.c (aW p) x 1 U R:=by
 refine XJ.o ?_;unfold XJ.v;have G:=h;obtain⟨q,r,l,B,h⟩:=h;have n2:=h.n2;have i:(x<0\/x%8≠0)->R 7 U:=λj=>by
  have:=hR U (Ext.refl _ _);unfold eI at this;rw[zC j]at this;exact this
 refine Ct G (cD rfl (cD rfl (bX.intro (cN (λA=>cF rfl (i (.inl A))) λA=>nz aB ?_))));obtain⟨y,rfl⟩:=zc (show 0<=x by omega);refine cQ (λd=>?_) λd=>?_
 ·refine i (.inr ?_);rw[Kj O]at d;simpa using d
 have J:y%8=0:=by
  rw[Kj O]at d;have:((y:Int)%8)=0:=by simpa using d
  omega
 have ok:¬((y:Int)<0\/(y:Int)%8≠0):=by omega
 refine nz aB (cT (m:=y/256) (by rw[YR O];simp) O (nz aB (cT (m:=y/8) (by rw[YR O];simp) O ?_)));refine cT (m:=y/8+1) O O (cT (m:=y/8) O O (nz aB (cT (m:=y/256) (by rw[YR O];simp;omega) O ?_)));have fin:∀(b:Bool) σ',aF U σ'->(b=true↔sp.st.getD (y/256) 0=0)->If b (R 7 σ') (R 0 σ'):=λb σ' e j=>by
  have:=hR σ' e;unfold eI at this;rw[zB ok]at this;refine cQ (λh=>?_) λh=>?_
  ·rw[zC (by simpa using j.1 h)]at this;exact this
  ·rw[zB (λC=>by rw[j.2 (by simpa using C)]at h;cases h)]at this;exact this
 obtain⟨c,H,hd⟩:=h.hd;refine Jn.intro ⟨λm=>bZ m p [.slice (some ⟨q,0,none⟩) sp.st.length c,.map (some r),.int .i64 (sp.pk:Int)]/\Gl m,⟨hd,g⟩,?_⟩;refine bL ⟨⟨some ⟨q,0,none⟩,sp.st.length,c⟩,λm a=>by rw[add_lit,a.1.cell];rfl,?_⟩;refine cN (λs=>?_) λs=>?_
 ·simp only at s;refine fin _ U (Ext.refl _ _) ⟨λ_=>?_,λ_=>rfl⟩;rw[zQ,zX O];rfl
 simp only at s;refine bL ⟨⟨some ⟨q,0,none⟩,sp.st.length,c⟩,λm a=>by rw[add_lit,a.1.cell];rfl,?_⟩;refine cT (m:=y/256+1) O O (jA O aC (zE _) ?_);simp only;rw[zB O];refine⟨false,λm a=>a.2.u0,⟨false,λm a=>a.2.u1,?_⟩⟩;have e:(Option.map (λ(u:Addr)=>u.add (y/256*2)) (some (⟨q,0,none⟩:Addr)))=some ⟨q,2*(y/256),none⟩:=by
  simp only[ze,add_lit];congr 2;omega
 rw[e,BL];have D:=h.part (x:=y/256) (y:=1) (c:=c-y/256) O;refine Ta (v:=0) D (by rw[zY,ky];omega) (λz E=>h.tj z (uC (vO E))) O λσ' w=>?_;refine⟨⟨w.bV hd id,g.bP w⟩,fin _ σ' w ?_⟩;have hi:y/256<sp.st.length:=by omega
 rw[zQ,cW hi,xg hi,vY,vA];simp[eq_comm]
theorem Rv (h:dP U F p sp){w:Nat}(hw:w<=2305843009213693952){R:aN}(hR:R (sp.wd w) U):Zv.c (aW p) (w:Int) U R:=by
 refine Zv.o ?_;unfold Zv.v;obtain⟨q,r,l,B,h⟩:=h;refine bL (h.rM (nz aB (cT (m:=w/32) (by rw[YR O];simp) O ⟨l,h.map,?_⟩)));cases hg:bU l ((w/32:Nat):Int)with
 | none=>
  refine cD rfl ?_;have:sp.st[w/32]?≠some 2:=λd=>by
   have:=(h.keys _).2 ⟨_,rfl,d⟩;rw[hg]at this;cases this
  rw[h.zero w this]at hR;exact hR
 | some s=>
  obtain⟨a,u,y,x,i,j,b⟩:=h.wd _ s hg;refine cF rfl (nz aB ?_);simp only[qX];have g:((w:Int).tmod 32)=((w%32:Nat):Int):=by rw[Kj O];simp
  rw[a,g];refine ix O O ?_;rw[add_lit];refine i.uj ?_ hR;rw[show 0+((w%32:Nat):Int).toNat*1=w%32 by omega,b _ O];simp only;rw[show 32*(w/32)+w%32=w by omega]
theorem PR (h:dP U F p sp)(g:Gl U)(x:Int)(hx:x<=9223372036854775807){R:Int->Int->Hp->Prop}(hR:∀σ',aF U σ'->R (if eI sp x=0 then sp.wd (x.toNat/8)else 0) (eI sp x) σ') :
 Y9.c (aW p) x U R:=by
 refine Y9.o ?_;unfold Y9.v;refine FA h g x hx λσ' e=>?_;have:=hR σ' e;refine cQ (λd=>?_) λd=>?_
 ·have b:¬eI sp x=0:=by simpa using d
  rw[zB b]at this;exact this
 ·have a:eI sp x=0:=by simpa using d
  rw[zC a,a]at this;have i:0<=x:=by
   rcases(by omega:x<0\/0<=x)with hlt|hge
   ·unfold eI at a;rw[zC (.inl hlt)]at a;cases a
   ·exact hge
  obtain⟨y,rfl⟩:=zc i;exact nz aB (cT (m:=y/8) (by rw[YR O];simp) O (Rv (h.bP e) O this))
theorem fI.C0 (h:fI U F p q r l B sp){k:Nat}(hk:k<sp.st.length)(hn:sp.st[k]?≠some 2){σ':Hp}{b:Nat}{s:Sl}{T:Rg}(e:Ext T U σ')(hT:∀i,i<U.size->T i->i=q\/i=r)(hz:U.size<=b){rest:List Value}
 (hb:bZ σ' q (ia (sp.st.set k 2)++rest)) (hm:dJ σ' r .i64 .s (dA l (k:Int) s)) (ha:s.a=some ⟨b,0,none⟩) (hl:s.len=32) (hc:s.cap=32) (hw:bZ σ' b (List.replicate 32 (.int .i64 0))) :
 fI σ' (Grow F U) p q r (dA l (k:Int) s) (λj=>if j=k then b else B j) {sp with st:=sp.st.set k 2}:=by
 have u:∀j:Nat,(sp.st.set k 2)[j]?=some 2↔j=k\/sp.st[j]?=some 2:=λj=>by
  rw[oa];by_cases hjk:k=j
  ·subst hjk;rw[zC rfl,zC hk];simp
  ·rw[zB hjk];exact⟨λh=>.inr h,λh=>h.resolve_left λe=>hjk e.symm⟩
 obtain⟨c,E,hd⟩:=h.hd;obtain⟨_,C⟩:=h.row;have V:=hd.lt;have S:=C.lt;have W:=h.map.lt;have R:=e.1;have g:=h.fs;have A:∀{j:Nat},sp.st[j]?=some 2->B j<U.size:=λ{j} d=>by
  obtain⟨t,_,_,_,_,cs,H,_⟩:=h.entry d;exact H.lt
 have cZ:∀{i:Nat} {cs:List Value},bZ U i cs->i≠q->i≠r->bZ σ' i cs:=λ{i cs} hi D y=>e.bV hi λL=>by
  rcases hT i hi.lt L with h|h
  ·exact D h
  ·exact y h
 refine⟨⟨c,by simpa using E,by simpa using cZ hd g.2.2.2.1 g.2.2.2.2.1⟩,⟨rest,hb⟩,hm,λx=>?_,λj t d=>?_,λj z D y m=>?_,λj d=>?_,⟨.inl g.1,.inl g.2.1,.inl g.2.2.1,g.2.2.2⟩,λw G=>?_,by simpa using h.n1,by simpa using h.n2,EG h.tj O,h.pk⟩
 ·rw[US];by_cases hx:x=(k:Int)
  ·rw[zC hx];subst hx;simp only[Option.isSome_some,true_iff];exact⟨k,rfl,(u k).2 (.inl rfl)⟩
  ·rw[zB hx,h.keys];constructor
   ·rintro⟨j,rfl,d⟩;exact⟨j,rfl,(u j).2 (.inr d)⟩
   ·rintro⟨j,rfl,d⟩;exact⟨j,rfl,((u j).1 d).resolve_left O⟩
 ·rw[US]at d;by_cases hx:(j:Int)=(k:Int)
  ·have:j=k:=by omega
   subst this;rw[zC rfl]at d;cases d;rw[zC rfl];refine⟨ha,hl,O,_,hw,by simp,λi hi=>?_⟩;rw[mS,zC hi];simp only;rw[h.zero _ (by rw[show(32*j+i)/32=j by omega];exact hn)]
  ·rw[zB hx]at d;obtain⟨N,K,Q,cs,H,M,P⟩:=h.wd j t d;have J:=h.out j (h.l3 d);rw[zB O];exact⟨N,K,Q,cs,cZ H J.2.2.1 J.2.2.2,M,P⟩
 ·by_cases e1:j=k
  ·by_cases e2:z=k
   ·omega
   ·rw[zC e1,zB e2]at m;have:=A (((u z).1 y).resolve_left e2);omega
  ·rw[zB e1]at m;by_cases e2:z=k
   ·rw[zC e2]at m;have:=A (((u j).1 D).resolve_left e1);omega
   ·rw[zB e2]at m;exact h.inj j z (((u j).1 D).resolve_left e1) (((u z).1 y).resolve_left e2) m
 ·by_cases e1:j=k
  ·rw[zC e1];exact⟨.inr hz,O,O,O⟩
  ·rw[zB e1];have:=h.out j (((u j).1 d).resolve_left e1);exact⟨.inl this.1,this.2⟩
 ·refine h.zero w λy=>G ((u _).2 (.inr y))
theorem fI.DM (h:fI U F p q r l B sp){σ':Hp}{n c:Nat}(hn:n<=1024)(ho:Ka U σ' p)(hc:sp.st.length<=c)(hb:bZ σ' p [.slice (some ⟨q,0,none⟩) sp.st.length c,.map (some r),.int .i64 (n:Int)]):fI σ' F p q r l B {sp with pk:=n}:=by
 have d:=h.fs;obtain⟨b,a⟩:=h.row;refine⟨⟨c,hc,hb⟩,⟨b,WE ho a O⟩,H6 ho h.map O,h.keys,λj t g=>?_,h.inj,h.out,d,h.zero,h.n1,h.n2,h.tj,hn⟩;obtain⟨m,s,y,x,u,i,w⟩:=h.wd j t g;exact⟨m,s,y,x,WE ho u (h.out j (h.l3 g)).2.1,i,w⟩
theorem fI.word (h:fI U F p q r l B sp){w:Nat}{v:Int}(hk:sp.st[w/32]?=some 2){σ':Hp}{cs:List Value}(h32:32<=cs.length)(ho:Ka U σ' (B (w/32)))(hcs:∀j,j<32->cs[j]?=some (.int .i64 (sp.wd (32*(w/32)+j))))
 (hb:bZ σ' (B (w/32)) (cs.set (w%32) (.int .i64 v))):fI σ' F p q r l B {sp with wd:=λu=>if u=w then v else sp.wd u}:=by
 have z:=h.out _ hk;obtain⟨c,E,hd⟩:=h.hd;obtain⟨a,b⟩:=h.row;refine⟨⟨c,E,WE ho hd O⟩,⟨a,WE ho b O⟩,H6 ho h.map O,h.keys,λj t x=>?_,h.inj,h.out,h.fs,λu m=>?_,h.n1,h.n2,h.tj,h.pk⟩
 ·obtain⟨s,y,A,g,G,C,D⟩:=h.wd j t x;by_cases hjk:j=w/32
  ·subst hjk;refine⟨s,y,A,_,hb,by simpa using h32,λi hi=>?_⟩;rw[oa];by_cases hiw:w%32=i
   ·rw[zC hiw,zC O];simp only;rw[zC O]
   ·rw[zB hiw];simp only;rw[zB O];exact hcs i hi
  ·have d:B j≠B (w/32):=λe=>hjk (h.inj _ _ (h.l3 x) hk e);refine⟨s,y,A,g,WE ho G d,C,λi hi=>?_⟩;rw[D i hi];simp only;rw[zB O]
 ·have:u≠w:=λe=>by subst e;exact m hk
  simp only;rw[zB this];exact h.zero u m
theorem OA (h:dP U F p sp)(g:Gc U){w:Nat}(hw:w/32<sp.st.length)(v:Int){R:aP}(hR:∀σ',Ext F U σ'->dP σ' (Grow F U) p (nH sp w v)->R σ') :
 Zq.c (aW p) (w:Int) v U R:=by
 refine Zq.o ?_;unfold Zq.v;obtain⟨q,r,l,B,h⟩:=h;have W:=h.n2;have x:sp.st[w/32]?=some sp.st[w/32]:=cW hw;have tm:((w:Int).tmod 32)=((w%32:Nat):Int):=by rw[Kj O];simp
 have word:∀(u:Hp) (s':Sp) (l':List (Int×Sl)) (B':Nat->Nat),Ext F U u->fI u (Grow F U) p q r l' B' s'->s'.st[w/32]?=some 2->({s' with wd:=λz=>if z=w then v else s'.wd z}:Sp)=nH sp w v →
  bW (some ⟨p,0,none⟩) λV=>lP (V.add 1) u λZ=>Lk .i64 .s Z ((w/32:Nat):Int) u λJ=>Nz 32<|Ix (J.getD ⟨none,0,0⟩).a (J.getD ⟨none,0,0⟩).len ((w:Int).tmod 32) 1 λab=>dX ab (.int .i64 v) u λv1=>R v1:=by
  intro u s' l' B' eu hu A he;refine bL (hu.rM ⟨l',hu.map,nz aB ?_⟩);obtain⟨s,hs,w1,w2,w3,cs,w4,w5,w6⟩:=hu.entry A;rw[hs,tm];simp only[qX];rw[w1];refine ix O O ?_;rw[add_lit,show 0+((w%32:Nat):Int).toNat*1=w%32 by omega];refine w4.s0 O λu2 o2 L=>?_;have h2:=hu.word (v:=v) A w5 o2 w6 L;rw[he]at h2;exact hR u2 (eu.dQ o2.ext λb d=>by subst d;exact(hu.out _ A).1) ⟨_,_,_,_,h2⟩
 refine nz aB (cT (m:=w/32) (by rw[YR O];simp) O (Jn.intro (bL (h.rS λcap C=>ix O aC ?_))));rw[add_lit,show 0+((w/32:Nat):Int).toNat*2=2*(w/32) by omega];refine h.Bh x (nN (n:=true) g.d0 (nN (n:=true) g.d1 ?_));have e0:(((gD sp.st[w/32]).1==true)&&(((gD sp.st[w/32]).2==true)&&true))=(sp.st[w/32]==2):=DU (h.tj _ (zt hw)) (y:=2) O;rw[e0];refine cQ (λhd=>?_) λhd=>?_
 ·have H:sp.st[w/32]≠2:=by simpa using hd
  refine bL (h.rS λcap C=>nN (n:=true) g.d0 (nN (n:=true) g.d1 (ix O aC ?_)));rw[add_lit,show 0+((w/32:Nat):Int).toNat*2=2*(w/32) by omega];obtain⟨K,D⟩:=h.row;refine D.s1 (by rw[zJ,V8];omega) λu1 o1 b1=>b1.s1 (by rw[oP,zJ,V8];omega) λu2 o2 L=>?_;rw[kC]at L;have aa:bZ u2 q (ia (sp.st.set (w/32) 2)++K):=by rw[←FE hw];exact L
  have e2:Ext (· = q) U u2:=o1.ext.trans o2.ext;obtain⟨c,hc,G⟩:=h.hd;have E:=e2.bV G h.fs.2.2.2.1;refine⟨λm=>bZ m p [.slice (some ⟨q,0,none⟩) sp.st.length c,.map (some r),.int .i64 (sp.pk:Int)],E,bL ⟨some r,λm hm=>by rw[add_lit,hm.cell];rfl,?_⟩⟩;refine mk (n:=32) O O λu3 hz3 M b3=>⟨Ext.bV M E id,?_⟩;have Y:bZ u3 u2.size (List.replicate 32 (.int .i64 0)):=b3;have q3:=Ext.bV M aa id;have Q:=e2.fV h.map (λe=>h.fs.2.2.2.2.2 e.symm);refine⟨r,l,rfl,Ext.fV M Q id,λu4 o4 ac=>?_⟩;have sz2:u2.size=U.size:=by rw[o2.1,o1.1]
  have hrlt:=h.map.lt;have ad:=G.lt;have e4:Ext (λb=>b=q\/b=r) U u4:=((e2.sub λb d=>.inl d).trans (aF.to M)).trans (o4.ext.sub λb d=>.inr d);have N:=h.C0 hw (by rw[x];simpa using H) (s:=⟨some ⟨u2.size,0,none⟩,32,32⟩) (b:=u2.size) e4 (λi _ hi=>hi) O (WE o4 q3 h.fs.2.2.2.2.2) ac rfl rfl rfl (WE o4 Y O);obtain⟨c4,S,j⟩:=N.hd;refine bL (j.rI rfl (bL (j.rM rfl ⟨_,N.map,bL ?_⟩)));rw[N.wQ];have hcl:(sp.st.set (w/32) 2).count 2<=1024:=kx List.count_le_length (by simpa using W);have hpk:=h.pk;have hv:(if((List.count 2 (sp.st.set (w/32) 2):Nat):Int)>(sp.pk:Int)then((List.count 2 (sp.st.set (w/32) 2):Nat):Int)else(sp.pk:Int))=((max sp.pk ((sp.st.set (w/32) 2).count 2):Nat):Int):=by
   by_cases hgt:((List.count 2 (sp.st.set (w/32) 2):Nat):Int)>(sp.pk:Int)
   ·rw[zC hgt];omega
   ·rw[zB hgt];omega
  simp only;rw[hv];refine j.s1 aA λu5 o5 b5=>?_;have h5:=N.DM O o5 S b5;have e5:Ext F U u5:=(e4.sub λb d=>by
   rcases d with rfl|rfl
   ·exact h.fs.2.1
   ·exact h.fs.2.2.1).trans (o5.ext.sub λb d=>by subst d;exact h.fs.1)
  refine word u5 _ _ _ e5 h5 (by simp only;rw[oa,zC rfl,zC hw]) ?_;unfold nH;rw[zB (by rw[zQ,x];exact H)]
 ·have P:sp.st[w/32]=2:=by simpa using hd
  rw[P]at x;have X:fI U (Grow F U) p q r l B sp:={h with out:=λk A=>⟨.inl (h.out k A).1,(h.out k A).2⟩,fs:=⟨.inl h.fs.1,.inl h.fs.2.1,.inl h.fs.2.2.1,h.fs.2.2.2⟩};refine word U sp l B (Ext.refl _ _) X x ?_;unfold nH;rw[zC (by rw[zQ,x];rfl)];have:sp.st.set (w/32) 2=sp.st:=by
   apply zy;intro i;rw[oa];by_cases hi:w/32=i
   ·subst hi;rw[zC rfl,zC hw,x]
   ·rw[zB hi]
  rw[this]
theorem Mj (h:dP U F p sp)(g:Gl U)(gd:Gc U)(x:Int)(hx:x<=9223372036854775807)(v:Int){R:aN}(hR:∀σ',Ext F U σ'->dP σ' (Grow F U) p (ZF sp x v)->R (eI sp x) σ') :
 YK.c (aW p) x v U R:=by
 refine YK.o ?_;unfold YK.v;have i:dP U (Cut F U) p sp:=dN.cut dP.loc h;refine FA h g x hx λB e=>?_;have w:=i.bP e;have C:=g.bP e;refine cQ (λs=>?_) λs=>?_
 ·have r:¬eI sp x=0:=by simpa using s
  refine hR B (aF.to e) ?_;unfold ZF;rw[zB r];exact dN.mono dP.loc w λb _ a=>.inl a.1
 ·have d:eI sp x=0:=by simpa using s
  have j:0<=x/\sp.st.getD (x.toNat/256) 0≠0:=by
   unfold eI at d;by_cases a:x<0\/x%8≠0
   ·rw[zC a]at d;cases d
   ·rw[zB a]at d;by_cases hz:sp.st.getD (x.toNat/256) 0=0
    ·rw[zC hz]at d;cases d
    ·exact⟨O,hz⟩
  obtain⟨y,rfl⟩:=zc j.1;have u:y/8/32<sp.st.length:=by
   rcases ku (y/256) sp.st.length with h|h
   ·omega
   ·exact absurd (by rw[zQ,zX (by simpa using h)];rfl) j.2
  refine nz aB (cT (m:=y/8) (by rw[YR O];simp) O (OA w (gd.bP e) u v λA e2 z=>?_));have:=hR A (Ext.cut ((aF.to e).trans e2)) ?_
  ·rw[d]at this;exact this
  ·unfold ZF;rw[zC d];exact dN.mono dP.loc z λb _ a=>by
    rcases a with a|a
    ·exact .inl a.1
    ·exact .inr (kx e.1 a)
def V6 (n:Nat):Sp:=⟨List.replicate n 0,λ_=>0,0⟩
theorem Rf {U:Hp}{F:Rg}{p q r n c:Nat}(h1:1<=n)(h2:n<=1024)(hc:n<=c)(hd:bZ U p [.slice (some ⟨q,0,none⟩) n c,.map (some r),.int .i64 0])(hq:bZ U q (ia (List.replicate n 0)))(hr:dJ U r .i64 .s [])
 (hF:F p/\F q/\F r) (hne:p≠q/\p≠r/\q≠r):fI U F p q r [] (λ_=>0) (V6 n):=by
 have b:∀k:Nat,(List.replicate n 0)[k]?≠some 2:=λk a=>by
  rw[mS]at a;split at a<;>cases a
 refine⟨⟨c,by simpa[V6]using hc,by simpa[V6]using hd⟩,⟨[],by simpa[V6]using hq⟩,hr,λx=>?_,λk s g=>(by cases g),λk i h1=>absurd h1 (b k),λk a=>absurd a (b k),⟨hF.1,hF.2.1,hF.2.2,hne⟩,λw _=>rfl,by simpa[V6]using h1,by simpa[V6]using h2,λx d=>?_,by simp[V6]⟩
 ·constructor
  ·intro h;cases h
  ·rintro⟨k,_,a⟩;exact absurd a (b k)
 ·have:=Cm d;omega
theorem Sa {n:Nat}(h1:1<=n)(h2:n<=1024){R:Option Addr->Int->Hp->Prop}(hR:∀σ' p',aF U σ'->U.size<=p'->dP σ' (λb=>U.size<=b) p' (V6 n)->R (some ⟨p',0,none⟩) 0 σ'):Kz.c (n:Int) U R:=by
 refine Kz.o ?_;unfold Kz.v;refine bX.intro (gA O ?_);rw[zM O];refine cD rfl (mk O O λd y e1 g=>uW λw u e2 p=>nw (cs:=[.slice (some ⟨U.size,0,none⟩) n n,.map (some d.size),.int .i64 0]) λj x a m=>?_);have i:=Ext.bV a (Ext.bV e2 g id) id;have r:=Ext.fV a (p .i64 .s) id;refine hR j _ (Ext.trans (Ext.trans e1 e2) a) O ⟨U.size,d.size,[],_,Rf h1 h2 (zE _) m ?_ r ⟨O,O,O⟩ O⟩;rw[SQ];exact i
end Go.Ar