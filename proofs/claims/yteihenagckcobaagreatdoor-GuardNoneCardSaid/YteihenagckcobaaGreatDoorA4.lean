/- Texts joined. -/
import Derived.Test.YteihenagckcobaaGreatDoorA3
set_option linter.unusedVariables false
set_option linter.unusedSimpArgs false
namespace Go.Proofs
open Go.Vc
set_option maxRecDepth 100000
def W9.h:Hn:=.q .o1 (.q (.cS (.seq [.op,.op,.op,.cO true 5 (RI.ops 5),.op])) .l)
def W9.v (a:R2)(b:Hp)(c:aO):Prop:=bR (λd e=>c d e) λf=>If (!a.isNone) (bF a 1 b λh=>f (!h.isNone) b) (f false b)
theorem W9.o {a b c}(d:W9.v a b c):W9.c a b c:=Wa Tryz.func111 (x:=W9.h) (R0 d)
def QC.h:Hn:=.q .o2 (.q (.q .o3 .aJ) (.q .o3 (.q (.q (.cS (.seq [.op,.op,.op,.cO false 3 (RI.ops 3),.op,.cO false 2 [.op,.op],.op,.cO false 2 [.op,.op]])) .aJ) (.q .o8 (.q .o9 (.q .o9 (.q (.q .o3 (.k (.loop [(61,.I)] (.q .o1 (.q (.c .l .l) (.q (.k (.q .o4 (.q .o7 (.q .o9 (.cS (.gQ true [18,21] [] (.tk [0,1,2,3,4,5,6,9,10,11,12,13] (.all [(7,.all [(8,.all [(14,.all [(15,.take 16 (.take 17 (.all [(18,.take 19 (.take 20 (.all [(21,.done)])))])))])]),(14,.all [(8,.all [(15,.take 16 (.take 17 (.all [(18,.take 19 (.take 20 (.all [(21,.done)])))])))])])]),(14,.all [(7,.all [(8,.all [(15,.take 16 (.take 17 (.all [(18,.take 19 (.take 20 (.all [(21,.done)])))])))])])])])))))))) .o2)))))) (.q .o3 .l))))))))
def QC.v (a:Sl)(b:R2)(c:Int)(d:Hp)(e:Option Addr->Int->Hp->Prop):Prop:=Zm.c a d λf g=>If (!f) (e none 2 g) (Xx.c b g λh i=>bR (λj k=>bR (λl m=>bR (λn o=>If n (e none 1 o) (Wi.c a o λp q=>ZX.c q λr s=>Nw (.map #[] 0) s λt u=>aV #[.slice p.a p.len p.cap,.pointer b,.pointer none,.pointer none,.pointer r,.slice none 0 0,.slice none 0 0,.map (some t.block)] 179 u λv w=>QD.c h w λx y z=>bT (some v) λaa=>aR aa 2 (.pointer x) z λab=>Q7.c h ab λac ad ae=>bT (some v) λaf=>aR af 3 (.pointer ac) ae λag=>YC [bN] (λah=>ah 0 ag) λai (aj:Int) ak=>If (aj<((a.len:Nat):Int)) (Ix a.a a.len aj 3 λal=>aQ al 0 ak λam=>aQ al 1 ak λan=>aQ al 2 ak λao=>aV #[.I 0,.I 0,.I 0] 137 ak λap aq=>aR ap 0 (.I am) aq λar=>aR ap 1 (.I an) ar λau=>aR ap 2 (.I ao) au λav=>aQ ap 0 av λaw=>aQ ap 1 av λax=>aQ ap 2 av λay=>ZV.c aw ax ay av λaz a0 a1=>aQ ap 2 a1 λa2=>ZG.c a2 c a1 λa3 a4 a5=>Jn [] (λa6=>bL (aj+1) λa7=>ai a7 a6) λa8=>eN a5 λa9=>bT (some v) λba=>aT a9 ba 5 λbb=>bT (some v) λbc=>aT a9 bc 6 λbd=>(aV #[.pointer az] 182 a5 λbe bf=>And (a9 bf) <| (App bb 1 8 182 [.pointer none] ⟨some be,1,1⟩ bf λbg bh=>And (a9 bh) <| aV #[.pointer a3] 184 bh λbi bj=>And (a9 bj) <| App bd 1 8 184 [.pointer none] ⟨some bi,1,1⟩ bj λbk bl=>And (a9 bl) <|
 bT (some v) λbm=>aR bm 5 (.slice bg.a bg.len bg.cap) bl λbn=>bT (some v) λbo=>aR bo 6 (.slice bk.a bk.len bk.cap) bn λbp=>a8 bp) ∧ (aV #[.pointer a3] 184 bf λbq br=>And (a9 br) <| App bb 1 8 182 [.pointer none] ⟨some be,1,1⟩ br λbs bt=>And (a9 bt) <| App bd 1 8 184 [.pointer none] ⟨some bq,1,1⟩ bt λbu bv=>And (a9 bv) <| bT (some v) λbw=>aR bw 5 (.slice bs.a bs.len bs.cap) bv λbx=>bT (some v) λbz=>aR bz 6 (.slice bu.a bu.len bu.cap) bx λb0=>a8 b0)) ∧ (aV #[.pointer a3] 184 a5 λb1 b2=>And (a9 b2) <| aV #[.pointer az] 182 b2 λb3 b4=>And (a9 b4) <| App bb 1 8 182 [.pointer none] ⟨some b3,1,1⟩ b4 λb5 b6=>And (a9 b6) <| App bd 1 8 184 [.pointer none] ⟨some b1,1,1⟩ b6 λb7 b8=>And (a9 b8) <| bT (some v) λb9=>aR b9 5 (.slice b5.a b5.len b5.cap) b8 λca=>bT (some v) λcb=>aR cb 6 (.slice b7.a b7.len b7.cap) ca λcc=>a8 cc)) (e (some v) 0 ak))) λcd=>If l (cd true m) (cd (decide (c>8)) m)) λce=>If j (ce true k) (ce (decide (c<0)) k)) λcf=>If (h<32) (cf true i) (Nz 16 <| cf ((h.tmod 16) != 0) i))
theorem QC.o {a b c d e}(f:QC.v a b c d e):QC.c a b c d e:=Wa Tryz.func143 (x:=QC.h) (R0 f)
def Wz.h:Hn:=.q .o2 (.q (.q .o4 (.q .o2 (.c (.q .o3 .l) .l))) (.q (.o 12) .l))
def Wz.v (a:R2)(b:Int)(c:Hp)(d:Sl->Int->Hp->Prop):Prop:=WN.c a b c λe f=>If (e != 0) (d ⟨none,0,0⟩ e f) (bE a 6 f λh=>Ix h.a h.len b 1 λi=>fQ i f λj=>WA.c j f λk l m=>d k l m)
theorem Wz.o {a b c d}(e:Wz.v a b c d):Wz.c a b c d:=Wa Tryz.func150 (x:=Wz.h) (R0 e)
def WB.h:Hn:=.q .o2 (.q (.q .o4 (.q .o2 (.c (.q .o3 .l) .l))) (.q (.o 13) .l))
def WB.v (a:R2)(b c:Int)(d:Hp)(e:Sl->Int->Hp->Prop):Prop:=WN.c a b d λf g=>If (f != 0) (e ⟨none,0,0⟩ f g) (bE a 5 g λi=>Ix i.a i.len b 1 λj=>fQ j g λk=>W0.c k c g λl m n=>e l m n)
theorem WB.o {a b c d e}(f:WB.v a b c d e):WB.c a b c d e:=Wa Tryz.func152 (x:=WB.h) (R0 f)
def XL.h:Hn:=.q .o1 (.q (.q .o4 (.q .o2 .aJ)) (.q (.o 17) (.q (.q .o2 .aJ) (.q .gG .l))))
def XL.v (a:R2)(b:Int)(c:Hp)(d:aN):Prop:=WN.c a b c λe f=>If (e != 0) (d e f) (bE a 0 f λh=>Ix h.a h.len b 3 λi=>aQ i 1 f λj=>bL (b+1) λk=>Yp.c a j 1 k f λl m n=>If (m != 0) (d m n) (bE a 5 n λp=>Ix p.a p.len b 1 λq=>fQ q n λr=>Yq.c r l n λs t=>d s t))
theorem XL.o {a b c d}(e:XL.v a b c d):XL.c a b c d:=Wa Tryz.func153 (x:=XL.h) (R0 e)
def WJ.h:Hn:=.q .o2 (.q (.k (.q .o4 (.c .aL (.q (.cS (.seq [.op,.op,.op,.cO false 2 [.op,.op],.op,.cO false 2 [.op,.op],.op,.cO false 2 [.op,.op],.op,.cO false 5 (RI.ops 5),.op])) .aJ)))) (.q .o9 (.q (.q .o2 (.c (.q .o3 .l) .l)) (.q .o7 (.q .o3 .l)))))
def WJ.v (a:R2)(b c:Int)(d:Hp)(e:Int->Int->Hp->Prop):Prop:=W9.c a d λf g=>If (!f) (e 0 5 g) (bR (λh i=>bR (λj k=>bR (λl m=>bR (λn o=>If n (e 0 1 o) (Yp.c a b c 41 o λp q r=>If (q != 0) (e 0 q r) (bI a 7 r λt=>j2 .i64 bN t p b r λu=>e p 0 u))) λv=>If l (v true m) (bL (c-1) λw=>v ((bits .and .i64 c w) != 0) m)) λx=>If j (x true k) (x (decide (c>16)) k)) λy=>If h (y true i) (y (decide (c<1)) i)) λz=>If (b<1) (z true g) (z (decide (b>64)) g))
theorem WJ.o {a b c d e}(f:WJ.v a b c d e):WJ.c a b c d e:=Wa Tryz.func155 (x:=WJ.h) (R0 f)
def WG.h:Hn:=.q .o1 (.q (.q .o3 .aK) (.q (.o 11) (.q (.q .o2 .aK) (.q .o6 (.q .o6 .aM)))))
def WG.v (a:R2)(b:Int)(c:Hp)(d:aN):Prop:=W9.c a c λe f=>If (!e) (d 5 f) (bI a 7 f λh=>Lk .i64 bN h b f λi=>If (!i.isSome) (d 8 f) (bI a 7 f λk=>kY .i64 bN k b f λl=>aV #[.I b,.I (i.getD 0)] 251 l λm n=>X0.c a ⟨some m,1,1⟩ n λo=>d 0 o))
theorem WG.o {a b c d}(e:WG.v a b c d):WG.c a b c d:=Wa Tryz.func163 (x:=WG.h) (R0 e)
def X0.h:Hn:=.q .o3 (.k (.loop [(8,.I)] (.q .o1 (.q (.c .l .l) (.q (.k (.q .o4 (.q (.cS (.tail 8 (RI.ops 8) [.op])) (.q (.cS (.tail 8 (RI.ops 8) [.op])) (.cS (.tail 8 (RI.ops 8) [.op])))))) .o2)))))
def X0.v (a:R2)(b:Sl)(c:Hp)(d:aP):Prop:=YC [bN] (λe=>e 0 c) λf (g:Int) h=>If (g<((b.len:Nat):Int)) (Ix b.a b.len g 2 λi=>aQ i 0 h λj=>aQ i 1 h λk=>aV #[.I 0,.I 0] 251 h λl m=>aR l 0 (.I j) m λn=>aR l 1 (.I k) n λo=>bF a 4 o λq=>aQ l 0 o λr=>aQ l 1 o λs=>Xw.c q r s o λt u=>bF a 3 u λw=>aQ l 0 u λx=>aQ l 1 u λy=>Xo.c w x y u λz aa=>bF a 2 aa λac=>aQ l 0 aa λad=>aQ l 1 aa λae=>XU.c ac ad ae aa λaf ag=>bL (g+1) λah=>f ah ag) (d h)
theorem X0.o {a b c d}(e:X0.v a b c d):X0.c a b c d:=Wa Tryz.func165 (x:=X0.h) (R0 e)
def WK.h:Hn:=.q .o1 (.q (.q .o4 (.q .o2 .aJ)) (.q (.o 14) (.q (.q .o2 .aJ) (.q .o3 .aM))))
def WK.v (a:R2)(b:Int)(c:Sl)(d:Hp)(e:aN):Prop:=WN.c a b d λf g=>If (f != 0) (e f g) (bE a 5 g λi=>Ix i.a i.len b 1 λj=>fQ j g λk=>Yt.c k c g λl m n=>If (m != 0) (e m n) (X0.c a l n λo=>e 0 o))
theorem WK.o {a b c d e}(f:WK.v a b c d e):WK.c a b c d e:=Wa Tryz.func175 (x:=WK.h) (R0 f)
def WN.h:Hn:=.q .o1 (.q (.k (.q .o4 (.c .aM (.q (.cS (.seq [.op,.op,.op,.cO false 7 (RI.ops 7),.op])) .aK)))) .aM)
def WN.v (a:R2)(b:Int)(c:Hp)(d:aN):Prop:=W9.c a c λe f=>If (!e) (d 5 f) (bR (λg h=>If g (d 1 h) (d 0 h)) λi=>If (b<0) (i true f) (bE a 0 f λk=>i (decide (b≥((k.len:Nat):Int))) f))
theorem WN.o {a b c d}(e:WN.v a b c d):WN.c a b c d:=Wa Tryz.func206 (x:=WN.h) (R0 e)
def Yp.h:Hn:=.q .o2 (.q (.o 12) (.jT [(10,.I),(11,.I)] (.q .o2 (.c (.q .o1 (.q (.k (.loop [(12,.I)] (.q (.q .o5 (.c .l .l)) (.k .o3)))) (.q (.q .o4 .aJ) (.o 12)))) .l)) (.q (.q .o2 (.c (.q .o3 .l) .l)) (.q .o7 (.q .o8 (.q .o3 .l))))))
def Yp.v (a:R2)(b c d:Int)(e:Hp)(f:Int->Int->Hp->Prop):Prop:=bF a 2 e λh=>Xy.c h b c e λi j k=>Jn [bN,bN] (λ(l:Int) (m:Int) n=>If (m != 0) (f 0 m n) (bF a 3 n λp=>Xu.c p l b n λq r=>bF a 4 r λt=>XV.c t l b d r λu v=>f l 0 v)) λw=>If (j==6) (YC [bN] (λx=>x 16 k) λy (z:Int) aa=>If (z<(if c>b then c else b)) (bL (z*2) λab=>y ab aa) (YA.c a z aa λac ad=>If (!ac) (f 0 6 ad) (bF a 2 ad λaf=>Xy.c af b c ad λag ah ai=>w ag ah ai))) (w i j k)
theorem Yp.o {a b c d e f}(g:Yp.v a b c d e f):Yp.c a b c d e f:=Wa Tryz.func209 (x:=Yp.h) (R0 g)
def Yx.h:Hn:=.q .o3 (.q (.q .o3 (.c (.q .o3 .l) .l)) (.q (.q .o2 (.c (.q .o3 .l) .l)) (.q .o8 (.q (.q .o2 (.c (.q .o3 .l) .l)) (.jT [] (.q .o2 (.c (.q .o5 (.k (.loop [] (.q (.cS (.seq [.it .i64 bN,.op])) (.q (.c .l .l) (.k (.q (.cS (.seq [.it .i64 bN,.op,.op,.op,.op])) (.q .o3 (.q (.cS (.seq [.op,.op,.op,.op,.cO true 5 (RI.ops 5)])) (.c (.q .o5 .l) .l)))))))))) .l)) (.q (.o 15) (.q (.q .o2 (.c (.q .o4 .l) .l)) (.q .o6 .l))))))))
def Yx.v (a:R2)(b:Int)(c:Hp)(d:Int->Int->Int->Hp->Prop):Prop:=W9.c a c λe f=>If (!e) (d 0 0 5 f) (If (b<0) (d 0 0 8 f) (bF a 4 f λh=>Nz 256<|bL (b.tdiv 256) λi=>YK.c h i f λj k=>If (j==0) (d 0 0 8 k) (Jn [] (λl=>bE a 5 l λn=>bL (j-1) λo=>Ix n.a n.len o 1 λp=>fQ p l λq=>Ya.c q b l λr s t=>If (s != 0) (d 0 0 s t) (bL (j-1) λu=>d u r 0 t)) λv=>If (j==41) (bI a 7 k λx=>mW .i64 bN x k λy z=>YC [] (λaa=>aa z) λab ac=>mV .i64 bN y ac (v ac) (λad ae af=>mT .i64 bN y af λag ah=>Nz 256<|bL (b.tdiv 256) λai=>bR (λaj ak=>If aj (bL (ag*256) λal=>d (-1) al 0 ak) (ab ak)) λam=>If (ag<=ai) (bL (ag+ah) λan=>am (decide (ai<an)) af) (am false af))) (v k))))
theorem Yx.o {a b c d}(e:Yx.v a b c d):Yx.c a b c d:=Wa Tryz.func213 (x:=Yx.h) (R0 e)
def WE.h:Hn:=.q .o2 (.q (.q .o4 (.q .o2 (.c (.q .o3 .l) .l))) (.q (.q (.o 11) .aJ) (.q (.q .o3 (.k (.loop [(32,.I)] (.q .o1 (.q (.c .l .l) (.q (.k (.q .o3 (.q (.o 14) (.q (.cS (.seq [.op,.op,.op,.cO false 2 [.op,.op]])) .aJ)))) .o2)))))) (.q (.o 13) .l))))
def WE.v (a:R2)(b:Int)(c:Sl)(d:Hp)(e:Bool->Int->Hp->Prop):Prop:=WN.c a b d λf g=>If (f != 0) (e false f g) (bE a 0 g λi=>Ix i.a i.len b 3 λj=>aQ j 2 g λk=>If (((c.len:Nat):Int) != k) (e false 1 g) (YC [bN] (λl=>l 0 g) λm (n:Int) o=>If (n<((c.len:Nat):Int)) (Ix c.a c.len n 1 λp=>bM p o λq=>bE a 5 o λs=>Ix s.a s.len b 1 λt=>fQ t o λu=>WU.c u q o λv w x=>bR (λy z=>If y (e false 8 z) (bL (n+1) λaa=>m aa z)) λab=>If (w != 0) (ab true x) (ab (!v) x)) (bE a 6 o λad=>Ix ad.a ad.len b 1 λae=>fQ ae o λaf=>WY.c af c o λag ah ai=>e ag ah ai)))
theorem WE.o {a b c d e}(f:WE.v a b c d e):WE.c a b c d e:=Wa Tryz.func217 (x:=WE.h) (R0 f)
def YB.h:Hn:=.q .o1 (.q (.cS (.seq [.op,.op,.op,.cO true 7 (RI.ops 7),.op])) .l)
def YB.v (a:R2)(b:Int)(c:Hp)(d:aO):Prop:=W9.c a c λe f=>bR (λg h=>d g h) λi=>If e (bF a 3 f λk=>XG.c k b f λl m=>i (decide (l>0)) m) (i false f)
theorem YB.o {a b c d}(e:YB.v a b c d):YB.c a b c d:=Wa Tryz.func251 (x:=YB.h) (R0 e)
def YA.h:Hn:=.q .o1 (.q (.q .o2 (.k (.loop [(5,.I)] (.q (.q .o9 (.c .l .l)) (.q (.k (.q (.q .o8 (.c .l .l)) (.q (.q .o3 (.k (.loop [(6,.I)] (.q (.q .o6 (.c .l .l)) (.q (.k .o6) .o3))))) (.q .o7 .aM)))) .o4))))) .aM)
def YA.v (a:R2)(b:Int)(c:Hp)(d:aO):Prop:=YC [bN] (λe=>e b c) λf (g:Int) h=>bL (g+b) λi=>bF a 1 h λk=>Xx.c k h λl m=>If (i<=l) (bF a 1 m λo=>YP.c o g b m λp q=>If (p != 0) (bL (g+b) λr=>f r q) (Nz 16<|bL (g.tdiv 16) λs=>YC [bN] (λt=>t s q) λu (v:Int) w=>bL (g+b) λx=>Nz 16<|bL (x.tdiv 16) λy=>If (v<y) (bF a 3 w λaa=>XZ.c aa v w λab ac=>bL (v+1) λad=>u ad ac) (bF a 2 w λaf=>XU.c af g b w λag ah=>d true ah))) (d false m)
theorem YA.o {a b c d}(e:YA.v a b c d):YA.c a b c d:=Wa Tryz.func254 (x:=YA.h) (R0 e)
end Go.Proofs
namespace Go.Ar
open Go Go.Vc Go.Proofs
open Go.Bu (Y4 Ql YW)
inductive Lb where
 | hd|dB|free|m6|own|dL|cN|runs
 | cD (k:Nat)
 | cM (k:Nat)
 deriving DecidableEq
structure Lay where
 p:Nat
 hs:Nat
 fr:Nat
 tr:Nat
 op:Nat
 rn:Nat
 dB:Sl
 dL:Sl
 cN:Sl
 eZ:List Nat
 fO:List Nat
def ke (Y:Lay):List Value:=[.slice Y.dB.a Y.dB.len Y.dB.cap,.pointer (some ⟨Y.hs,0,none⟩),.pointer (some ⟨Y.fr,0,none⟩),.pointer (some ⟨Y.tr,0,none⟩),.pointer (some ⟨Y.op,0,none⟩),.slice Y.dL.a Y.dL.len Y.dL.cap,.slice Y.cN.a Y.cN.len Y.cN.cap,.map (some Y.rn)]
def fT (tb:List bZ):List Value:=tb.flatMap λc=>[.int .i64 (c.size:Int),.int .i64 (c.aF:Int),.int .i64 (c.batch:Int)]
def fC (l:List Nat):List Value:=l.map λb=>.pointer (some ⟨b,0,none⟩)
def iz (l:List (Nat×Nat)):List (Int×Int):=l.map λr=>((r.1:Int),(r.2:Int))
def r6 (p n:Nat)(S:Nat->Bool):Hp->Rg->Prop:=λU F=>∃sb ms,Go.Bu.BH U p n S sb ms/\∀b,Go.Bu.fp p sb ms b->F b
def lz (p:Nat)(st:List Nat):Hp->Rg->Prop:=λU F=>∃q,gR U p q st/\F p/\F q
def jH (p:Option Nat)(c:Option bZ)(ss:Option (List cF)):Hp->Rg->Prop:=λU F=>match p,c,ss with
 | some p,some c,some ss=>∃ps,eU U F p c ps ss
 | _,_,_=>True
def kg (p:Option Nat)(c:Option bZ)(room:Nat)(t:Option fX):Hp->Rg->Prop:=λU F=>match p,c,t with
 | some p,some c,some t=>jb U F p c.batch room t
 | _,_,_=>True
def AC (A:AR)(Y:Lay)(T:Nat->Hp->Rg->Prop):Lb->Hp->Rg->Prop
 | .hd=>ib Y.p (ke Y)
 | .dB=>cT Y.dB 3 (fT A.tb)
 | .free=>r6 Y.fr A.n A.S
 | .m6=>lz Y.tr A.st
 | .own=>λU F=>iQ U F Y.op A.ow
 | .dL=>bW Y.dL 1 (fC Y.eZ)
 | .cN=>bW Y.cN 1 (fC Y.fO)
 | .runs=>jk Y.rn .i64 bN (iz A.runs)
 | .cD k=>jH Y.eZ[k]? A.tb[k]? A.cD[k]?
 | .cM k=>T k
def cJ (A:AR)(Y:Lay)(k:Nat):Hp->Rg->Prop:=kg Y.fO[k]? A.tb[k]? A.room A.cM[k]?
theorem r6.loc (p n:Nat)(S:Nat->Bool):dK (r6 p n S):=by
 rintro U σ' F G ⟨d,m,h,s⟩ y r;have g:∀b,Go.Bu.fp p d m b->b<U.size:=λb a=>by
  unfold Go.Bu.fp at a;rcases zX.1 a with h1|h1
  ·obtain⟨c,j⟩:=h.hd;rw[h1];exact j.lt
  rcases zX.1 h1 with h2|h2
  ·obtain⟨c,j⟩:=h.row;rw[h2];exact j.lt
  ·obtain⟨k,u⟩:=zO h2;obtain⟨B,w,_⟩:=h.maps k b u;exact w.lt
 have e:Ext (λb=>¬Go.Bu.fp p d m b) U σ':=⟨y,λb a i=>(r b a (s b (Classical.not_not.1 i))).2⟩;exact⟨d,m,h.bS e λb a x=>x a,λb a=>(r b (g b a) (s b a)).1⟩
theorem lz.loc (p:Nat)(st:List Nat):dK (lz p st):=by
 rintro U σ' F G ⟨q,h,i,j⟩ r a;have e:Ext (λb=>b≠p/\b≠q) U σ':=⟨r,λb m s=>by
  by_cases h1:b=p
  ·subst h1;exact(a b m i).2
  ·have g:b=q:=Classical.byContradiction λg=>s ⟨h1,g⟩;subst g;exact(a b m j).2⟩
 exact⟨q,h.bS e (λd=>d.1 rfl) (λd=>d.2 rfl),(a p h.lt.1 i).1,(a q h.lt.2 j).1⟩
theorem jH.loc (p:Option Nat)(c:Option bZ)(ss:Option (List cF)):dK (jH p c ss):=by
 rintro U e F G h d a;unfold jH at *;split
 ·simp only at h;obtain⟨b,h⟩:=h;exact⟨b,eU.loc _ _ _ _ h d a⟩
 ·trivial
theorem kg.loc (p:Option Nat)(c:Option bZ)(room:Nat)(t:Option fX):dK (kg p c room t):=by
 rintro U d F G h a b;unfold kg at *;split
 ·exact jb.loc _ _ _ _ h a b
 ·trivial
theorem AC.loc {A:AR}{Y:Lay}{T:Nat->Hp->Rg->Prop}(hT:∀k,dK (T k)):∀i,dK (AC A Y T i)
 | .hd=>ib.loc _ _
 | .dB=>cT.loc _ _ _
 | .free=>r6.loc _ _ _
 | .m6=>lz.loc _ _
 | .own=>iQ.loc
 | .dL=>bW.loc _ _ _
 | .cN=>bW.loc _ _ _
 | .runs=>jk.loc _ _ _ _
 | .cD k=>jH.loc _ _ _
 | .cM k=>hT k
theorem cJ.loc {A:AR}{Y:Lay}(k:Nat):dK (cJ A Y k):=kg.loc _ _ _ _
structure eO (A:AR) (Y:Lay):Prop where
 c:Y.eZ.length=A.tb.length
 t:Y.fO.length=A.tb.length
 cD:A.cD.length=A.tb.length
 cM:A.cM.length=A.tb.length
 mA:1<=A.tb.length
 pF:A.tb.length<=40
 n1:32<=A.n
 n2:A.n<=1024
 n3:A.n%16=0
 st:A.st.length=A.n
 room:A.room<=8
 ok:∀c∈A.tb,c.ok
structure dE (U:Hp) (F:Rg) (Y:Lay) (A:AR) (T:Nat->Hp->Rg->Prop):Prop where
 lay:eO A Y
 tl:∀k,dK (T k)
 sep:Sep (AC A Y T) U F
def AH (U:Hp)(F:Rg)(p hs:Nat)(A:AR):Prop:=∃Y:Lay,Y.p=p/\Y.hs=hs/\dE U F Y A (cJ A Y)
variable {U:Hp}{F:Rg}{p hs:Nat}{A:AR}{Y:Lay}{T:Nat->Hp->Rg->Prop}
theorem dE.loc:dK λU F=>dE U F Y A T:=λU d F G h a b=>⟨h.lay,h.tl,Sep.loc (AC.loc h.tl) _ _ _ _ h.sep a b⟩
theorem AH.loc:dK λU F=>AH U F p hs A:=λU e F G ⟨Y,b,a,h⟩ d hs=>⟨Y,b,a,dE.loc _ _ _ _ h d hs⟩
theorem dE.bO {σ':Hp}(h:dE U F Y A T)(e:bK U σ'):dE σ' F Y A T:=dK.bO dE.loc h e
theorem dE.hd (h:dE U F Y A T):bX U Y.p (ke Y):=by
 obtain⟨G,d,b,a⟩:=h.sep.get .hd;exact a
theorem Vk (tb:List bZ):(fT tb).length=tb.length*3:=by
 induction tb with
 | nil=>rfl
 | cons x l ih=>simp only[fT,qQ,zQ,zW,kI]at *;omega
theorem HL {tb:List bZ}{i:Nat}{c:bZ}(h:tb[i]?=some c):(fT tb)[3*i]?=some (.int .i64 (c.size:Int))/\(fT tb)[3*i+1]?=some (.int .i64 (c.aF:Int))/\(fT tb)[3*i+2]?=some (.int .i64 (c.batch:Int)):=by
 induction tb generalizing i with
 | nil=>simp at h
 | cons x l ih=>
  have e:fT (x::l)=[.int .i64 (x.size:Int),.int .i64 (x.aF:Int),.int .i64 (x.batch:Int)]++fT l:=by simp[fT]
  rw[e];cases i with
  | zero=>simp at h;subst h;simp
  | succ i=>
   have:=ih (i:=i) (by simpa using h);rw[show 3*(i+1)=3*i+3 by omega];simpa using this
theorem dE.nN (h:dE U F Y A T):Y.dB.len=A.tb.length:=by
 obtain⟨G,b,a⟩:=h.sep.get .dB;have:=a.1;rw[Vk]at this;omega
theorem GM {s:Sl}{tb:List bZ}(h:cT s 3 (fT tb) U F){k d:Nat}{c:bZ}(hc:tb[k]?=some c)(hd:d<3){K:Int->Prop}(hK:K (if d=0 then c.size else if d=1 then c.aF else c.batch:Nat)) :
 Ix s.a s.len (k:Int) 3 λa=>gP .i64 (a.add d) U K:=by
 have g:=HL hc;have m:(fT tb)[3*k+d]?=some (.int .i64 ((if d=0 then c.size else if d=1 then c.aF else c.batch:Nat):Int)):=by
  match d,hd with
  | 0,_=>exact g.1
  | 1,_=>exact g.2.1
  | 2,_=>exact g.2.2
 have p:=(cX.1 hc).1;obtain⟨b,o,j,e⟩:=h.cell m;have i:=h.1;rw[Vk]at i;rw[j];refine ix O O ?_;rw[add_lit,add_lit];refine m9 ?_ hK;rw[show o+(k:Int).toNat*3+d=o+(3*k+d) by omega];exact e
theorem dE.uJ (h:dE U F Y A T){k d:Nat}{c:bZ}(hc:A.tb[k]?=some c)(hd:d<3){K:Int->Prop}(hK:K (if d=0 then c.size else if d=1 then c.aF else c.batch:Nat)) :
 Ix Y.dB.a Y.dB.len (k:Int) 3 λa=>gP .i64 (a.add d) U K:=by
 obtain⟨G,e,b⟩:=h.sep.get .dB;exact GM b hc hd hK
theorem yG {s:Sl}{l:List Nat}(h:cT s 1 (fC l) U F){k q:Nat}(hq:l[k]?=some q){K:Option Addr->Prop}(hK:K (some ⟨q,0,none⟩)):Ix s.a s.len (k:Int) 1 λa=>fQ a U K:=by
 have i:=(cX.1 hq).1;obtain⟨b,o,g,d⟩:=h.cell (j:=k) (v:=.pointer (some ⟨q,0,none⟩)) (by simp[fC,hq]);have e:=h.1;simp[fC]at e;rw[g];refine ix O O ?_;rw[add_lit];exact r8 (by rw[show o+(k:Int).toNat*1=o+k by omega];exact d) hK
theorem dE.k7 (h:dE U F Y A T){k q:Nat}(hq:Y.eZ[k]?=some q){K:Option Addr->Prop}(hK:K (some ⟨q,0,none⟩)):Ix Y.dL.a Y.dL.len (k:Int) 1 λa=>fQ a U K:=by
 obtain⟨G,d,b⟩:=h.sep.get .dL;exact yG (bW.ig b) hq hK
theorem dE.qm (h:dE U F Y A T){k q:Nat}(hq:Y.fO[k]?=some q){K:Option Addr->Prop}(hK:K (some ⟨q,0,none⟩)):Ix Y.cN.a Y.cN.len (k:Int) 1 λa=>fQ a U K:=by
 obtain⟨G,d,b⟩:=h.sep.get .cN;exact yG (bW.ig b) hq hK
theorem dE.at_ (h:dE U F Y A T){k:Nat}(hk:k<A.tb.length):∃c ss q t r,A.tb[k]?=some c/\A.cD[k]?=some ss/\Y.eZ[k]?=some q/\A.cM[k]?=some t/\Y.fO[k]?=some r/\c.ok:=by
 have e:=h.lay.c;have d:=h.lay.t;have a:=h.lay.cD;have b:=h.lay.cM;exact⟨A.tb[k],A.cD[k],Y.eZ[k],A.cM[k],Y.fO[k],by simp,by simp,by simp,by simp,by simp,h.lay.ok _ (j3 hk)⟩
theorem Bm {k q:Nat}{c:bZ}{ss:List cF}{G:Rg}(h1:Y.eZ[k]?=some q)(h2:A.tb[k]?=some c)(h3:A.cD[k]?=some ss)(h:AC A Y T (.cD k) U G):∃ps,eU U G q c ps ss:=by
 simp only[AC]at h;rw[h1,h2,h3]at h;exact h
theorem dE.cD (h:dE U F Y A T){k q:Nat}{c:bZ}{ss:List cF}(h1:Y.eZ[k]?=some q)(h2:A.tb[k]?=some c)(h3:A.cD[k]?=some ss):∃G ps,(∀b,G b->F b)/\eU U G q c ps ss:=by
 obtain⟨G,a,e⟩:=h.sep.get (.cD k);obtain⟨ps,d⟩:=Bm h1 h2 h3 e;exact⟨G,ps,a,d⟩
theorem UD (h:dE U F Y A T){R:aO}(hR:R true U):W9.c (aW Y.p) U R:=by
 refine W9.o ?_;unfold W9.v;exact bR.intro (cB rfl (aG (h.hd.rP rfl hR)))
theorem VR (h:dE U F Y A T)(k:Int){R:aN}(h1:A.ck k=false->R 1 U)(h0:∀x:Nat,k=x->x<A.tb.length->R 0 U):WN.c (aW Y.p) k U R:=by
 refine WN.o ?_;unfold WN.v;have g:=h.nN;have a:¬(0<=k/\k<A.tb.length)->R 1 U:=λe=>h1 (by unfold AR.ck;rw[←sW];exact zM e);refine UD h (cE rfl (bR.intro (cR (λd=>cB rfl (a O)) λd=>aG (h.hd.rS rfl (cR (λb=>?_) λb=>?_)))))
 ·simp only at b;exact a O
 ·simp only at b;exact h0 k.toNat O O
theorem OL (h:dE U F Y A T)(x:Int){R:aO}(hR:R (H9 A x) U):YB.c (aW Y.p) x U R:=by
 refine YB.o ?_;unfold YB.v;obtain⟨G,b,q,a,_⟩:=h.sep.get .m6;refine UD h (bR.intro (cB rfl (aG (h.hd.rP rfl (Ey a x ?_)))));have:decide (vt A.st x>0)=H9 A x:=by
  unfold vt H9;by_cases hx:0<=x
  ·by_cases hl:x<A.st.length
   ·rw[zC ⟨hx,hl⟩,zK hx,oP,decide_eq_decide];omega
   ·rw[zB O,zK hx,oP,zN,zT O];rfl
  ·rw[zB O,zM hx];rfl
 rw[this];exact hR
structure iw (A:AR):Prop where
 qI:∀r∈A.runs,∀s∈A.runs,∀x,r.1<=x->x<r.1+r.2->s.1<=x->x<s.1+s.2->r=s
 BG:∀x,x<1024->A.ow x=41->(pZ A x).isSome=true
 cls:∀x,x<1024->A.ow x≠0->A.ow x≠41->A.ow x<=A.tb.length
 fit:∀r∈A.runs,r.1+r.2<=1024
theorem xj (h:iw A){x:Nat}{r:Nat×Nat}(hr:r∈A.runs)(h1:r.1<=x)(h2:x<r.1+r.2):pZ A x=some r:=by
 cases hf:pZ A x with
 | none=>
  unfold pZ at hf;rw[oM]at hf;have:=hf r hr;simp[h1,h2]at this
 | some s=>
  unfold pZ at hf;have b:=rR hf;have a:=rH hf;simp at a;rw[h.qI r hr s b x h1 h2 a.1 a.2]
theorem IG (h:dE U F Y A T)(hr:iw A)(x:Int)(hx:iu x){R:Int->Int->Int->Hp->Prop}(h1:∀σ' k a,bK U σ'->Uj A x=some (k,a)->R k (a:Int) 0 σ')(h0:∀σ',bK U σ'->Uj A x=none->R 0 0 8 σ') :
 Yx.c (aW Y.p) x U R:=by
 refine Yx.o ?_;unfold Yx.v;refine UD h (cE rfl (cR (λc1=>h0 U (Ext.refl _ _) (by unfold Uj;rw[zC c1])) λc1=>aG (h.hd.rP rfl (nz aB ?_))));obtain⟨y,rfl⟩:=zY (show 0<=x by omega);have hy:y<=9223372036854775807:=by unfold iu at hx;omega
 have tp:((y:Int).tdiv 256)=((y/256:Nat):Int):=by rw[Yi O];simp
 refine ar (by rw[tp];omega) (by rw[tp];omega) ?_;rw[tp];obtain⟨G,hG,hP⟩:=h.sep.get .own;refine Jx hP _ ?_;have eo:pH A.ow ((y/256:Nat):Int)=if y/256<1024 then A.ow (y/256)else 0:=by
  unfold pH;by_cases hl:y/256<1024
  ·rw[zC O,zC hl];rfl
  ·rw[zB O,zB hl]
 have g:Uj A (y:Int)=(let no:=if y/256<1024 then A.ow (y/256)else 0
  if no=0 then none else if no=41 then(pZ A (y/256)).map λr=>(-1,r.1*256)else
  match A.tb[no-1]?,A.cD[no-1]? with
  | some c,some ss=>(pB c ss (y:Int)).map λa=>(((no-1:Nat):Int),a)
  | _,_=>none):=by
  unfold Uj;rw[zB c1];rfl
 rw[eo];generalize hno:(if y/256<1024 then A.ow (y/256)else 0)=no at *
 simp only at g;rw[tB];refine cY (λW=>h0 U (Ext.refl _ _) (by rw[g,zC (by simpa using W)])) λW=>?_;have C:no≠0:=by simpa using W
 rw[zB C]at g;have D:y/256<1024:=by
  rcases jX (y/256) 1024 with h|h
  ·exact h
  ·rw[zB O]at hno;exact absurd hno.symm C
 rw[zC D]at hno;refine Jn.intro ?_;have e41:(((no:Nat):Int)==41)=(no==41):=k5 no 41;rw[e41];refine cY (λQ=>?_) λQ=>?_
 ·have w:no=41:=by simpa using Q
  subst w;rw[zC rfl]at g;obtain⟨r,M⟩:=om.1 (hr.BG _ D hno);have j:=rR M;have E:=rH M;simp at E;obtain⟨G,hG,K⟩:=h.sep.get .runs;refine aG (h.hd.rM rfl ?_);refine xk K.2 (λb v=>bK U v/\(∀z∈b,z∈iz A.runs)/\((r.1:Int),(r.2:Int))∈b) (λv hz e=>⟨e,λz hz=>hz,zF.2 ⟨r,j,rfl⟩⟩) (λv hv=>absurd hv.2.2 aA) ?_;rintro b n z v v' J ⟨e,d,B⟩ hm ho hlt2 hJ;have S:bK U v':=Ext.fresh e ho.ext λi hi=>by omega
  obtain⟨s,P,hse⟩:=zF.1 (d _ hm);cases hse;have hfit:=hr.fit s P;refine nz aB (ar O O ?_);refine bR.intro (cR (λc3=>ar O O (cR (λc4=>?_) λc4=>?_)) λc3=>cE rfl ?_)
  ·have X:=xj hr P (x:=y/256) O O;refine ar O O ?_;have:=h1 v' (-1) (s.1*256) S (by rw[g,X];rfl);simpa using this
  ·refine hJ v' rfl rfl ⟨S,λu hu=>d u (zI.1 hu).1,zI.2 ⟨B,?_⟩⟩;have:¬(r.1:Int)=(s.1:Int):=λe=>by
    have:=xj hr j E.1 E.2;have e1:r.1=s.1:=by omega
    by_cases h2:r.2=0
    ·omega
    by_cases h3:s.2=0
    ·have:=K.2.nodup;have N:=Vt this (zF.2 ⟨r,j,rfl⟩);have H:=Vt this (zF.2 ⟨s,P,rfl⟩);rw[e1,H]at N;have:s.2=r.2:=by
      have:(s.2:Int)=(r.2:Int):=Option.some.inj N;omega
     omega
    ·have:=hr.qI r j s P r.1 O O O O;subst this;omega
   simpa using this
  ·refine hJ v' rfl rfl ⟨S,λu hu=>d u (zI.1 hu).1,zI.2 ⟨B,?_⟩⟩;have:¬(r.1:Int)=(s.1:Int):=λe=>by omega
   simpa using this
 ·have w:no≠41:=by simpa using Q
  rw[zB w]at g;have V:=hr.cls _ D (by rw[hno];exact C) (by rw[hno];exact w);rw[hno]at V;obtain⟨c,ss,q,t,r,hc,L,hq,_,_,hok⟩:=h.at_ (k:=no-1) O;obtain⟨G,ps,hG,hC⟩:=h.cD hq hc L;rw[hc,L]at g;simp only at g;refine aG (h.hd.rS rfl (cQ (m:=no-1) O (by have:=h.lay.pF;omega) (h.k7 hq (M6 hC _ hx (λa Z=>?_) λZ=>?_))))
  ·refine cE rfl (cQ (m:=no-1) O (by have:=h.lay.pF;omega) (h1 U _ a (Ext.refl _ _) ?_));rw[g,Z];rfl
  ·refine cB rfl (h0 U (Ext.refl _ _) ?_);rw[g,Z];rfl
end Go.Ar
namespace Go.Ar
open Go Go.Vc Go.Proofs
open Go.Bu (Y4 Ql YW)
open Classical in
theorem _root_.Go.Vc.Sep.jA {L:Type}{C:L->Hp->Rg->Prop}{U:Hp}{F:Rg}(hC:∀i,dK (C i))(h:Sep C U F)(i:L):∃G:Rg,(∀b,G b->F b)/\C i U G/\(∀j,j≠i->∃H:Rg,(∀b,H b->F b)/\(∀b,H b->¬G b)/\C j U H)/\∀(σ':Hp) (C':L->Hp->Rg->Prop) (G':Rg),
 (∀j,j≠i->C' j=C j)->Ext G U σ'->(∀b,G' b->G b\/U.size<=b)->C' i σ' G'->dK (C' i)->Sep C' σ' λb=>F b/\b<U.size/\¬G b\/G' b:=by
 obtain⟨ρ,h⟩:=h;refine⟨_,λb a=>a.1,h i,λj r=>⟨_,λb a=>a.1,λb m w=>r (m.2.symm.trans w.2),h j⟩,λσ' C' G' r e u x y=>⟨λb=>if G' b then i else ρ b,λj=>?_⟩⟩
 by_cases hji:j=i
 ·subst hji;exact y.mono x λb _ a=>⟨.inr a,zC a⟩
 ·rw[r j hji];refine hC j _ _ _ _ (h j) e.1 λb a s=>?_;have d:¬(F b/\ρ b=i):=λp=>hji (s.2.symm.trans p.2);have g:¬G' b:=λp=>by
   rcases u b p with m|m
   ·exact d m
   ·omega
  exact⟨⟨.inl ⟨s.1,a,d⟩,(zB g).trans s.2⟩,e.2 b a d⟩
variable {U:Hp}{F:Rg}{p hs:Nat}{A:AR}{Y:Lay}{T:Nat->Hp->Rg->Prop}
theorem dE.step (h:dE U F Y A T)(i:Lb):∃G:Rg,(∀b,G b->F b)/\AC A Y T i U G/\(∀j,j≠i->∃H:Rg,(∀b,H b->F b)/\(∀b,H b->¬G b)/\AC A Y T j U H)/\∀(σ':Hp) (A':AR) (Y':Lay) (T':Nat->Hp->Rg->Prop) (G' H:Rg),
 eO A' Y'->(∀k,dK (T' k))->(∀j,j≠i->AC A' Y' T' j=AC A Y T j)->Ext G U σ'->(∀b,G' b->G b\/U.size<=b)->AC A' Y' T' i σ' G'->(∀b,(F b/\b<U.size/\¬G b\/G' b)->H b)->dE σ' H Y' A' T':=by
 obtain⟨G,r,u,hd,a⟩:=h.sep.jA (AC.loc h.tl) i;refine⟨G,r,u,hd,λσ' A' Y' T' G' H x d w e p g m=>⟨x,d,?_⟩⟩;exact(Sep.loc (AC.loc d)).mono (a σ' _ G' w e p g (AC.loc d i)) λb _ s=>m b s
theorem Hi {U:Hp}{F G G':Rg}(hG:∀b,G b->F b)(hg:∀b,G' b->G b\/U.size<=b):∀b,(F b/\b<U.size/\¬G b\/G' b)->Grow F U b:=λb a=>by
 rcases a with a|a
 ·exact .inl a.1
 ·exact(hg b a).imp (hG b) id
theorem vY {U:Hp}{F G G':Rg}(hG:∀b,G b->F b)(hg:∀b,G' b->G b):∀b,(F b/\b<U.size/\¬G b\/G' b)->F b:=λb a=>by
 rcases a with a|a
 ·exact a.1
 ·exact hG b (hg b a)
theorem DR {U:Hp}{F G:Rg}(hG:∀b,G b->F b):∀b,(F b/\b<U.size/\¬G b\/Cut G U b)->Cut F U b:=λb a=>by
 rcases a with a|a
 ·exact⟨a.1,a.2.1⟩
 ·exact⟨hG b a.1,a.2⟩
theorem CW {ow:Nat->Nat}:∀j,j≠Lb.own->AC {A with ow:=ow} Y T j=AC A Y T j:=by
 intro j hj;cases j<;>first|rfl|exact absurd rfl hj
theorem E8 {st:List Nat}:∀j,j≠Lb.m6->AC {A with st:=st} Y T j=AC A Y T j:=by
 intro j hj;cases j<;>first|rfl|exact absurd rfl hj
theorem wZ {S:Nat->Bool}:∀j,j≠Lb.free->AC {A with S:=S} Y T j=AC A Y T j:=by
 intro j hj;cases j<;>first|rfl|exact absurd rfl hj
theorem MR {rs:List (Nat×Nat)}:∀j,j≠Lb.runs->AC {A with runs:=rs} Y T j=AC A Y T j:=by
 intro j hj;cases j<;>first|rfl|exact absurd rfl hj
theorem Ew {k:Nat}{ss:List cF}:∀j,j≠Lb.cD k->AC {A with cD:=A.cD.set k ss} Y T j=AC A Y T j:=by
 intro j hj;cases j<;>first|rfl|skip
 rename_i k';have a:k≠k':=λe=>hj (by rw[e]);simp only[AC];rw[ze a]
theorem eO.ow {ow:Nat->Nat}(h:eO A Y):eO {A with ow:=ow} Y:=⟨h.c,h.t,h.cD,h.cM,h.mA,h.pF,h.n1,h.n2,h.n3,h.st,h.room,h.ok⟩
theorem eO.xZ {S:Nat->Bool}(h:eO A Y):eO {A with S:=S} Y:=⟨h.c,h.t,h.cD,h.cM,h.mA,h.pF,h.n1,h.n2,h.n3,h.st,h.room,h.ok⟩
theorem eO.pw {rs:List (Nat×Nat)}(h:eO A Y):eO {A with runs:=rs} Y:=⟨h.c,h.t,h.cD,h.cM,h.mA,h.pF,h.n1,h.n2,h.n3,h.st,h.room,h.ok⟩
theorem eO.ub {st:List Nat}(h:eO A Y)(hl:st.length=A.st.length):eO {A with st:=st} Y:=⟨h.c,h.t,h.cD,h.cM,h.mA,h.pF,h.n1,h.n2,h.n3,hl.trans h.st,h.room,h.ok⟩
theorem eO.kh {k:Nat}{ss:List cF}(h:eO A Y):eO {A with cD:=A.cD.set k ss} Y:=⟨h.c,h.t,by simpa using h.cD,h.cM,h.mA,h.pF,h.n1,h.n2,h.n3,h.st,h.room,h.ok⟩
theorem AT (st:List Nat)(a m:Int)(v:Nat)(fr:List Nat):(VW st a m v fr).length=st.length:=by
 unfold VW;split<;>simp[Ki]
theorem ER (st:List Nat)(k:Int):(iE st k).length=st.length:=by
 unfold iE;split<;>simp[Ki]
theorem dE.Clear (h:dE U F Y A T)(a m:Nat)(ha:a<=1000000){R:aN}(hR:∀σ' t,Ext F U σ'->dE σ' (Grow F U) Y {A with ow:=jl A.ow a m 0} T->R t σ'):Xw.c (aW Y.op) a m U R:=by
 obtain⟨G,i,p,_,d⟩:=h.step .own;refine L8 p a m ha λσ' e j=>hR σ' _ (e.sub i) ?_;exact d σ' _ _ T (Grow G U) _ h.lay.ow h.tl CW e (λb g=>g) j (Hi i λb g=>g)
theorem dE.Set (h:dE U F Y A T)(a m:Nat)(ha:a<=1000000){no:Nat}(h1:1<=no)(h2:no<=1000){R:aN}(hR:∀σ' t,Ext F U σ'->dE σ' (Grow F U) Y {A with ow:=jl A.ow a m no} T->R t σ'):XV.c (aW Y.op) a m no U R:=by
 obtain⟨G,i,p,_,d⟩:=h.step .own;refine Lh p a m ha h1 h2 λσ' e j=>hR σ' _ (e.sub i) ?_;exact d σ' _ _ T (Grow G U) _ h.lay.ow h.tl CW e (λb g=>g) j (Hi i λb g=>g)
theorem dE.m6 (h:dE U F Y A T):∃G:Rg,(∀b,G b->F b)/\∃q,gR U Y.tr q A.st/\F q/\∀(σ':Hp) (st:List Nat),st.length=A.st.length->Ext (· = q) U σ'->gR σ' Y.tr q st->Ext F U σ'/\dE σ' F Y {A with st:=st} T:=by
 obtain⟨G,g,⟨q,m,r,i⟩,_,d⟩:=h.step .m6;refine⟨G,g,q,m,g _ i,λσ' st j e p=>⟨e.sub λb a=>by subst a;exact g _ i,?_⟩⟩;exact d σ' _ _ T G _ (h.lay.ub j) h.tl E8 (e.sub λb a=>by subst a;exact i) (λb a=>.inl a) ⟨q,p,r,i⟩ (vY g λb a=>a)
theorem dE.uA (h:dE U F Y A T)(a m:Int){R:aN}(hR:∀σ' t,Ext F U σ'->dE σ' F Y {A with st:=VW A.st a m 2 [1]} T->R t σ'):Xo.c (aW Y.tr) a m U R:=by
 obtain⟨G,i,q,d,_,b⟩:=h.m6;refine FP d a m λσ' e g=>?_;have:=b σ' _ (AT _ _ _ _ _) e g;exact hR σ' _ this.1 this.2
theorem dE.Oz (h:dE U F Y A T)(a m:Int){R:aN}(hR:∀σ' t,Ext F U σ'->dE σ' F Y {A with st:=VW A.st a m 1 [2,3]} T->R t σ'):Xu.c (aW Y.tr) a m U R:=by
 obtain⟨G,i,q,d,_,b⟩:=h.m6;refine Nb d a m λσ' e g=>?_;have:=b σ' _ (AT _ _ _ _ _) e g;exact hR σ' _ this.1 this.2
theorem dE.x4 (h:dE U F Y A T)(k:Int){R:aN}(hR:∀σ' t,Ext F U σ'->dE σ' F Y {A with st:=iE A.st k} T->R t σ'):XZ.c (aW Y.tr) k U R:=by
 obtain⟨G,g,q,b,_,a⟩:=h.m6;refine LD b k λσ' e d=>?_;have:=a σ' _ (ER _ _) e d;exact hR σ' _ this.1 this.2
theorem dE.free (h:dE U F Y A T):∃sb ms,Go.Bu.BH U Y.fr A.n A.S sb ms/\∀(σ':Hp) (S:Nat->Bool),Ext (· ∈ ms) U σ'->Go.Bu.BH σ' Y.fr A.n S sb ms->Ext F U σ'/\dE σ' F Y {A with S:=S} T:=by
 obtain⟨G,i,⟨sb,ms,m,j⟩,_,d⟩:=h.step .free;have g:∀b,b∈ms->G b:=λb a=>j b (by unfold Go.Bu.fp;simp[a]);refine⟨sb,ms,m,λσ' S e p=>⟨e.sub λb a=>i b (g b a),?_⟩⟩;exact d σ' _ _ T G _ h.lay.xZ h.tl wZ (e.sub g) (λb a=>.inl a) ⟨sb,ms,p,j⟩ (vY i λb a=>a)
theorem dE.tQ (h:dE U F Y A T)(a m:Int){R:aN}(hR:∀σ' t,Ext F U σ'->dE σ' F Y {A with S:=Ql A.n A.S a m} T->R t σ'):XU.c (aW Y.fr) a m U R:=by
 obtain⟨j,i,d,b⟩:=h.free;refine Go.Bu.oW d a m λσ' e g=>?_;have:=b σ' _ e g;exact hR σ' _ this.1 this.2
theorem dE.uX (h:dE U F Y A T)(a m:Int){R:Int->Int->Hp->Prop}(hR:∀σ',Ext F U σ'->dE σ' F Y {A with S:=Go.Bu.iF A.n A.S a m} T->R ((Go.Bu.iN A.n A.S a m:Nat):Int) (Go.Bu.iH A.n A.S a m) σ'):Xy.c (aW Y.fr) a m U R:=by
 obtain⟨j,i,d,b⟩:=h.free;refine Go.Bu.kE d a m λσ' e g=>?_;have:=b σ' _ e g;exact hR σ' this.1 this.2
def rV (rs:List (Nat×Nat)):List Value:=rs.flatMap λr=>[.int .i64 (r.1:Int),.int .i64 (r.2:Int)]
theorem AU (rs:List (Nat×Nat)):(rV rs).length=rs.length*2:=by
 induction rs with
 | nil=>rfl
 | cons x l ih=>simp only[rV,qQ,zQ,zW,kI]at *;omega
theorem IN {l:List (Nat×Nat)}{i:Nat}{r:Nat×Nat}(h:l[i]?=some r):(rV l)[2*i]?=some (.int .i64 (r.1:Int))/\(rV l)[2*i+1]?=some (.int .i64 (r.2:Int)):=by
 induction l generalizing i with
 | nil=>simp at h
 | cons x l ih=>
  have e:rV (x::l)=[.int .i64 (x.1:Int),.int .i64 (x.2:Int)]++rV l:=by simp[rV]
  rw[e];cases i with
  | zero=>simp at h;subst h;simp
  | succ i=>
   have:=ih (i:=i) (by simpa using h);rw[show 2*(i+1)=2*i+2 by omega];simpa using this
theorem MA (c:bZ)(l:List Nat):iv c l=rV (l.map λs=>(s,c.aF)):=by
 simp[iv,rV,List.flatMap_map]
theorem Fo {s:Sl}{rs:List (Nat×Nat)}(h:cT s 2 (rV rs) U F){i:Nat}{r:Nat×Nat}(hr:rs[i]?=some r){K:Int->Int->Prop}(hK:K (r.1:Int) (r.2:Int)) :
 Ix s.a s.len (i:Int) 2 λa=>gP .i64 (a.add 0) U λu=>gP .i64 (a.add 1) U λw=>K u w:=by
 have j:=IN hr;have y:=(cX.1 hr).1;obtain⟨b,o,g,p⟩:=h.cell j.1;obtain⟨x,o1,d,e⟩:=h.cell j.2;rw[g]at d;cases d;have m:=h.1;rw[AU]at m;rw[g];refine ix O O ?_;rw[add_lit];refine m9 ?_ (m9 ?_ hK)<;>rw[add_lit]
 ·rw[show o+(i:Int).toNat*2+0=o+2*i by omega];exact p
 ·rw[show o+(i:Int).toNat*2+1=o+(2*i+1) by omega];exact e
theorem dE.mono {G:Rg}(h:dE U F Y A T)(hs:∀b,b<U.size->F b->G b):dE U G Y A T:=dK.mono dE.loc h hs
theorem dE.cut (h:dE U F Y A T):dE U (Cut F U) Y A T:=dK.cut dE.loc h
theorem FB (A:AR)(rs:List (Nat×Nat))(r:Nat×Nat):VF A (rs++[r])=Vo (VF A rs) r:=by simp[VF]
theorem Cz (h:dE U F Y A T){sl:Sl}{rs:List (Nat×Nat)}{X:Rg}(hs:cT sl 2 (rV rs) U X)(hX:∀b,b<U.size->X b->¬F b)(hl:rs.length<=1000000)(hb:∀r∈rs,r.1<=1000000){R:aP}
 (hR:∀σ',Ext F U σ'->dE σ' (Grow F U) Y (VF A rs) T->R σ'):X0.c (aW Y.p) sl U R:=by
 refine X0.o ?_;unfold X0.v;have V:sl.len=rs.length:=by have:=hs.1;rw[AU]at this;omega
 have D:cT sl 2 (rV rs) U (Cut X U):=aH.cut hs;refine Z5 (a:=bN) (λ(t:Int) v=>∃i:Nat,t=(i:Int)/\i<=rs.length/\Ext F U v/\dE v (Grow F U) Y (VF A (rs.take i)) T) (λt _=>rs.length-t.toNat) ⟨0,rfl,O,Ext.refl _ _,by simpa[VF]using h.mono λb _ hb=>.inl hb⟩ ?_;rintro t v ⟨i,rfl,S,e,K⟩;refine cR (λhlt=>?_) λhge=>?_
 ·have j:i<rs.length:=by omega
  have y:rs[i]?=some rs[i]:=cW j;have J:=hb _ (j3 j);have M:=aH.bS D e λb H y u=>hX b H y.1 u;refine Fo M y ?_;have N:rs.take (i+1)=rs.take i++[rs[i]]:=by rw[lj,y];rfl
  generalize rs[i]=r at *;refine nw (cs:=[.int .i64 0,.int .i64 0]) λv4 hz4 e4 E=>E.s1 aA λv5 o5 b5=>b5.s1 aA λv6 o6 b6=>?_;have s:bK v v6:=Ext.fresh (Ext.fresh e4 o5.ext λi S=>O) o6.ext λi S=>by omega
  have w:=K.cut.bO s;have W:¬Cut (Grow F U) v v.size:=λu=>by have:=u.2;omega
  have g:bX v6 v.size [.int .i64 (r.1:Int),.int .i64 (r.2:Int)]:=b6;have z6:v.size<v6.size:=b6.lt;refine aG (w.hd.rP rfl (g.rI rfl (g.rI rfl (w.Clear r.1 r.2 J λv7 t7 Q C=>?_))));have L:=Q.bU g W;have d:=C.mono (G:=λb=>Cut (Grow F U) v b\/v.size<b) λb _ hb=>by
   rcases hb with hb|hb
   ·exact .inl hb
   ·exact .inr O
  have z:¬(Cut (Grow F U) v v.size\/v.size<v.size):=λu=>by
   rcases u with h|h
   ·exact W h
   ·omega
  refine aG (d.hd.rP rfl (L.rI rfl (L.rI rfl (d.uA _ _ λv8 t8 Z x=>?_))));have P:=Z.bU L z;refine aG (x.hd.rP rfl (P.rI rfl (P.rI rfl (x.tQ _ _ λv9 t9 e9 B=>?_))));have sub:∀b,(Cut (Grow F U) v b\/v.size<b)->Grow F U b:=λb hb=>by
   rcases hb with hb|hb
   ·exact hb.1
   ·exact .inr (by have:=e.1;omega)
  have ee:Ext F U v9:=((((e.trans (bK.to s)).jh (Q.sub λb hb=>hb.1))).jh (Z.sub sub)).jh (e9.sub sub);refine cQ (m:=i+1) O O ⟨⟨i+1,rfl,O,ee,?_⟩,O⟩;rw[N,FB];exact B.mono λb _ hb=>sub b hb
 ·have:i=rs.length:=by omega
  subst this;rw[mX]at K;exact hR v e K
end Go.Ar
namespace Go.Proofs
open Go.Vc
set_option maxRecDepth 100000
def XB.h:Hn:=.q .o1 (.q (.q .o3 .aK) (.q .o1 (.q (.q .o5 (.k (.loop [(3,.I)] (.q (.cS (.seq [.it .i64 .p,.op])) (.q (.c .l .l) (.k (.q (.cS (.seq [.it .i64 .p,.op,.op,.op,.op])) (.oq 17)))))))) .aL)))
def XB.v (a:R2)(b:Hp)(c:aN):Prop:=W6.c a b λd e=>If (!d) (c 0 e) (bI a 2 e λg=>mW .i64 .p g e λh i=>YC [bN] (λj=>j 0 i) λk (l:Int) m=>mV .i64 .p h m (c l m) (λn o p=>mT .i64 .p h p λq r=>bE a 0 p λt=>Ix t.a t.len q 3 λu=>aQ u 0 p λv=>bE r 0 p λx=>bL (v*((x.len:Nat):Int)) λy=>bL (l+y) λz=>k z p))
theorem XB.o {a b c}(d:XB.v a b c):XB.c a b c:=Wa Tryz.func79 (x:=XB.h) (R0 d)
def W6.h:Hn:=.q .o1 (.q (.cS (.seq [.op,.op,.op,.cO true 5 (RI.ops 5),.op])) .l)
def W6.v (a:R2)(b:Hp)(c:aO):Prop:=bR (λd e=>c d e) λf=>If (!a.isNone) (bI a 2 b λh=>f (!h.isNone) b) (f false b)
theorem W6.o {a b c}(d:W6.v a b c):W6.c a b c:=Wa Tryz.func110 (x:=W6.h) (R0 d)
def QB.h:Hn:=.q .o2 (.q (.k (.q .o4 (.c .aL (.q (.cS (.seq [.op,.op,.op,.cO false 2 [.op,.op],.op])) .aJ)))) (.q .o8 .l))
def QB.v (a:Sl)(b:Int)(c:Hp)(d:Option Addr->Int->Hp->Prop):Prop:=Zm.c a c λe f=>If (!e) (d none 2 f) (bR (λg h=>If g (d none 1 h) (Wi.c a h λi j=>Nw (.map #[] 0) j λk l=>aV #[.slice i.a i.len i.cap,.I b,.map (some k.block)] 168 l λm n=>d (some m) 0 n)) λo=>If (b<0) (o true f) (o (decide (b>65536)) f))
theorem QB.o {a b c d}(e:QB.v a b c d):QB.c a b c d:=Wa Tryz.func144 (x:=QB.h) (R0 e)
def XW.h:Hn:=.q .o2 (.q .o8 (.q (.q .o2 (.c (.q .o3 .l) .l)) (.q (.q .o6 (.c (.q (.q .o9 (.q .o6 (.c .o8 (.o 11)))) .aL) .l)) (.q .o7 (.q .o8 (.q .gG (.q .gG (.q .o3 .l))))))))
def XW.v (a:R2)(b:Int)(c:Hp)(d:Int->Int->Hp->Prop):Prop:=Xh.c a b c λe f g=>If (f != 0) (d 0 f g) (bE e 0 g λi=>If (((i.len:Nat):Int)==0) (bE a 0 g λk=>Ix k.a k.len b 3 λl=>aQ l 2 g λm=>bD e 1 g λo=>If (o<m) (bD e 1 g λq=>bL (q+1) λr=>bT e λs=>aR s 1 (.I r) g λt=>d 0 4 t) (bD e 1 g λv=>bL (v+m) λw=>bT e λx=>aR x 1 (.I (if 128<w then 128 else w)) g λy=>d 0 4 y)) (bE e 0 g λaa=>bL (((aa.len:Nat):Int)-1) λab=>bE e 0 g λad=>Ix ad.a ad.len ab 1 λae=>bM ae g λaf=>bE e 0 g λah=>eY ah 1 0 ab (ah.cap:Nat) λai=>bT e λaj=>aR aj 0 (.slice ai.a ai.len ai.cap) g λak=>bD e 2 ak λam=>bT e λan=>aR an 2 (.I (if ab<am then ab else am)) ak λao=>d af 0 ao))
theorem XW.o {a b c d}(e:XW.v a b c d):XW.c a b c d:=Wa Tryz.func147 (x:=XW.h) (R0 e)
def XM.h:Hn:=.q .o2 (.q .o8 (.q (.q .o2 (.c (.q .o3 .l) .l)) (.q (.oq 15) .l)))
def XM.v (a:R2)(b:Int)(c:Hp)(d:Int->Int->Hp->Prop):Prop:=Xh.c a b c λe f g=>If (f != 0) (d 0 f g) (bD e 1 g λi=>bE a 0 g λk=>Ix k.a k.len b 3 λl=>aQ l 2 g λm=>d (if m<i then m else i) 0 g)
theorem XM.o {a b c d}(e:XM.v a b c d):XM.c a b c d:=Wa Tryz.func149 (x:=XM.h) (R0 e)
def XO.h:Hn:=.q .o1 (.q .o8 (.q (.q .o2 .aJ) (.q .o3 (.q .o2 (.q .o4 .l)))))
def XO.v (a:R2)(b:Int)(c:Sl)(d:Hp)(e:aN):Prop:=Xh.c a b d λf g h=>If (g != 0) (e g h) (WD.c c h λi j=>WP.c i j λk=>WQ.c f i k λl m=>e l m)
theorem XO.o {a b c d e}(f:XO.v a b c d e):XO.c a b c d e:=Wa Tryz.func154 (x:=XO.h) (R0 f)
def Yo.h:Hn:=.q .o2 (.q .o8 (.q (.q .o2 (.c (.q .o3 .l) .l)) (.q (.q .o5 (.q .o2 (.c (.q .o3 .l) .l))) (.q (.q (.oq 10) .aJ) (.q .o9 (.jT [] (.q .o6 (.c .o8 .l)) (.q (.o 11) .l)))))))
def Yo.v (a:R2)(b c:Int)(d:Hp)(e:Sl->Int->Hp->Prop):Prop:=Xh.c a b d λf g h=>If (g != 0) (e ⟨none,0,0⟩ g h) (aV #[.I c] 3 h λi j=>WQ.c f ⟨some i,1,1⟩ j λk l=>If (k != 0) (e ⟨none,0,0⟩ k l) (bE f 0 l λn=>bD f 1 l λp=>If (((n.len:Nat):Int)<=p) (e ⟨none,0,0⟩ 0 l) (bE a 0 l λr=>Ix r.a r.len b 3 λs=>aQ s 2 l λt=>Jn [] (λu=>bE f 0 u λw=>W4.c f (if((w.len:Nat):Int)<t then((w.len:Nat):Int)else t) u λx y=>e x 0 y) λz=>bD f 1 l λab=>If (ab<t) (bD f 1 l λad=>bL (ad+1) λae=>bT f λaf=>aR af 1 (.I ae) l λag=>z ag) (z l))))
theorem Yo.o {a b c d e}(f:Yo.v a b c d e):Yo.c a b c d e:=Wa Tryz.func157 (x:=Yo.h) (R0 f)
def XQ.h:Hn:=.q .o1 (.q (.cS (.gQ false [] [(2,.one .b)] (.take 0 (.all [(1,.take 2 (.split 5 (.tk [3,5,6,7] (.all [(4,.all [(8,.tk [9,10,11] (.done))]),(8,.all [(4,.tk [9,10,11] (.done))])])) (.tk [3,4,5,6,7,8,9,10,11] (.done))))])))) .l)
def XQ.v (a:R2)(b:Hp)(c:aO):Prop:=Jn [.b] (λ(d:Bool) e=>c d e) λf=>W6.c a b λg h=>If g (bT a λi=>(XB.c a h λj k=>aQ i 1 k λl=>f (decide (j>l)) k) ∧ (aQ i 1 h λm=>XB.c a h λn o=>f (decide (n>m)) o)) (f false h)
theorem XQ.o {a b c}(d:XQ.v a b c):XQ.c a b c:=Wa Tryz.func158 (x:=XQ.h) (R0 d)
def WV.h:Hn:=.q .o1 (.q .o3 .l)
def WV.v (a:R2)(b:Hp)(c:Sl->Hp->Prop):Prop:=Xc.c a ⟨216,#[],#[]⟩ b λd e=>c d e
theorem WV.o {a b c}(d:WV.v a b c):WV.c a b c:=Wa Tryz.func159 (x:=WV.h) (R0 d)
def Xz.h:Hn:=.q .o1 (.q .o3 .l)
def Xz.v (a:R2)(b:Hp)(c:Sl->Hp->Prop):Prop:=Xc.c a ⟨218,#[],#[]⟩ b λd e=>c d e
theorem Xz.o {a b c}(d:Xz.v a b c):Xz.c a b c:=Wa Tryz.func164 (x:=Xz.h) (R0 d)
def Xh.h:Hn:=.q .o2 (.q (.q .o3 .aJ) (.q .o4 (.q (.q .o2 .aJ) (.q .o3 .l))))
def Xh.v (a:R2)(b:Int)(c:Hp)(d:Option Addr->Int->Hp->Prop):Prop:=W6.c a c λe f=>If (!e) (d none 5 f) (Y9.c a b f λg h=>If g.isNone (d none 1 h) (d g 0 h))
theorem Xh.o {a b c d}(e:Xh.v a b c d):Xh.c a b c d:=Wa Tryz.func204 (x:=Xh.h) (R0 e)
def WQ.h:Hn:=.q .o1 (.q (.q .o9 .aK) (.q (.o 11) .aM))
def WQ.v (a:R2)(b:Sl)(c:Hp)(d:aN):Prop:=bE a 0 c λf=>bL (((f.len:Nat):Int)+((b.len:Nat):Int)) λg=>If (g>256) (d 6 c) (bE a 0 c λi=>Xd.c i c λj k=>App j 1 8 3 [.I 0] b k λl m=>bT a λn=>aR n 0 (.slice l.a l.len l.cap) m λo=>d 0 o)
theorem WQ.o {a b c d}(e:WQ.v a b c d):WQ.c a b c d:=Wa Tryz.func212 (x:=WQ.h) (R0 e)
def W4.h:Hn:=.q .o1 (.q .o8 (.q (.o 11) (.q (.cS (.tail 13 (RI.ops 13) [.op])) .aL)))
def W4.v (a:R2)(b:Int)(c:Hp)(d:Sl->Hp->Prop):Prop:=bE a 0 c λf=>eY f 1 0 b (f.cap:Nat) λg=>WD.c g c λh i=>bE a 0 i λk=>eY k 1 b (k.len:Nat) (k.cap:Nat) λl=>WD.c l i λm n=>bT a λo=>aR o 0 (.slice m.a m.len m.cap) n λp=>bD a 2 p λr=>bE a 0 p λt=>bT a λu=>aR u 2 (.I (if((t.len:Nat):Int)<r then((t.len:Nat):Int)else r)) p λv=>d h v
theorem W4.o {a b c d}(e:W4.v a b c d):W4.c a b c d:=Wa Tryz.func214 (x:=W4.h) (R0 e)
def Xc.h:Hn:=.q .o1 (.q (.q .o3 .aK) (.q .o1 (.q (.q .o5 (.k (.loop [(5,.one .s)] (.q (.cS (.seq [.it .i64 .p,.op])) (.q (.c .l .l) (.k (.q (.cS (.seq [.it .i64 .p,.op,.op,.op,.op])) (.q (.o 12) (.q .o3 (.c .o7 .l)))))))))) (.q .o2 .aL))))
def Xc.v (a:R2)(b:Fv)(c:Hp)(d:Sl->Hp->Prop):Prop:=W6.c a c λe f=>If (!e) (d ⟨none,0,0⟩ f) (bI a 2 f λh=>mW .i64 .p h f λi j=>YC [.s] (λk=>k ⟨none,0,0⟩ j) λl (m:Sl) n=>mV .i64 .p i n (ZJ.c m ⟨264,#[],#[]⟩ n λo=>d m o) (λp q r=>mT .i64 .p i r λs t=>bE a 0 r λv=>Ix v.a v.len s 3 λw=>aQ w 2 r λx=>VE Tryz.prog b [.pointer t,.I x] [.one .s] r λy z=>If (((y.len:Nat):Int)>0) (aV #[.I s,.slice y.a y.len y.cap] 135 z λaa ab=>App m 2 32 135 [.I 0,.slice none 0 0] ⟨some aa,1,1⟩ ab λac ad=>l ac ad) (l m z)))
theorem Xc.o {a b c d}(e:Xc.v a b c d):Xc.c a b c d:=Wa Tryz.func215 (x:=Xc.h) (R0 e)
def Xm.h:Hn:=.q .o1 (.q .o9 (.jT [] (.q .o6 (.c (.o 12) .l)) (.q .o9 .aL)))
def Xm.v (a:R2)(b:Int)(c:Hp)(d:Sl->Hp->Prop):Prop:=bD a 2 c λf=>bL (f+1) λg=>Nz 2<|bL (g.tdiv 2) λh=>W4.c a h c λi j=>Jn [] (λk=>bE a 0 k λm=>bT a λn=>aR n 2 (.I ((m.len:Nat):Int)) k λo=>d i o) λp=>bD a 1 j λr=>If (r>b) (bD a 1 j λt=>bL (t-b) λu=>bT a λv=>aR v 1 (.I (if b>u then b else u)) j λw=>p w) (p j)
theorem Xm.o {a b c d}(e:Xm.v a b c d):Xm.c a b c d:=Wa Tryz.func216 (x:=Xm.h) (R0 e)
def Ye.h:Hn:=.q .o1 (.q .o8 .l)
def Ye.v (a:R2)(b:Int)(c:Hp)(d:Sl->Hp->Prop):Prop:=bE a 0 c λf=>W4.c a ((f.len:Nat):Int) c λg h=>d g h
theorem Ye.o {a b c d}(e:Ye.v a b c d):Ye.c a b c d:=Wa Tryz.func218 (x:=Ye.h) (R0 e)
def Y9.h:Hn:=.q .o1 (.q (.q (.cS (.seq [.op,.op,.op,.op,.cO false 2 [.op,.op],.op,.cO false 7 (RI.ops 7)])) .aK) (.jT [] (.q .o7 (.c .o8 .l)) (.q .o7 .l)))
def Y9.v (a:R2)(b:Int)(c:Hp)(d:Option Addr->Hp->Prop):Prop:=W6.c a c λe f=>bR (λg h=>bR (λi j=>If i (d none j) (Jn [] (λk=>bI a 2 k λm=>Lk .i64 .p m b k λn=>d (n.getD none) k) λo=>bT a λp=>bB p 2 j λq=>Lk .i64 .p q b j λr=>If ((r.getD none).isNone) (bI a 2 j λt=>aV #[.slice none 0 0,.I 1,.I 0] 171 j λu v=>j2 .i64 .p t b (some u) v λw=>o w) (o j))) λx=>If g (x true h) (bE a 0 h λz=>x (decide (b≥((z.len:Nat):Int))) h)) λaa=>If (!e) (aa true f) (aa (decide (b<0)) f)
theorem Y9.o {a b c d}(e:Y9.v a b c d):Y9.c a b c d:=Wa Tryz.func248 (x:=Y9.h) (R0 e)
end Go.Proofs
namespace Go.Ar
open Go Go.Vc Go.Proofs
theorem cT.sub {U:Hp}{F:Rg}{s:Sl}{sz:Nat}{xs:List Value}(h:cT s sz xs U F){lo hi mx:Nat}(h1:lo<=hi)(h2:hi<=s.len)(h3:hi<=mx) :
 cT ⟨if mx=lo then s.a else s.a.map (·.add (lo*sz)),hi-lo,mx-lo⟩ sz ((xs.drop (lo*sz)).take ((hi-lo)*sz)) U F:=by
 have e:=h.1;have e1:hi*sz<=s.len*sz:=lq _ h2;have e2:(hi-lo)*sz=hi*sz-lo*sz:=Nat.sub_mul _ _ _;have g:lo*sz<=hi*sz:=lq _ h1;refine⟨by rw[zZ,jM];simp only;omega,?_⟩;by_cases hm:mx=lo
 ·left;have:hi-lo=0:=by omega
  rw[this,tz,List.take_zero]
 ·rcases h.2 with h0|⟨b,o,cs,hb,ha,hq,hc⟩
  ·left;subst h0;simp
  ·refine .inr ⟨b,o+lo*sz,cs,hb,?_,hq,λj d=>?_⟩
   ·simp only[zB hm,ha,zc,add_lit]
   ·rw[zZ,jM]at d;rw[uu,hc _ O,zj,kj,zC O]
inductive rD where
 | hd|dB|mp
 | li (k:Nat)
 deriving DecidableEq
structure gp where
 p:Nat
 m:Nat
 dB:Sl
 ps:List (Nat×Nat)
def iI (ps:List (Nat×Nat))(k:Nat):Option Nat:=(ps.find? λx=>x.1==k).map (·.2)
def jz (ps:List (Nat×Nat)):List (Int×Option Addr):=ps.map λx=>((x.1:Int),some ⟨x.2,0,none⟩)
def l9 (s:Sl)(l:Li):List Value:=[.slice s.a s.len s.cap,.int .i64 (l.lim:Int),.int .i64 (l.low:Int)]
def iO (b:Nat)(l:Li):Hp->Rg->Prop:=λU F=>F b/\fD l/\∃s:Sl,bX U b (l9 s l)/\cT s 1 (Wx l.os) U (λq=>F q/\q≠b)/\s.len<=s.cap
def nJ (b:Option Nat)(l:Option Li):Hp->Rg->Prop:=λU F=>match b,l with
 | some b,some l=>iO b l U F
 | none,some l=>l=gS
 | _,none=>True
def Ak (Y:gp)(bud:Nat):List Value:=[.slice Y.dB.a Y.dB.len Y.dB.cap,.int .i64 (bud:Int),.map (some Y.m)]
def CC (tb:List bZ)(bud:Nat)(ls:List Li)(Y:gp):rD->Hp->Rg->Prop
 | .hd=>ib Y.p (Ak Y bud)
 | .dB=>cT Y.dB 3 (fT tb)
 | .mp=>jk Y.m .i64 .p (jz Y.ps)
 | .li k=>nJ (iI Y.ps k) ls[k]?
theorem iO.loc (b:Nat)(l:Li):dK (iO b l):=by
 rintro U y F G ⟨w,u,s,j,m,r⟩ x a;have g:=a b j.lt w;obtain⟨e,p⟩:=j;exact⟨g.1,u,s,⟨e,g.2.trans p⟩,cT.loc _ _ _ _ _ _ _ m x λq i d=>⟨⟨(a q i d.1).1,d.2⟩,(a q i d.1).2⟩,r⟩
theorem nJ.loc (b:Option Nat)(l:Option Li):dK (nJ b l):=by
 intro U σ' F G h hz hs;unfold nJ at *;split at h
 ·exact iO.loc _ _ _ _ _ _ h hz hs
 ·exact h
 ·trivial
theorem CC.loc {tb:List bZ}{bud:Nat}{ls:List Li}{Y:gp}:∀i,dK (CC tb bud ls Y i)
 | .hd=>ib.loc _ _
 | .dB=>cT.loc _ _ _
 | .mp=>jk.loc _ _ _ _
 | .li k=>nJ.loc _ _
structure dX (U:Hp) (F:Rg) (Y:gp) (tb:List bZ) (bud:Nat) (ls:List Li):Prop where
 mA:tb.length<=40
 ok:∀c∈tb,c.ok
 len:ls.length=tb.length
 keys:∀x∈Y.ps,x.1<tb.length
 sep:Sep (CC tb bud ls Y) U F
variable {U:Hp}{F G:Rg}{Y:gp}{tb:List bZ}{bud:Nat}{ls:List Li}{b k:Nat}{l:Li}
theorem dX.loc:dK λU F=>dX U F Y tb bud ls:=λU d F G h a b=>⟨h.mA,h.ok,h.len,h.keys,Sep.loc CC.loc _ _ _ _ h.sep a b⟩
theorem dX.bO {σ':Hp}(h:dX U F Y tb bud ls)(e:bK U σ'):dX σ' F Y tb bud ls:=dK.bO dX.loc h e
theorem dX.hd (h:dX U F Y tb bud ls):bX U Y.p (Ak Y bud):=by
 obtain⟨G,b,a⟩:=h.sep.get .hd;exact a.2
theorem dX.ji (h:dX U F Y tb bud ls):cT Y.dB 3 (fT tb) U F:=by
 obtain⟨G,d,a⟩:=h.sep.get .dB;exact aH.mono a λb _ a=>d b a
theorem dX.nN (h:dX U F Y tb bud ls):Y.dB.len=tb.length:=by
 have:=h.ji.1;rw[Vk]at this;omega
theorem dX.map (h:dX U F Y tb bud ls):dI U Y.m .i64 .p (jz Y.ps):=by
 obtain⟨G,b,a⟩:=h.sep.get .mp;exact a.2
theorem yH (ps:List (Nat×Nat))(k:Nat):bY (α:=Option Addr) (jz ps) (k:Int)=(iI ps k).map λb=>some ⟨b,0,none⟩:=by
 induction ps with
 | nil=>rfl
 | cons x l ih=>
  simp only[bY,jz,iI,zU,sE]at *;have e:(((x.1:Nat):Int)==(k:Int))=(x.1==k):=k5 _ _;rw[e];cases x.1==k
  ·exact ih
  ·rfl
theorem Ed {ps:List (Nat×Nat)}(h:iI ps k=none):∀x∈ps,x.1≠k:=by
 unfold iI at h;simp only[sS,oM,zV]at h;exact h
theorem Mo {ps:List (Nat×Nat)}(h:iI ps k=none)(b:Nat):dG (α:=Option Addr) (jz ps) (k:Int) (some ⟨b,0,none⟩)=jz (ps++[(k,b)]):=by
 unfold dG;rw[zB]
 ·simp[jz]
 ·simp only[jz,List.any_map,jU,Function.comp,zV,not_exists,not_and];intro x hx e;exact Ed h x hx O
theorem V3 {ps:List (Nat×Nat)}(h:iI ps k=none)(b j:Nat):iI (ps++[(k,b)]) j=if j=k then some b else iI ps j:=by
 have a:=Ed h;unfold iI at *;rw[List.find?_append];by_cases hj:j=k
 ·subst hj;have:ps.find? (λx=>x.1==j)=none:=by simpa using h
  rw[this];simp
 ·rw[zB hj];cases hf:ps.find? (λx=>x.1==j)with
  | none=>
   have:(k==j)=false:=by simpa using λe=>hj e.symm
   simp[this]
  | some x=>simp
theorem BI {ps:List (Nat×Nat)}(hn:((jz ps).map (·.1)).Nodup)(h:(k,b)∈ps):iI ps k=some b:=by
 induction ps with
 | nil=>simp at h
 | cons x l ih=>
  simp only[jz,zU,zt]at hn;unfold iI;rw[sE];rcases zX.1 h with rfl|h
  ·simp
  ·have:(x.1==k)=false:=by
    have:x.1≠k:=λe=>hn.1 (zF.2 ⟨(((k:Nat):Int),some ⟨b,0,none⟩),zF.2 ⟨(k,b),h,rfl⟩,by rw[e]⟩);simpa using this
   rw[this];exact ih hn.2 h
theorem Uu (h:dX U F Y tb bud ls){R:aO}(hR:R true U):W6.c (aW Y.p) U R:=by
 refine W6.o ?_;unfold W6.v;exact bR.intro (cB rfl (aG (h.hd.rM rfl hR)))
theorem dX.tU (h:dX U F Y tb bud ls)(hb:iI Y.ps k=some b)(hl:ls[k]?=some l):∃G:Rg,(∀q,G q->F q)/\iO b l U G/\¬G Y.m ∧
 ∀(σ':Hp) (l':Li) (G':Rg),Ext G U σ'->(∀q,G' q->Grow G U q)->iO b l' σ' G'->Ext F U σ'/\dX σ' (λq=>F q/\q<U.size/\¬G q\/G' q) Y tb bud (ls.set k l'):=by
 have p:=(cX.1 hl).1;obtain⟨G,s,g,d,a⟩:=h.sep.jA CC.loc (.li k);have g:iO b l U G:=by
  simp only[CC,nJ,hb,hl]at g;exact g
 have r:¬G Y.m:=by
  obtain⟨H,_,hd,i⟩:=d .mp (by intro e;cases e);exact hd _ i.1
 refine⟨G,s,g,r,λσ' l' G' e u x=>⟨e.sub s,h.mA,h.ok,by rw[nk];exact h.len,h.keys,?_⟩⟩;refine a σ' (CC tb bud (ls.set k l') Y) G' (λj w=>?_) e u ?_ (CC.loc _)
 ·cases j<;>try rfl
  rename_i m;have r:m≠k:=λe=>w (by rw[e]);simp only[CC,ze (Ne.symm r)]
 ·simp only[CC,nJ,hb,zJ p];exact x
theorem dX.mono (h:dX U F Y tb bud ls)(hs:∀q,q<U.size->F q->G q):dX U G Y tb bud ls:=dK.mono dX.loc h hs
theorem dX.cut (h:dX U F Y tb bud ls):dX U (Cut F U) Y tb bud ls:=dK.cut dX.loc h
theorem dX.fH {v:Hp}(h:dX v (Grow F U) Y tb bud ls)(e0:Ext F U v)(hb:iI Y.ps k=some b)(hl:ls[k]?=some l):∃G:Rg,iO b l v G ∧
 ∀(σ':Hp) (l':Li) (G':Rg),Ext G v σ'->(∀q,G' q->Grow G v q)->iO b l' σ' G'->Ext F U σ'/\dX σ' (Grow F U) Y tb bud (ls.set k l'):=by
 obtain⟨G,j,p,_,a⟩:=h.tU hb hl;refine⟨G,p,λσ' l' G' e i g=>?_⟩;obtain⟨e1,m⟩:=a σ' l' G' e i g;refine⟨e0.jh e1,m.mono λq _ d=>?_⟩;have:=e0.1;rcases d with d|d
 ·exact d.1
 ·rcases i q d with h2|h2
  ·exact j q h2
  ·exact .inr O
theorem F8 (h:dX U F Y tb bud ls)(hk:k<tb.length){R:Option Addr->Hp->Prop}(hR:∀σ' Y' b,Ext F U σ'->Y'.p=Y.p->iI Y'.ps k=some b->dX σ' (Grow F U) Y' tb bud ls->R (some ⟨b,0,none⟩) σ') :
 Y9.c (aW Y.p) (k:Int) U R:=by
 refine Y9.o ?_;unfold Y9.v;have y:k<ls.length:=by rw[h.len];exact hk
 have D:ls[k]?=some ls[k]:=cW y;generalize ls[k]=l at D;have N:=h.nN;refine Uu h (bR.intro (cE rfl ?_));refine bR.intro (fM O (aG (h.hd.rS rfl ?_)));refine fM aC ?_;refine Jn.intro (aG (h.hd.rM rfl ⟨_,h.map,?_⟩));rw[yH];cases hf:iI Y.ps k with
 | some b=>
  refine cE rfl (aG (h.hd.rM rfl ⟨_,h.map,?_⟩));rw[yH,hf];exact hR U Y b (Ext.refl _ _) rfl hf (h.mono λq _ a=>.inl a)
 | none=>
  refine cB rfl (aG (h.hd.rM rfl (nw (cs:=[.slice none 0 0,.int .i64 1,.int .i64 0]) λv S e A=>?_)));obtain⟨G,H,u,Q,hd,g,w,r⟩:=h.cut.sep.nm CC.loc .mp (.li k) (by intro e;cases e);have M:∀q,G q->F q:=λq a=>(u q a).1;have g:jk Y.m .i64 .p (jz Y.ps) U G:=g;have w:l=gS:=by
   simp only[CC,nJ,hf,D]at w;exact w
  have K:=g.2.lt;have E:dI v Y.m .i64 .p (jz Y.ps):=e.fK g.2 id;refine⟨Y.m,_,rfl,E,λv2 z s=>?_⟩;rw[Mo hf]at s;have e2:Ext F U v2:=(bK.to e).only z (.inl (M _ g.1));have C:Ext (λq=>G q\/H q) U v2:=(bK.to e).only z (.inl (.inl g.1));have B:bX v2 U.size [.slice none 0 0,.int .i64 1,.int .i64 0]:=Wr z A O;have d:dX v2 (Grow F U) {Y with ps:=Y.ps++[(k,U.size)]} tb bud ls:=by
   refine⟨h.mA,h.ok,h.len,λx i=>?_,?_⟩
   ·rcases zL.1 i with i|i
    ·exact h.keys x i
    ·simp only[zR]at i;subst i;exact hk
   refine(Sep.loc CC.loc).mono (r v2 (CC tb bud ls {Y with ps:=Y.ps++[(k,U.size)]}) G (· = U.size) (λj J L=>?_) C (λq a=>.inl (.inl a)) (λq a=>.inr O) (λq J L=>?_) ⟨g.1,s⟩ ?_ CC.loc) λq _ a=>?_
   ·cases j<;>first|rfl|exact absurd rfl J|skip
    rename_i m;have P:m≠k:=λe=>L (by rw[e]);simp only[CC,V3 hf,zB P]
   ·have:=(u q J).2;omega
   ·simp only[CC,V3 hf,zP,D,w,nJ];exact⟨rfl,fD.nil,⟨none,0,0⟩,B,cT.nil _ _ _ _,zD _⟩
   ·rcases a with a|a|a
    ·exact .inl a.1.1
    ·exact .inl (M q a)
    ·exact .inr O
  refine aG (d.hd.rM rfl ⟨_,d.map,?_⟩);rw[yH,V3 hf,zC rfl];exact hR v2 {Y with ps:=Y.ps++[(k,U.size)]} U.size e2 rfl (by show iI (Y.ps++[(k,U.size)]) k=_;rw[V3 hf,zC rfl]) d
theorem HU (h:dX U F Y tb bud ls)(hk:k<tb.length){R:Option Addr->Int->Hp->Prop}(hR:∀σ' Y' b,Ext F U σ'->Y'.p=Y.p->iI Y'.ps k=some b->dX σ' (Grow F U) Y' tb bud ls->R (some ⟨b,0,none⟩) 0 σ') :
 Xh.c (aW Y.p) (k:Int) U R:=by
 refine Xh.o ?_;unfold Xh.v;exact Uu h (cE rfl (F8 h hk λσ' Y' b e g a d=>cE rfl (hR σ' Y' b e g a d)))
theorem bW.pD {s:Sl}{sz:Nat}{xs:List Value}(h:bW s sz xs U F):s.len<=s.cap:=by
 rcases h.2 with⟨q1,q2⟩|⟨_,_,_,_,_,q,_⟩
 ·omega
 ·exact q
theorem Ha (h:iO b l U G){m:Nat}(hm:m<=l.os.length){R:Sl->Hp->Prop}
 (hR:∀s z σ',Ext (· = b) U σ'->U.size<=z->bW s 1 (Wx (l.os.take m)) σ' (λq=>U.size<=q/\q<z)->iO b (fU m l).2 σ' (λq=>q=b\/z<=q)->R s σ') :
 W4.c (aW b) (m:Int) U R:=by
 refine W4.o ?_;unfold W4.v;obtain⟨X,e,s,C,y,W⟩:=h;have M:s.len=l.os.length:=by have:=y.1;simp[Wx]at this;omega
 have F:=e.many;have L:=e.low;have r:=cT.sub y (lo:=0) (hi:=m) (mx:=s.cap) O O O;have e1:((Wx l.os).drop (0*1)).take ((m-0)*1)=Wx (l.os.take m):=by simp[Wx]
 rw[e1]at r;refine aG (C.rS rfl (jf (lo:=0) O aC aC (UH r Ve aC λs1 K Q x B=>?_)));have j:=x.bU C id;have E:=aH.bO y x;have p:=cT.sub E (lo:=m) (hi:=s.len) (mx:=s.cap) O O O;have e2:((Wx l.os).drop (m*1)).take ((s.len-m)*1)=Wx (l.os.drop m):=by
  rw[mi (by simp[Wx];omega)];simp[Wx]
 rw[e2]at p;refine aG (j.rS rfl (jf aC aC aC (UH p Ve aC λs2 P H A i=>?_)));have D:=A.bU j id;refine aG (D.s1 (by simp[l9]) λv3 o3 a=>aG (a.rI rfl (aG (a.rS rfl (aG (a.s1 (by simp[l9]) λv4 o4 g=>?_))))));have d:Ext (· = b) P v4:=o3.ext.trans o4.ext;have V:=C.lt;have J:=x.1;have u:s2.len=l.os.length-m:=by rw[H];simp only;omega
 refine hR s1 K.size v4 ((bK.to (x.trans A)).trans d) J ?_ ⟨.inl rfl,vo e,s2,?_,?_,bW.pD i⟩
 ·refine aI.bS (aI.bO (aI.mono B (G:=λq=>U.size<=q/\q<K.size) λq w N=>⟨N,w⟩) A) d λq _ w S=>by omega
 ·have:(if((s2.len:Nat):Int)<(l.low:Int)then((s2.len:Nat):Int)else(l.low:Int))=((min l.low (l.os.length-m):Nat):Int):=by rw[u];split<;>omega
  rw[this]at g;exact g
 ·refine aH.mono (aH.bS i.ig d λq _ w S=>O) λq _ w=>⟨.inr w,O⟩
theorem J8 (h:iO b l U G){sl:Sl}{xs:List Int}{X:Rg}(hs:cT sl 1 (Wx xs) U X)(hx:xs≠[])(hfit:l.os.length+xs.length<=256){R:aN}
 (hR:∀σ',Ext (· = b) U σ'->iO b (dY xs l) σ' (λq=>q=b\/U.size<=q)->R 0 σ'):WQ.c (aW b) sl U R:=by
 refine WQ.o ?_;unfold WQ.v;obtain⟨J,w,s,g,d,H⟩:=h;have A:s.len=l.os.length:=by have:=d.1;simp[Wx]at this;omega
 have E:sl.len=xs.length:=by have:=hs.1;simp[Wx]at this;omega
 have y:=pn.2 hx;have x:dY xs l = {l with os:=l.os++xs}:=by unfold dY;rw[zB O]
 refine aG (g.rS rfl (cQ (m:=l.os.length+xs.length) aC O (fM O (aG (g.rS rfl ?_)))));refine Xd.o ?_;unfold Xd.v;refine jf (lo:=0) aC aC aC ?_;have F:=g.lt;refine⟨Wx l.os,Wx xs,by simp[Wx];omega,by simp[Wx];omega,?_,hs.rd,Ve,?_,by simp only;omega,λp=>by simp only at p;omega,λz c i=>?_⟩
 ·by_cases h0:s.len=0
  ·have:l.os=[]:=List.length_eq_zero_iff.1 O;rw[this];simp only[h0,zP];cases s.a<;>simp[Rd,Wx]
  ·simp only[zB h0,tz];have:=d.rd;cases ha:s.a with
   | none=>rw[ha]at this;simpa[Rd]using this
   | some a=>rw[ha]at this;simpa[Rd,Addr.add_zero']using this
 ·simp only;have:(s.len-0+sl.len)*8<=256*8:=lp O O;omega
 ·refine nw λv K e r=>aG ((e.bU g id).s1 (by simp[l9]) λD o2 u=>?_);have B:l.os.length+xs.length<=c:=by simp only at i;omega
  refine hR D ((bK.to e).trans o2.ext) ?_;rw[x];have:=wy (xs:=xs) w;rw[x]at this;refine⟨.inl rfl,this,⟨some ⟨U.size,0,none⟩,s.len-0+sl.len,c⟩,u,⟨by simp[Wx];omega,.inr ⟨U.size,0,_,⟨.inr (zD _),O⟩,rfl,(Wr o2 r O).q,λj C=>?_⟩⟩,by simp only;omega⟩;simp only[Wx,zl,zQ]at C;rw[zH,jW,←jW,zg (by simp[Wx];omega)];simp[Wx]
theorem Ip (h:iO b l U G){sl:Sl}{xs:List Int}{X:Rg}(hs:cT sl 1 (Wx xs) U X)(hfit:¬l.os.length+xs.length<=256)(hxs:xs.length<=1000000){R:aN}
 (hR:R 6 U):WQ.c (aW b) sl U R:=by
 refine WQ.o ?_;unfold WQ.v;obtain⟨p,a,s,g,d,j⟩:=h;have i:s.len=l.os.length:=by have:=d.1;simp[Wx]at this;omega
 have e:sl.len=xs.length:=by have:=hs.1;simp[Wx]at this;omega
 have:=a.many;exact aG (g.rS rfl (cQ (m:=l.os.length+xs.length) aC O (kW O hR)))
end Go.Ar
namespace Go.Ar
open Go Go.Vc Go.Proofs
variable {U:Hp}{F G:Rg}{Y:gp}{tb:List bZ}{bud:Nat}{ls:List Li}{b k:Nat}{l:Li}{c:bZ}
theorem dX.cls (h:dX U F Y tb bud ls)(hc:tb[k]?=some c):c.ok/\k<tb.length:=⟨h.ok c (zG hc),(cX.1 hc).1⟩
theorem iO.st {v:Hp}(h:iO b l U G){s:Sl}{l':Li}(ho:Ext (· = b) U v)(hb:bX v b (l9 s l'))(hs:cT s 1 (Wx l'.os) U (λq=>G q/\q≠b))(hc:s.len<=s.cap)(ok:fD l'):iO b l' v G:=
 ⟨h.1,ok,s,hb,aH.bS hs ho λq _ a d=>a.2 d,hc⟩
theorem kE (h:dX U F Y tb bud ls)(hc:tb[k]?=some c)(hl:ls[k]?=some l){R:Int->Int->Hp->Prop}
 (hR:∀σ' Y',Ext F U σ'->Y'.p=Y.p->dX σ' (Grow F U) Y' tb bud (ls.set k (QP c l).2)->R ((QP c l).1.getD 0) (if(QP c l).1.isSome then 0 else 4) σ'):XW.c (aW Y.p) (k:Int) U R:=by
 obtain⟨u,hk⟩:=h.cls hc;refine XW.o ?_;unfold XW.v;refine HU h hk λv Y' b e hp hb S=>cE rfl ?_;obtain⟨G,hL,K⟩:=S.fH e hb hl;have A:=hL;obtain⟨P,i,s,g,L,r⟩:=hL;have H:=S.hd;rw[hp]at H;have V:s.len=l.os.length:=by have:=L.1;simp[Wx]at this;omega
 have o1:=i.low;have o2:=i.many;have o3:=i.lim;have o4:=i.mu;have a:=D9 u i;have fin:∀v' G',Ext G v v'->(∀q,G' q->Grow G v q)->iO b (QP c l).2 v' G'->R ((QP c l).1.getD 0) (if(QP c l).1.isSome then 0 else 4) v':=λv' G' N hg W=>by
  obtain⟨e2,h2⟩:=K v' _ G' N hg W;exact hR v' Y' e2 hp h2
 unfold bZ.ok at u;have y:∀{v':Hp},Ext (· = b) v v'->Ext G v v':=λN=>N.sub λq z=>by rw[z];exact P
 refine aG (g.rS rfl ?_);by_cases h0:l.os=[]
 ·have e1:(QP c l).1=none:=by unfold QP;rw[h0];rfl
  have e2:(QP c l).2=if l.lim<c.batch then{l with lim:=l.lim+1}else{l with lim:=min (l.lim+c.batch) 128}:=by unfold QP;rw[h0];rfl
  rw[e1,e2]at fin;rw[e2]at a;refine cB (by simp[V,h0]) (aG (H.rS rfl (GM S.ji hc (d:=2) O ?_)));simp only[zB (show ¬(2=0) by omega),zB (show ¬(2=1) by omega)];refine aG (g.rI rfl (cR (λc1=>?_) λc1=>?_))
  ·have B:l.lim<c.batch:=by omega
   rw[zC B]at fin a;refine aG (g.rI rfl (cQ (m:=l.lim+1) O O (aG (g.s1 (by simp[l9]) λv' E j=>?_))));exact fin v' G (y E.ext) (λq z=>.inl z) (A.st E.ext j L r a)
  ·have B:¬l.lim<c.batch:=by omega
   rw[zB B]at fin a;refine aG (g.rI rfl (cQ (m:=l.lim+c.batch) O O (aG (g.s1 (by simp[l9]) λv' E j=>?_))));refine fin v' G (y E.ext) (λq z=>.inl z) (A.st E.ext ?_ L r a);have:(if(128:Int)<((l.lim+c.batch:Nat):Int)then(128:Int)else((l.lim+c.batch:Nat):Int))=((min (l.lim+c.batch) 128:Nat):Int):=by split<;>omega
   rw[this]at j;exact j
 ·have hpos:=pn.2 h0;obtain⟨x,Z⟩:∃x,l.os[l.os.length-1]?=some x:=⟨_,cW O⟩;have J:l.os.getLast?=some x:=by rw[List.getLast?_eq_getElem?];exact Z
  have e1:(QP c l).1=some x:=by unfold QP;rw[J]
  have e2:(QP c l).2 = {l with os:=l.os.dropLast,low:=min l.low (l.os.length-1)}:=by unfold QP;rw[J]
  rw[e1,e2]at fin;rw[e2]at a;refine cE (by simp only[lM];omega) ?_;refine aG (g.rS rfl (cQ (m:=l.os.length-1) aC O (aG (g.rS rfl (L.od Z (aG (g.rS rfl ?_)))))));have w:=cT.sub L (lo:=0) (hi:=l.os.length-1) (mx:=s.cap) O O O;have ed:((Wx l.os).drop (0*1)).take ((l.os.length-1-0)*1)=Wx l.os.dropLast:=by simp[Wx,wT]
  rw[ed]at w;refine jf (lo:=0) O aC aC (aG (g.s1 (by simp[l9]) λv1 Q C=>aG (C.rI rfl (aG (C.s1 (by simp[l9]) λv2 X D=>?_)))));have M:=Q.ext.trans X.ext;refine fin v2 G (y M) (λq z=>.inl z) (A.st M ?_ w aC a);have:(if((l.os.length-1:Nat):Int)<(l.low:Int)then((l.os.length-1:Nat):Int)else(l.low:Int))=((min l.low (l.os.length-1):Nat):Int):=by split<;>omega
  rw[this]at D;exact D
theorem Ly (h:dX U F Y tb bud ls)(hc:tb[k]?=some c)(hl:ls[k]?=some l){R:Int->Int->Hp->Prop}
 (hR:∀σ' Y',Ext F U σ'->Y'.p=Y.p->dX σ' (Grow F U) Y' tb bud ls->R ((GN c l:Nat):Int) 0 σ'):XM.c (aW Y.p) (k:Int) U R:=by
 obtain⟨u,w⟩:=h.cls hc;refine XM.o ?_;unfold XM.v;refine HU h w λv Y' b e m z g=>cE rfl ?_;obtain⟨G,A,j⟩:=g.fH e z hl;obtain⟨x,y,s,i,B,r⟩:=A;have a:=g.hd;rw[m]at a;refine aG (i.rI rfl (aG (a.rS rfl (GM g.ji hc (d:=2) O ?_))));simp only[zB (show ¬(2=0) by omega),zB (show ¬(2=1) by omega)];have:(if(c.batch:Int)<(l.lim:Int)then(c.batch:Int)else(l.lim:Int))=((GN c l:Nat):Int):=by unfold GN;split<;>omega
 rw[this];exact hR v Y' e m g
theorem I7 (l:List Int)(i:Nat)(h:i<l.length):l.reverse[i]?=l[l.length-1-i]? := by
 rw[List.getElem?_reverse h]
theorem FA {s:Sl}{xs:List Int}(h:bW s 1 (Wx xs) U F)(hlen:xs.length<=1000000){R:aP}(hR:∀σ',Ext F U σ'->bW s 1 (Wx xs.reverse) σ' F->R σ'):WP.c s U R:=by
 refine WP.o ?_;unfold WP.v;have K:s.len=xs.length:=by have:=h.1;simp[Wx]at this;omega
 let iS (i:Nat):List Int:=(List.range xs.length).map λj=>if j<i\/xs.length-i<=j then xs.getD (xs.length-1-j) 0 else xs.getD j 0
 have kD:∀i,(iS i).length=xs.length:=λi=>by simp[iS]
 have bY:∀i j,j<xs.length->(iS i)[j]?=some (if j<i\/xs.length-i<=j then xs.getD (xs.length-1-j) 0 else xs.getD j 0):=λi j e=>by simp[iS,e]
 have Q:iS 0=xs:=by
  apply zm;intro j;by_cases e:j<xs.length
  ·rw[bY 0 j e,zB O];simp[zN,cW e]
  ·rw[zT (by rw[kD];omega),zT O]
 have z:∀i,xs.length<=2*i+1->i<=xs.length->iS i=xs.reverse:=by
  intro i J E;apply zm;intro j;by_cases e:j<xs.length
  ·rw[bY i j e,I7 xs j e,zN,zN,cW (show xs.length-1-j<xs.length by omega),cW e];split
   ·rfl
   ·have:xs.length-1-j=j:=by omega
    simp only[this];rfl
  ·rw[zT (by rw[kD];omega),zT aE]
 have step:∀i,2*i+1<xs.length->((iS i).set i (xs.getD (xs.length-1-i) 0)).set (xs.length-1-i) (xs.getD i 0)=iS (i+1):=by
  intro i hi;apply zm;intro j;by_cases e:j<xs.length
  ·rw[bY (i+1) j e,mH,mH];simp only[nk,kD];by_cases e1:xs.length-1-i=j
   ·subst e1;rw[zC rfl,zC O,zC O]
    congr 2;omega
   ·rw[zB e1];by_cases e2:i=j
    ·subst e2;rw[zC rfl,zC O,zC O]
    ·rw[zB e2,bY i j e];by_cases e3:j<i\/xs.length-i<=j
     ·rw[zC e3,zC O]
     ·rw[zB e3,zB O]
  ·rw[zT (by simp[kD];omega),zT (by rw[kD];omega)]
 refine xT ?_;rw[V8 O O];refine HD (a:=bN) (bb:=bN) (λ(i j:Int) v=>∃n:Nat,i=(n:Int)/\j=(xs.length:Int)-1-n/\n<=xs.length/\Ext F U v/\bW s 1 (Wx (iS n)) v F) (λi _ _=>xs.length-i.toNat) ⟨0,rfl,O,O,Ext.refl _ _,by rw[Q];exact h⟩ ?_;rintro i j v ⟨n,rfl,rfl,S,ev,r⟩;refine cR (λL=>?_) λP=>?_
 ·have w:2*n+1<xs.length:=by omega
  have C:(xs.length:Int)-1-n=((xs.length-1-n:Nat):Int):=by omega
  rw[C];have B:=bY n (xs.length-1-n) O;have D:=bY n n O;rw[zB O]at B D;rw[zN]at B D;obtain⟨b,p⟩:∃b,s.a=some ⟨b,0,none⟩:=by
   rcases r.2 with⟨q1,q2⟩|⟨b,cs,_,A,_⟩
   ·omega
   ·exact⟨b,A⟩
  have d:∀u,bW s 1 (Wx (iS n)) u F->∀(j:Nat) (x:Int),(iS n)[j]?=some x->cell u (Addr.add ⟨b,0,none⟩ ((j:Int).toNat*1))=some (.int .i64 x):=λu y j x N=>by
   obtain⟨G,o,A,M⟩:=y.ig.cell (j:=j) (v:=.int .i64 x) (by simp[Wx,N]);rw[p]at A;cases A;rw[add_lit,show 0+(j:Int).toNat*1=0+j by omega];exact M
  rw[p];refine⟨λu=>bW s 1 (Wx (iS n)) u F,r,?_⟩;refine ix O O ⟨_,λu y=>d u y _ _ B,?_⟩;refine ix O O ⟨_,λu y=>d u y _ _ D,?_⟩;refine ix O O ?_;refine r.st (j:=n) (by simp[Wx,kD];omega) (λG g=>by rw[p]at g;cases g;rw[add_lit];simp) λV e1 J=>?_;refine ix O O ?_;refine J.st (j:=xs.length-1-n) (by simp[Wx,kD];omega) (λG g=>by rw[p]at g;cases g;rw[add_lit];simp) λW e2 E=>?_;refine cQ (m:=n+1) O O (cQ (m:=xs.length-1-n-1) O O ⟨⟨n+1,rfl,O,O,(ev.trans e1).trans e2,?_⟩,O⟩);rw[←step n w,zN,zN];have H:∀(l:List Int) (i:Nat) (x:Int),Wx (l.set i x)=(Wx l).set i (.int .i64 x):=λl i x=>by simp[Wx,uh]
  rw[H,H];exact E
 ·rw[z n O O]at r;exact hR v ev r
theorem Fz (h:iO b l U G){sl:Sl}(hz:sl.len=0){R:aN}(hR:∀σ',Ext (· = b) U σ'->iO b l σ' G->R 0 σ'):WQ.c (aW b) sl U R:=by
 refine WQ.o ?_;unfold WQ.v;have C:=h;obtain⟨E,g,s,w,j,D⟩:=h;have p:s.len=l.os.length:=by have:=j.1;simp[Wx]at this;omega
 have z:=g.many;refine aG (w.rS rfl (cQ (m:=l.os.length) aC O (fM O (aG (w.rS rfl ?_)))));refine Xd.o ?_;unfold Xd.v;refine jf (lo:=0) aC aC aC ?_;have d:=cT.sub j (lo:=0) (hi:=s.len) (mx:=s.len) O O O;have B:((Wx l.os).drop (0*1)).take ((s.len-0)*1)=Wx l.os:=by rw[p,mi (by simp[Wx])];simp
 rw[B]at d;have key:∀(e:Sl),cT e 1 (Wx l.os) U (λq=>G q/\q≠b)->e.len<=e.cap->bT (some ⟨b,0,none⟩) λr=>eP (r.add 0) (.slice e.a e.len e.cap) U λv2=>R 0 v2:=λe y u=>by
  refine aG (w.s1 (by simp[l9]) λv2 o2 x=>hR v2 o2.ext ?_);exact C.st (l':=l) (s:=e) o2.ext x y u g
 refine⟨Wx l.os,[],by simp[Wx];omega,by simp[hz],d.rd,by cases sl.a<;>simp[Rd],by simp,?_,by simp only;omega,λA=>?_,λi=>absurd (by simp only[hz];omega) i⟩
 ·simp only[hz];have:(s.len-0+0)*8<=256*8:=lp O O;omega
 ·simp only[hz,zz];cases ha:(if s.len=0 then s.a else s.a.map (·.add (0*1)))
  ·rw[ha]at d;exact key ⟨none,s.len-0,s.len-0⟩ d (zD _)
  ·rw[ha]at d;exact key ⟨some _,s.len-0,s.len-0⟩ d (zD _)
theorem By (h:iO b l U G){sl:Sl}{xs:List Int}{X:Rg}(hs:cT sl 1 (Wx xs) U X)(hfit:l.os.length+xs.length<=256){R:aN}
 (hR:∀σ',Ext (· = b) U σ'->iO b (dY xs l) σ' (Grow G U)->R 0 σ'):WQ.c (aW b) sl U R:=by
 by_cases hx:xs=[]
 ·subst hx;have g:dY [] l=l:=by unfold dY;rw[zB (by simp only[kI]at hfit ⊢;omega)];simp
  refine Fz h (by have:=hs.1;simp[Wx]at this;omega) λσ' e d=>hR σ' e ?_;rw[g];exact(iO.loc _ _).mono d λq _ a=>.inl a
 ·exact J8 h hs hx hfit λσ' e d=>hR σ' e ((iO.loc _ _).mono d λq _ a=>a.imp (λe=>by rw[e];exact h.1) id)
theorem My (h:dX U F Y tb bud ls)(hc:tb[k]?=some c)(hl:ls[k]?=some l){sl:Sl}{xs:List Int}{X:Rg}(hs:cT sl 1 (Wx xs) U X)(hX:∀q,X q->¬F q)(hfit:l.os.length+xs.length<=256){R:aN}
 (hR:∀σ' Y',Ext F U σ'->Y'.p=Y.p->dX σ' (Grow F U) Y' tb bud (ls.set k (dY xs.reverse l))->R 0 σ'):XO.c (aW Y.p) (k:Int) sl U R:=by
 obtain⟨s,w⟩:=h.cls hc;have A:sl.len=xs.length:=by have:=hs.1;simp[Wx]at this;omega
 refine XO.o ?_;unfold XO.v;refine HU h w λv Y' b e y D z=>cE rfl ?_;have r:=aH.bS hs e λq _ a=>hX q a;refine UH r Ve O λs1 H x e1 m=>?_;refine FA m O λv2 e2 j=>?_;have g:bK v v2:=Ext.fresh e1 e2 λq a=>a;obtain⟨G,u,d⟩:=(z.bO g).fH (e.trans (bK.to g)) D hl;refine By u j.ig aE λv3 B i=>?_;obtain⟨C,E⟩:=d v3 _ _ (B.sub λq a=>a▸u.1) (λq a=>a) i;exact hR v3 Y' C y E
theorem Z1 {α:Type}{ls:List α}{k:Nat}{l:α}(h:ls[k]?=some l):ls.set k l=ls:=by
 apply zm;intro j;by_cases hj:j=k
 ·subst hj;rw[zJ (cX.1 h).1,h]
 ·rw[ze (Ne.symm hj)]
theorem LZ (h:dX U F Y tb bud ls)(hc:tb[k]?=some c)(hl:ls[k]?=some l)(x:Int){R:Sl->Int->Hp->Prop}
 (hR:∀σ' Y' s e (Q:Rg),Ext F U σ'->Y'.p=Y.p->(l.os.length+1<=256->e=0)->(∀q,Q q->U.size<=q)->bW s 1 (Wx (dH c x l).1) σ' Q->dX σ' (λq=>Grow F U q/\¬Q q) Y' tb bud (ls.set k (dH c x l).2)->R s e σ'):Yo.c (aW Y.p) (k:Int) x U R:=by
 obtain⟨K,hk⟩:=h.cls hc;refine Yo.o ?_;unfold Yo.v;refine HU h hk λv Y' b e hp hb h'=>cE rfl ?_;have hσv:=e.1;obtain⟨G,hG,hL,_,V⟩:=h'.tU hb hl;have hblt:b<v.size:=by obtain⟨_,_,s,hbk,_⟩:=hL;exact hbk.lt
 have u:=hL.1;have ab:=hL.2.1;have hmany:=ab.many;have r:∀(σ':Hp) (l':Li) (G':Rg),Ext G v σ'->(∀q,G' q->Grow G v q)->iO b l' σ' G'->Ext F U σ'/\dX σ' (λq=>Grow F U q/\q<v.size/\¬G q\/G' q) Y' tb bud (ls.set k l'):=λσ' l' G' e' hg hL'=>by
  obtain⟨e1,h1⟩:=V σ' l' G' e' hg hL';exact⟨e.jh e1,h1⟩
 have hin:∀{G':Rg} {q:Nat},(∀q,G' q->Grow G v q)->(Grow F U q/\q<v.size/\¬G q\/G' q)->Grow F U q:=λhg a=>by
  rcases a with a|a
  ·exact a.1
  ·rcases hg _ a with H|H
   ·exact hG _ H
   ·exact .inr O
 refine nw (cs:=[.int .i64 x]) λv1 hz1 e1 hb1=>?_;have P:=(iO.loc _ _).bO hL e1;have X:cT ⟨some ⟨v.size,0,none⟩,1,1⟩ 1 (Wx [x]) v1 (· = v.size):=hb1.ig (o:=0) rfl (by simp[Wx]) (λj hj=>by
  simp only[Wx,zU,sG,zW,kI]at hj ⊢;rw[zH])
 by_cases hfit:l.os.length+1<=256
 ·refine By P X (by simpa using hfit) λv2 e2 D=>cE rfl ?_;have B:Ext G v v2:=(bK.to e1).trans (e2.sub λq a=>a▸u);have J:∀q,Grow G v1 q->Grow G v q:=λq a=>a.imp id λL=>by omega
  obtain⟨eF2,H⟩:=r v2 _ _ B J D;have i:(dY [x] l).os=l.os++[x]/\(dY [x] l).lim=l.lim/\(dY [x] l).low=l.low:=by unfold dY;rw[zB (by simp only[zW,kI];omega)];exact⟨rfl,rfl,rfl⟩
  have A:=D;obtain⟨_,ok2,s2,g,W,E⟩:=D;have hs2l:s2.len=l.os.length+1:=by have:=W.1;simp[Wx,i.1]at this;omega
  refine aG (g.rS rfl (aG (g.rI rfl ?_)));rw[i.2.1];refine cR (λc1=>?_) λc1=>?_
  ·have C:l.os.length+1<=l.lim:=by simp only at c1;omega
   have y:dH c x l=([],dY [x] l):=by unfold dH;rw[zB O,zC C]
   refine hR v2 Y' _ 0 (λ_=>False) eF2 hp (λ_=>rfl) (λq a=>a.elim) (by rw[y];exact bW.nil _ _ _ _) ?_;rw[y];exact H.mono λq _ a=>⟨hin J a,id⟩
  ·have C:¬l.os.length+1<=l.lim:=by simp only at c1;omega
   have y:dH c x l=fU (min c.batch (l.os.length+1)) (lC c (dY [x] l)):=by unfold dH;rw[zB O,zB C]
   have M:=H.hd;rw[hp]at M;refine aG (M.rS rfl (GM H.ji hc (d:=2) O ?_));simp only[zB (show ¬(2=0) by omega),zB (show ¬(2=1) by omega)];refine Jn.intro ?_;have w:∀v3,Ext (· = b) v2 v3->iO b (lC c (dY [x] l)) v3 (Grow G v1)->bT (some ⟨b,0,none⟩) λa62=>ja (a62.add 0) v3 λS=>W4.c (aW b) (if((S.len:Nat):Int)<(c.batch:Int)then((S.len:Nat):Int)else(c.batch:Int)) v3 λt67 v4=>R t67 0 v4:=by
    intro v3 e3 hL3;have ad:=hL3;obtain⟨_,ok3,s3,Z,hs3,hcap3⟩:=hL3;have aa:(lC c (dY [x] l)).os=l.os++[x]:=by unfold lC;split<;>exact i.1
    have ac:s3.len=l.os.length+1:=by have:=hs3.1;simp[Wx,aa]at this;omega
    refine aG (Z.rS rfl ?_);have em:(if((s3.len:Nat):Int)<(c.batch:Int)then((s3.len:Nat):Int)else(c.batch:Int))=((min c.batch (l.os.length+1):Nat):Int):=by rw[ac];split<;>omega
    rw[em];refine Ha ad (by rw[aa];simp;omega) λs z v4 e4 hz hr hL4=>?_;have e24:Ext (· = b) v2 v4:=e3.trans e4;have e04:Ext G v v4:=B.trans (e24.sub λq a=>a▸u);have hs23:=e3.1;have hs02:=B.1;obtain⟨eF4,h4⟩:=r v4 _ (λq=>q=b\/z<=q) e04 (λq a=>a.imp (λ(L:q=b)=>by rw[L];exact u) λ(L:z<=q)=>O) hL4;refine hR v4 Y' s 0 (λq=>v3.size<=q/\q<z) eF4 hp (λ_=>rfl) (λq a=>O) (by rw[y];exact hr) ?_;rw[y];refine h4.mono λq _ a=>⟨?_,λhQ=>?_⟩
    ·rcases a with a|a|a
     ·exact a.1
     ·subst a;exact hG _ u
     ·exact .inr O
    ·rcases a with a|a|a<;>omega
   refine aG (g.rI rfl ?_);rw[i.2.1];refine cR (λc2=>?_) λc2=>?_
   ·have c2':l.lim<c.batch:=by omega
    have eu:lC c (dY [x] l) = {dY [x] l with lim:=l.lim+1}:=by unfold lC;rw[i.2.1,zC c2']
    have N:=D5 K ok2;refine aG (g.rI rfl ?_);rw[i.2.1];have hl128:=ab.lim;refine cQ (m:=l.lim+1) O O (aG (g.s1 (by simp[l9]) λv3 o3 hb3=>w v3 o3.ext ?_));rw[eu]at N ⊢;exact A.st o3.ext hb3 W E N
   ·have eu:lC c (dY [x] l)=dY [x] l:=by unfold lC;rw[i.2.1,zB O]
    exact w v2 (Ext.refl _ _) (by rw[eu];exact A)
 ·refine Ip P X (by simpa using hfit) aA (cB rfl ?_);have y:dH c x l=([],l):=by unfold dH;rw[zC O]
  refine hR v1 Y' _ 6 (λ_=>False) (e.trans (bK.to e1)) hp (λL=>absurd L hfit) (λq a=>a.elim) (by rw[y];exact bW.nil _ _ _ _) ?_;rw[y,Z1 hl];exact(h'.bO e1).mono λq _ a=>⟨a,id⟩
end Go.Ar
namespace Go.Ar
open Go Go.Vc Go.Proofs
open Go.Bu (Y4 Ql YW)
variable {U:Hp}{F:Rg}{p hs:Nat}{A:AR}{Y:Lay}{T:Nat->Hp->Rg->Prop}
theorem dE.qW (h:dE U F Y A T){k q:Nat}{c:bZ}{ss:List cF}(h1:Y.eZ[k]?=some q)(h2:A.tb[k]?=some c)(h3:A.cD[k]?=some ss) :
 ∃G:Rg,(∀b,G b->F b)/\(∃ps,eU U G q c ps ss)/\(∀j,∃H:Rg,(∀b,H b->F b)/\(∀b,H b->¬G b)/\T j U H)/\∀(σ':Hp) (ss':List cF) (ps':List (Nat×Nat)) (G' H:Rg),
  Ext G U σ'->(∀b,G' b->G b\/U.size<=b)->eU σ' G' q c ps' ss'->(∀b,(F b/\b<U.size/\¬G b\/G' b)->H b)->dE σ' H Y {A with cD:=A.cD.set k ss'} T:=by
 obtain⟨G,g,r,hd,a⟩:=h.step (.cD k);have d:k<A.cD.length:=(cX.1 h3).1;refine⟨G,g,Bm h1 h2 h3 r,λj=>hd (.cM j) (by intro e;cases e),λσ' ss' ps' G' H e m i p=>?_⟩;refine a σ' _ _ T G' H h.lay.kh h.tl Ew e m ?_ p;simp only[AC];rw[h1,h2,zJ d];exact⟨ps',i⟩
theorem L6 (h:dE U F Y A T)(k m:Int){R:Sl->Int->Hp->Prop}(hR:∀s σ',Ext F U σ'->bW s 1 (ints (X1 A k m)) σ' (λb=>U.size<=b)->dE σ' (Cut F U) Y (Yk A k m) T->R s (Qh A k m) σ') :
 WB.c (aW Y.p) k m U R:=by
 refine WB.o ?_;unfold WB.v;refine VR h k (λj=>?_) λx E u=>?_
 ·have e1:Qh A k m=1:=by unfold Qh;rw[j];rfl
  have e2:Yk A k m=A:=by unfold Yk;rw[e1];rfl
  have g:X1 A k m=[]:=by unfold X1;rw[e1];rfl
  have:=hR ⟨none,0,0⟩ U (Ext.refl _ _) (by rw[g];exact bW.nil _ _ _ _) (by rw[e2];exact h.cut);rw[e1]at this;exact cB rfl this
 ·subst E;have j:A.ck (x:Int)=true:=by unfold AR.ck;simp;omega
  obtain⟨c,ss,q,t,r,D,i,B,_,_,H⟩:=h.at_ u;obtain⟨G,C,⟨K,z⟩,_,a⟩:=h.qW B D i;refine cE rfl (aG (h.hd.rS rfl (h.k7 B ?_)));by_cases hm:m<0
  ·have e1:Qh A x m=1:=by unfold Qh;rw[j,zC rfl,zC hm]
   have e2:Yk A x m=A:=by unfold Yk;rw[e1];rfl
   have g:X1 A x m=[]:=by unfold X1;rw[e1];rfl
   have:=hR ⟨none,0,0⟩ U (Ext.refl _ _) (by rw[g];exact bW.nil _ _ _ _) (by rw[e2];exact h.cut);rw[e1]at this;exact Nv z m hm this
  ·have e1:Qh A x m=0:=by unfold Qh;rw[j,zC rfl,zB hm]
   have y:KP A x m=QJ c m.toNat ss:=by unfold KP;simp only[dC];rw[D,i]
   have e2:Yk A x m = {A with cD:=A.cD.set x (QJ c m.toNat ss).2}:=by unfold Yk;rw[e1,zC rfl,y];rfl
   have g:X1 A x m=(QJ c m.toNat ss).1:=by unfold X1;rw[e1,zC rfl,y]
   refine Lm z m O λs σ' e d w=>?_;have:=hR s σ' (e.sub C) (by rw[g];exact d) (by rw[e2];exact a σ' _ _ (Cut G U) _ e (λb J=>.inl J.1) w (DR C));rw[e1]at this;exact this
theorem O7 {k:Nat}{f:fX->fX}:∀j,j≠Lb.cM k->AC {A with cM:=A.cM.modify k f} Y (cJ {A with cM:=A.cM.modify k f} Y) j=AC A Y (cJ A Y) j:=by
 intro j hj;cases j<;>first|rfl|skip
 rename_i k';have a:k≠k':=λe=>hj (by rw[e]);simp only[AC,cJ];simp[rK,a]
theorem eO.jv {k:Nat}{f:fX->fX}(h:eO A Y):eO {A with cM:=A.cM.modify k f} Y:=⟨h.c,h.t,h.cD,by simpa using h.cM,h.mA,h.pF,h.n1,h.n2,h.n3,h.st,h.room,h.ok⟩
theorem dE.rZ (h:dE U F Y A (cJ A Y)){k q:Nat}{c:bZ}{t:fX}(h1:Y.fO[k]?=some q)(h2:A.tb[k]?=some c)(h3:A.cM[k]?=some t) :
 ∃G:Rg,(∀b,G b->F b)/\jb U G q c.batch A.room t/\∀(σ':Hp) (f:fX->fX) (G' H:Rg),
  Ext G U σ'->(∀b,G' b->G b\/U.size<=b)->jb σ' G' q c.batch A.room (f t)->(∀b,(F b/\b<U.size/\¬G b\/G' b)->H b)->dE σ' H Y {A with cM:=A.cM.modify k f} (cJ {A with cM:=A.cM.modify k f} Y):=by
 obtain⟨G,i,g,hd,a⟩:=h.step (.cM k);have d:jb U G q c.batch A.room t:=by
  simp only[AC,cJ]at g;rw[h1,h2,h3]at g;exact g
 refine⟨G,i,d,λσ' f G' H e p m r=>?_⟩;refine a σ' _ _ _ G' H h.lay.jv (λj=>cJ.loc j) O7 e p ?_ r;simp only[AC,cJ];rw[h1,h2,List.getElem?_modify_eq,h3];exact m
theorem HA (h:dE U F Y A (cJ A Y))(k:Int){R:Sl->Int->Hp->Prop}(hR:∀s σ',Ext F U σ'->(∀b,j9 s b->F b)->cT s 1 (Wx (Yg A k)) σ' (j9 s)->s.len<=s.cap->dE σ' (λb=>F b/\¬j9 s b) Y (Zo A k) (cJ (Zo A k) Y)->R s (ZP A k) σ') :
 Wz.c (aW Y.p) k U R:=by
 refine Wz.o ?_;unfold Wz.v;refine VR h k (λB=>?_) λx M C=>?_
 ·have e1:ZP A k=1:=by unfold ZP;rw[B];rfl
  have e2:Zo A k=A:=by unfold Zo;rw[e1];rfl
  have y:Yg A k=[]:=by unfold Yg;rw[e1];rfl
  have:=hR ⟨none,0,0⟩ U (Ext.refl _ _) (λb d=>by obtain⟨a,g,_⟩:=d;cases g) (by rw[y];exact cT.nil _ _ _ _) (zD _) (by rw[e2];exact h.mono λb _ d=>⟨d,λ⟨a,g,_⟩=>by cases g⟩);rw[e1]at this;exact cB rfl this
 ·subst M;have B:A.ck (x:Int)=true:=by unfold AR.ck;simp;omega
  obtain⟨c,Q,q,t,r,K,P,S,z,J,N⟩:=h.at_ C;obtain⟨G,D,H,i⟩:=h.rZ J K z;refine cE rfl (aG (h.hd.rS rfl (h.qm J ?_)));by_cases d:t.bs=[]
  ·have e1:ZP A x=4:=by unfold ZP;rw[B,zC rfl];simp only[dC];rw[z];simp[d]
   have e2:Zo A x=A:=by unfold Zo;rw[e1];rfl
   have y:Yg A x=[]:=by unfold Yg;rw[e1];rfl
   have:=hR ⟨none,0,0⟩ U (Ext.refl _ _) (λb d=>by obtain⟨a,g,_⟩:=d;cases g) (by rw[y];exact cT.nil _ _ _ _) (zD _) (by rw[e2];exact h.mono λb _ d=>⟨d,λ⟨a,g,_⟩=>by cases g⟩);rw[e1]at this;exact NQ H d this
  ·have e1:ZP A x=0:=by unfold ZP;rw[B,zC rfl];simp only[dC];rw[z];simp[d]
   have e2:Zo A x = {A with cM:=A.cM.modify x fX.rem}:=by unfold Zo;rw[e1,zC rfl];rfl
   have y:Yg A x=t.bs.getLast?.getD []:=by unfold Yg;rw[e1,zC rfl];simp only[dC];rw[z]
   refine FT H d λs σ' e m w u E=>?_;have j:∀b,(F b/\b<U.size/\¬G b\/G b/\¬j9 s b)->F b/\¬j9 s b:=λb d=>by
    rcases d with d|d
    ·exact⟨d.1,λL=>d.2.2 (m b L)⟩
    ·exact⟨D b d.1,d.2⟩
   have:=hR s σ' (e.sub D) (λb d=>D b (m b d)) (by rw[y];exact w) u (by rw[e2];exact i σ' _ (λb=>G b/\¬j9 s b) _ e (λb d=>.inl d.1) E j);rw[e1]at this;exact this
theorem EL (h:dE U F Y A (cJ A Y))(k:Int){sl:Sl}{xs:List Int}{X:Rg}(hs:cT sl 1 (Wx xs) U X)(hi:∀x∈xs,iu x){R:Bool->Int->Hp->Prop}(hR:∀σ',Ext F U σ'->dE σ' (Grow F U) Y (QL A k xs) (cJ (QL A k xs) Y)->R (KE A k xs) (UB A k xs) σ') :
 WE.c (aW Y.p) k sl U R:=by
 refine WE.o ?_;unfold WE.v;have u:sl.len=xs.length:=by have:=hs.1;simp[Wx]at this;omega
 have no:∀e:Int,e≠0->UB A k xs=e->R false e U:=λe he D=>by
  have e3:KE A k xs=false:=by unfold KE;rw[zM O];rfl
  have e2:QL A k xs=A:=by unfold QL;rw[e3];rfl
  have:=hR U (Ext.refl _ _) (by rw[e2];exact h.mono λb _ g=>.inl g);rw[D,e3]at this;exact this
 refine VR h k (λW=>cB rfl (no 1 aB (by unfold UB;rw[W];rfl))) λx N V=>?_;subst N;have W:A.ck (x:Int)=true:=by unfold AR.ck;simp;omega
 obtain⟨c,Q,q,t,r,M,L,hq,ht,hr,hok⟩:=h.at_ V;obtain⟨G1,ps,hG1,Z⟩:=h.cD hq M L;obtain⟨G,hG,hC,H⟩:=h.rZ hr M ht;have P:UB A x xs=if xs.length=c.batch then(if xs.all (λx=>dT c Q x==some true)then 0 else 8)else 1:=by unfold UB;rw[W,zC rfl];simp only[dC];rw[M,L]
 refine cE rfl (aG (h.hd.rS rfl (h.uJ (d:=2) M O ?_)));simp only[zB (show ¬(2=0) by omega),zB (show ¬(2=1) by omega)];rw[pc];refine cY (λg=>?_) λg=>?_
 ·have:¬xs.length=c.batch:=by rw[←u];simpa using g
  exact no 1 aB (by rw[P,zB this])
 have K:xs.length=c.batch:=by rw[←u];simpa using g
 rw[zC K]at P;have h32:c.batch<=32:=hok.2.2.2.2.2.2.2;refine Z5 (a:=bN) (λ(i:Int) v=>∃j:Nat,i=(j:Int)/\j<=xs.length/\v=U/\∀y∈xs.take j,dT c Q y=some true) (λi _=>xs.length-i.toNat) ⟨0,rfl,O,rfl,by simp⟩ ?_;rintro i v ⟨j,rfl,hj,rfl,s⟩;refine cR (λhlt2=>?_) λhge=>?_
 ·have E:j<xs.length:=by omega
  have N:xs[j]?=some xs[j]:=cW E;have htk:xs.take (j+1)=xs.take j++[xs[j]]:=by rw[lj,N];rfl
  have w:=j3 E;generalize xs[j]=y at *;have J:dT c Q y≠some true->R false 8 v:=λS=>no 8 aB (by
   rw[P,zB];intro ha;rw[zr]at ha;exact S (by simpa using ha y w))
  refine hs.od N (aG (h.hd.rS rfl (h.k7 hq (Gn Z _ (hi y w) (λb g=>?_) λg=>?_))))
  ·refine bR.intro (cE rfl ?_);cases b
   ·exact cB rfl (J (by rw[g];simp))
   ·refine cE rfl (cQ (m:=j+1) O O ⟨⟨j+1,rfl,O,rfl,λz hz=>?_⟩,O⟩);rw[htk]at hz;rcases zL.1 hz with D|D
    ·exact s z D
    ·simp at D;rw[D];exact g
  ·exact bR.intro (cB rfl (cB rfl (J (by rw[g];simp))))
 ·have:j=xs.length:=by omega
  subst this;rw[mX]at s;have B:UB A x xs=0:=by
   rw[P,zC];rw[zr];intro y hy;simp[s y hy]
  have C:KE A x xs=decide (t.bs.length<A.room):=by unfold KE;rw[B];simp only[dC];rw[ht];simp
  refine aG (h.hd.rS rfl (h.qm hr (EY hC hs O (λS=>absurd K S) (λ_ hf=>?_) λ_ hf σ' e hC'=>?_)))
  ·rw[zM O]at C;have e2:QL A x xs=A:=by unfold QL;rw[C];rfl
   have:=hR v (Ext.refl _ _) (by rw[e2];exact h.mono λb _ g=>.inl g);rw[B,C]at this;exact this
  ·rw[zK O]at C;have e2:QL A x xs = {A with cM:=A.cM.modify x λt=>{t with bs:=t.bs++[xs]}}:=by unfold QL;rw[C,zC rfl];rfl
   have:=hR σ' (e.sub hG) (by rw[e2];exact H σ' (λt=>{t with bs:=t.bs++[xs]}) (Grow G v) _ e (λb g=>g) hC' (Hi hG λb g=>g));rw[B,C]at this;exact this
theorem eU.NC {q:Nat}{c:bZ}{ps:List (Nat×Nat)}{ss:List cF}{G:Rg}(h:eU U G q c ps ss):∀s∈ss,s.st<=1024:=by
 intro s hs;obtain⟨i,a⟩:=zO hs;have b:=(cX.1 a).1;have d:i<ps.length:=by rw[h.len];exact b
 have:=(h.sp _ _ _ (cW d) a).fit;omega
theorem NJ (h:dE U F Y A T)(k:Int){sl:Sl}{xs:List Int}(hi:∀x∈xs,iu x)(hl:xs.length<=1000000)(hcap:sl.len<=sl.cap)
 (hs:(∃X:Rg,cT sl 1 (Wx xs) U X/\∀b,b<U.size->X b->¬F b)\/∃j,∀H,T j U H->cT sl 1 (Wx xs) U H)
 {R:aN} (hR:∀σ',Ext F U σ'->dE σ' (Grow F U) Y (Zl A k xs) T->R (Qx A k xs) σ') :
 WK.c (aW Y.p) k sl U R:=by
 refine WK.o ?_;unfold WK.v;have no:∀e:Int,e≠0->Qx A k xs=e->R e U:=λe he h1=>by
  have e2:Zl A k xs=A:=by unfold Zl;rw[zB O]
  have:=hR U (Ext.refl _ _) (by rw[e2];exact h.mono λb _ d=>.inl d);rw[h1]at this;exact this
 refine VR h k (λN=>cB rfl (no 1 aB (by unfold Qx;rw[N];rfl))) λx hx K=>?_;subst hx;have N:A.ck (x:Int)=true:=by unfold AR.ck;simp;omega
 obtain⟨c,g,q,t,r,M,u,hq,_,_,hok⟩:=h.at_ K;obtain⟨G,Q,⟨ps,J⟩,hd,B⟩:=h.qW hq M u;have hX:∃X:Rg,cT sl 1 (Wx xs) U X/\∀b,X b->¬G b:=by
  rcases hs with⟨X,h1,h2⟩|⟨j,hj⟩
  ·exact⟨Cut X U,aH.cut h1,λb d hg=>h2 b d.2 d.1 (Q b hg)⟩
  ·obtain⟨H,_,D,hT⟩:=hd j;exact⟨H,hj H hT,D⟩
 obtain⟨X,W,L⟩:=hX;have P:Qx A x xs=iq c g xs:=by unfold Qx;rw[N,zC rfl];simp only[dC];rw[M,u]
 refine cE rfl (aG (h.hd.rS rfl (h.k7 hq (FL J W L hi hl hcap (λD=>?_) λh0 o σ1 e1 m S=>?_))))
 ·refine cB (by simpa using D) (no _ D P)
 ·refine cE rfl ?_;have eS:Zl A x xs=VF {A with cD:=A.cD.set x (cK (xs.foldl (eW c) g))} ((Z9 (xs.foldl (eW c) g)).map λs=>(s,c.aF)):=by
   unfold Zl;rw[P,zC h0];simp only[dC];rw[M,u]
  have E:=B σ1 _ _ (Cut G U) _ e1 (λb d=>.inl d.1) S (DR Q);rw[MA]at m;have C:((Z9 (xs.foldl (eW c) g)).map λs=>(s,c.aF)).length<=1000000/\∀r∈((Z9 (xs.foldl (eW c) g)).map λs=>(s,c.aF)),r.1<=1000000:=by
   have i:∀(ys:List Int) (ls:List cF),((ys.foldl (eW c) ls).map (·.st))=ls.map (·.st):=by
    intro ys
    induction ys with
    | nil=>intro ls;rfl
    | cons y ys ih=>
     intro ls;rw[pO,ih];unfold eW;split
     ·rename_i j hj;split
      ·rename_i s a;split
       ·simp only[uh];apply zm;intro z;rw[mH];by_cases w:j=z
        ·subst w;rw[zC rfl];have:=(cX.1 a).1;rw[zC (by simpa using this)];simp[a,cF.put]
        ·rw[zB w]
       ·rfl
      ·rfl
     ·rfl
   have V:∀s∈Z9 (xs.foldl (eW c) g),s∈g.map (·.st):=by
    intro s a;rw[←i xs g];unfold Z9 at a;simp only[zF,zI]at a ⊢;obtain⟨z,w,rfl⟩:=a;exact⟨z,w.1,rfl⟩
   have hfew:=J.oy;refine⟨?_,λr hr=>?_⟩
   ·have:(Z9 (xs.foldl (eW c) g)).length<=(xs.foldl (eW c) g).length:=by
     unfold Z9;rw[zl];exact sD _ _
    have h2:(xs.foldl (eW c) g).length=g.length:=by have:=congrArg List.length (i xs g);simpa using this
    rw[zl];omega
   ·obtain⟨s,a,rfl⟩:=zF.1 hr;obtain⟨z,w,rfl⟩:=zF.1 (V s a);have:=J.NC z w;simp only;omega
  refine Cz E m.ig (λb _ d hf=>by have:=hf.2;omega) C.1 C.2 λσ2 e2 Z=>?_;have:=hR σ2 ((e1.sub Q).trans (e2.sub λb d=>d.1)) ?_
  ·rw[P,h0]at this;exact this
  ·rw[eS];exact Z.mono λb _ d=>by
    rcases d with d|d
    ·exact .inl d.1
    ·exact .inr (ky e1.1 d)
theorem Md (l:List (Nat×Nat))(x:Int):bY (iz l) x=(l.find? λr=>(r.1:Int)==x).map λr=>(r.2:Int):=by
 induction l with
 | nil=>rfl
 | cons r l ih=>
  have:iz (r::l)=((r.1:Int),(r.2:Int))::iz l:=rfl;rw[this,QQ,sE,ih];by_cases h:(r.1:Int)=x
  ·simp[h]
  ·have:((r.1:Int)==x)=false:=by simpa using h
   rw[this,zB h]
theorem LW (l:List (Nat×Nat))(x:Int):di (iz l) x=iz (l.filter λq=>!((q.1:Int)==x)):=by
 unfold di iz;rw[List.filter_map];rfl
theorem M3 (l:List (Nat×Nat))(x m:Nat):dG (iz l) (x:Int) (m:Int)=iz (cA.mset2 l x m):=by
 unfold dG cA.mset2 iz;have e:(l.map λr=>((r.1:Int),(r.2:Int))).any (λy=>y.1==(x:Int))=l.any λr=>r.1==x:=by
  rw[List.any_map]
  congr 1
  funext r
  exact k5 r.1 x
 rw[e];split
 ·rw[lV,lV];apply j5;intro r _;simp only[Function.comp_def];rw[k5];split<;>rfl
 ·simp
theorem dE.qc (h:dE U F Y A T):F Y.rn/\dI U Y.rn .i64 bN (iz A.runs)/\∀(σ':Hp) (rs:List (Nat×Nat)),Qg U σ' Y.rn->dI σ' Y.rn .i64 bN (iz rs)->dE σ' F Y {A with runs:=rs} T:=by
 obtain⟨G,g,⟨e,j⟩,_,a⟩:=h.step .runs;refine⟨g _ e,j,λσ' rs p m=>?_⟩;exact a σ' _ _ T G _ h.lay.pw h.tl MR (p.ext.sub λb d=>by subst d;exact e) (λb d=>.inl d) ⟨e,m⟩ (vY g λb d=>d)
theorem N9 (h:dE U F Y A T)(x:Int)(hf:∀r∈A.runs,r.1<=1000000){R:aN}(hR:∀σ',Ext F U σ'->dE σ' (Grow F U) Y (Qi A x) T->R (Ku A x) σ') :
 WG.c (aW Y.p) x U R:=by
 refine WG.o ?_;unfold WG.v;obtain⟨N,J,e⟩:=h.qc;refine UD h (cE rfl (aG (h.hd.rM rfl ⟨_,J,?_⟩)));rw[Md];cases hr:(A.runs.find? λr=>(r.1:Int)==x)with
 | none=>
  have e1:Ku A x=8:=by unfold Ku og;rw[hr];rfl
  have e2:Qi A x=A:=by unfold Qi og;rw[hr]
  have:=hR U (Ext.refl _ _) (by rw[e2];exact h.mono λb _ a=>.inl a);rw[e1]at this;exact cB rfl this
 | some r=>
  have e1:Ku A x=0:=by unfold Ku og;rw[hr];rfl
  have e2:Qi A x=Vo {A with runs:=A.runs.filter λq=>!((q.1:Int)==x)} r:=by unfold Qi og;rw[hr]
  have E:=rR hr;have z:(r.1:Int)=x:=by simpa using rH hr
  refine cE rfl (aG (h.hd.rM rfl ⟨_,J,λm s _ w=>?_⟩));have o1:=s _ rfl;have d:dI m Y.rn .i64 bN (di (iz A.runs) x):=w;rw[LW]at d;have u:=e m _ o1 d;simp only[zc,oB];refine nw (cs:=[.int .i64 x,.int .i64 (r.2:Int)]) λK P g C=>?_;have G:=u.cut.bO g;have B:cT ⟨some ⟨m.size,0,none⟩,1,1⟩ 2 (rV [r]) K (· = m.size):=by
   refine⟨rfl,.inr ⟨_,0,_,rfl,rfl,C.q,λj Q=>?_⟩⟩;have:rV [r]=[.int .i64 (r.1:Int),.int .i64 (r.2:Int)]:=rfl;rw[this,z,zH]
  refine Cz G B (λb _ a M=>by have:=M.2;omega) aA (λq H=>by simp at H;subst H;exact hf _ E) λv3 L y=>?_;have D:Ext F U v3:=(o1.ext.sub λb a=>by subst a;exact N).trans ((bK.to g).trans (L.sub λb a=>a.1));have:=hR v3 D (by
   rw[e2];exact y.mono λb _ a=>by
    rcases a with a|a
    ·exact .inl a.1
    ·exact .inr (by have:=o1.1;omega))
  rw[e1]at this;exact this
theorem KD (rs:List (Nat×Nat)):∀A:AR,(VF A rs).tb=A.tb/\(VF A rs).room=A.room/\(VF A rs).cM=A.cM/\(VF A rs).cD=A.cD/\(VF A rs).runs=A.runs/\(VF A rs).n=A.n:=by
 induction rs with
 | nil=>intro A;exact⟨rfl,rfl,rfl,rfl,rfl,rfl⟩
 | cons r rs ih=>intro A;exact ih (Vo A r)
theorem VU (A:AR)(k:Int)(xs:List Int):(Zl A k xs).tb=A.tb/\(Zl A k xs).room=A.room/\(Zl A k xs).cM=A.cM/\(Zl A k xs).runs=A.runs/\(Zl A k xs).n=A.n:=by
 unfold Zl;split
 ·split
  ·exact⟨(KD _ _).1,(KD _ _).2.1,(KD _ _).2.2.1,(KD _ _).2.2.2.2.1,(KD _ _).2.2.2.2.2⟩
  ·exact⟨rfl,rfl,rfl,rfl,rfl⟩
 ·exact⟨rfl,rfl,rfl,rfl,rfl⟩
theorem fX.nH (t:fX):∀xs∈t.tick.bs,xs∈t.bs:=λxs h=>rF h
theorem Kx {α:Type}{l:List α}{k:Nat}{t:α}{f:α->α}(h:l[k]?=some t):l.modify k f=l.set k (f t):=by
 apply zm;intro i;rw[mH,rK];by_cases hi:k=i
 ·subst hi;have:=(cX.1 h).1;rw[zC rfl,zC this,h];simp
 ·simp[hi]
def yM (A:AR)(Y:Lay)(k r:Nat)(c:bZ)(t:fX)(out:Sl)(sls:List Sl)(j:Nat):Hp->Rg->Prop:=
 if j=k then λU G=>jb U G r c.batch A.room t.tick/\cT out 1 (sls.map ox) U G/\pG sls t.out U G else cJ A Y j
theorem yM.loc {k r:Nat}{c:bZ}{t:fX}{out:Sl}{sls:List Sl}(j:Nat):dK (yM A Y k r c t out sls j):=by
 unfold yM;split
 ·exact λU i F G ⟨g,d,e⟩ b a=>⟨jb.loc _ _ _ _ g b a,cT.loc _ _ _ _ _ _ _ d b a,pG.loc _ _ _ _ _ _ e b a⟩
 ·exact cJ.loc j
end Go.Ar
namespace Go.Bu
variable {n:Nat}{S:Nat->Bool}
theorem Vn {m a k x:Nat}(h:Zr n S m a k=some x):∃j,j<k/\m<=2^j/\a<=2^j/\(QZ n S j).head?=some x/\∀i,i<j->m<=2^i->a<=2^i->QZ n S i=[]:=by
 have uU:∀k,Zr n S m a k=none->∀i,i<k->m<=2^i->a<=2^i->QZ n S i=[]:=by
  intro k
  induction k with
  | zero=>intro _ i hi;omega
  | succ k ih=>
   intro hn i hi d b;rw[Zr]at hn;split at hn
   ·cases hn
   ·rename_i hn';by_cases e:i=k
    ·subst e;rw[zC ⟨d,b⟩]at hn;simpa using hn
    ·exact ih hn' i O d b
 induction k with
 | zero=>simp[Zr]at h
 | succ k ih=>
  rw[Zr]at h;split at h
  ·rename_i y hy;cases h;obtain⟨j,d,b⟩:=ih hy;exact⟨j,O,b⟩
  ·rename_i hn;split at h
   ·rename_i hc;exact⟨k,O,hc.1,hc.2,h,uU k hn⟩
   ·cases h
theorem Us {m a:Nat}:∀{k},Zr n S m a k=none->∀i,i<k->m<=2^i->a<=2^i->QZ n S i=[]
 | 0,_,i,hi,_,_=>by omega
 | k+1,hn,i,hi,h1,h2=>by
  rw[Zr]at hn;split at hn
  ·cases hn
  ·rename_i hn';by_cases e:i=k
   ·subst e;rw[zC ⟨h1,h2⟩]at hn;simpa using hn
   ·exact Us hn' i O h1 h2
theorem kz (hb:Bounded S n){m a x:Nat}(h:YW n S m a=some x):x+m<=n/\∀y,x<=y->y<x+m->S y=true:=by
 obtain⟨j,_,g,_,e,_⟩:=Vn h;have b:x∈QZ n S j:=List.mem_of_head? e;obtain⟨q,rfl,d⟩:=(Qr hb).1 b;have:=Zx hb (Zn.1 d).1;exact⟨O,λy p i=>Vp d (ZT.2 O)⟩
end Go.Bu
namespace Go.Ar
open Go Go.Vc Go.Proofs
open Go.Bu (Y4 Ql YW)
variable {U:Hp}{F H:Rg}{p hs:Nat}{A:AR}{sp:Sp}{Y:Lay}{T:Nat->Hp->Rg->Prop}
structure W2 (U:Hp) (F H:Rg) (Y:Lay) (A:AR) (T:Nat->Hp->Rg->Prop) (sp:Sp):Prop where
 a:dE U F Y A T
 s:dJ U H Y.hs sp
 d:∀b,F b->¬H b
 g:Gl U
 o:iC F
 o2:iC H
def iB (F H:Rg):Rg:=λb=>F b\/H b
theorem W2.kO (h:W2 U F H Y A T sp){σ':Hp}{A':AR}(e:Ext F U σ')(ha:dE σ' F Y A' T):W2 σ' F H Y A' T sp:=
 ⟨ha,dK.bS dJ.loc h.s e λb _ a i=>h.d b i a,h.d,h.g.bS e h.o,h.o,h.o2⟩
theorem W2.space (h:W2 U F H Y A T sp){σ':Hp}{sp':Sp}(e:Ext H U σ')(hs:dJ σ' H Y.hs sp'):W2 σ' F H Y A T sp':=
 ⟨dK.bS dE.loc h.a e λb _ i j=>h.d b i j,hs,h.d,h.g.bS e h.o2,h.o,h.o2⟩
theorem W2.bO (h:W2 U F H Y A T sp){σ':Hp}(e:bK U σ'):W2 σ' F H Y A T sp:=⟨h.a.bO e,h.s.bO e,h.d,h.g.bO e,h.o,h.o2⟩
theorem W2.cut (h:W2 U F H Y A T sp):W2 U (Cut F U) (Cut H U) Y A T sp:=⟨h.a.cut,dK.cut dJ.loc h.s,λb e i=>h.d b e.1 i.1,h.g,h.o.sub λb e=>e.1,h.o2.sub λb e=>e.1⟩
theorem W2.nr (h:W2 U F H Y A T sp){σ':Hp}{A':AR}(e:Ext F U σ')(ha:dE σ' (Grow F U) Y A' T):W2 σ' (Grow F U) (Cut H U) Y A' T sp:=
 ⟨ha,dK.bS dJ.loc (dK.cut dJ.loc h.s) e λb _ a j=>h.d b j a.1,λb a i=>by
  rcases a with a|a
  ·exact h.d b a i.1
  ·have:=i.2;omega,h.g.bS e h.o,h.o.grow h.g,h.o2.sub λb a=>a.1⟩
theorem W2.A8 (h:W2 U F H Y A T sp){K:Option Addr->Prop}(hK:K (some ⟨Y.hs,0,none⟩)):fQ (Addr.add ⟨Y.p,0,none⟩ 1) U K:=h.a.hd.rP rfl hK
theorem CS (st:List Nat)(a m:Nat):Ub st a (m+1)=iE (Ub st a m) ((a+m:Nat):Int):=by
 unfold Ub;rw[pN,lI,tH];rfl
theorem M0 {a m:Int}(h:eT sp a m≠0):fN sp a m=sp:=by unfold fN;rw[zB h]
theorem L3 {size:Nat}(h1:1<=size)(h:∀j,1<=j->j*size+size<=sp.st.length->eT sp ((j*size:Nat):Int) (size:Int)≠0):cU sp size=none:=by
 unfold cU;rw[oM];intro x hx;obtain⟨j,b,rfl⟩:=zF.1 hx;rw[zh]at b;have d:(j+1)*size<=sp.st.length:=ky (lq size b) (vS _ _);rw[zk,Nat.one_mul]at d;by_cases h0:j=0
 ·subst h0;simp
 ·have:=h j O d;have a:(eT sp ((j*size:Nat):Int) (size:Int)==0)=false:=by simpa only[lM]using this
  rw[a,qV];simp
theorem N7 {size j:Nat}(h1:1<=size)(h0:1<=j)(hf:j*size+size<=sp.st.length)(hm:eT sp ((j*size:Nat):Int) (size:Int)=0)(h:∀i,1<=i->i<j->eT sp ((i*size:Nat):Int) (size:Int)≠0):cU sp size=some (j*size):=by
 unfold cU;have m:j<sp.st.length/size:=by
  rw[Nat.lt_iff_add_one_le,Nat.le_div_iff_mul_le h1,zk,Nat.one_mul];exact hf
 have a:List.range (sp.st.length/size)=List.range j++(j::(List.range (sp.st.length/size-j-1)).map (j+1 + ·)):=by
  apply zm;intro i;rw[List.getElem?_append,vG];by_cases d:i<j
  ·rw[zC d,mw O,mw d]
  ·rw[zB d];by_cases hij:i=j
   ·subst hij;rw[pT,yk,mw m]
   ·rw[show i-j=(i-j-1)+1 by omega,xV,zd];by_cases hl:i<sp.st.length/size
    ·rw[mw hl,mw O];simp only[zc]
     congr 1;omega
    ·rw[zT (by rw[vG];omega),zT (by rw[vG];omega)];rfl
 rw[a,lI,List.find?_append];have b:((List.range j).map (· * size)).find? (λ(s:Nat)=>s != 0&&eT sp s size==0)=none:=by
  rw[oM];intro x hx;obtain⟨i,d,rfl⟩:=zF.1 hx;rw[zh]at d;by_cases h0:i=0
  ·subst h0;simp
  ·have:=h i O d;have e:(eT sp ((i*size:Nat):Int) (size:Int)==0)=false:=by simpa only[lM]using this
   rw[e,qV];simp
 rw[b,zU,sE];have:(j*size != 0&&eT sp ((j*size:Nat):Int) (size:Int)==0)=true:=by
  rw[hm];have p:0<j*size:=Nat.mul_pos O O;have g:j*size≠0:=by omega
  simp[g]
 rw[this];rfl
theorem Lt (h:W2 U F H Y A T sp){size:Nat}(h1:size=16\/size=32\/size=64){R:aO}(h0:Ud A sp size=none->∀σ',Ext (iB F H) U σ'->W2 σ' F H Y A T sp->R false σ')
 (hR:∀A' sp',Ud A sp size=some (A',sp')->∀σ',Ext (iB F H) U σ'->W2 σ' F H Y A' T sp'->R true σ'):YA.c (aW Y.p) (size:Int) U R:=by
 refine YA.o ?_;unfold YA.v;have hn2:sp.st.length<=1024:=by obtain⟨q,r,l,B,hh⟩:=h.s;exact hh.n2
 have es:∀{a b:Hp},Ext H a b->Ext (iB F H) a b:=λe=>e.sub λb P=>.inr P;have ea:∀{a b:Hp},Ext F a b->Ext (iB F H) a b:=λe=>e.sub λb P=>.inl P;have d:∀j,j*size+size=(j+1)*size:=λj=>by rw[zk,Nat.one_mul]
 refine Z5 (a:=bN) (λ(t:Int) v=>∃j:Nat,t=((j*size:Nat):Int)/\1<=j/\j*size<=1024+64/\Ext (iB F H) U v/\W2 v F H Y A T sp/\∀i,1<=i->i<j->i*size+size<=sp.st.length->eT sp ((i*size:Nat):Int) (size:Int)≠0) (λt _=>2000-t.toNat)
  ⟨1,O,zD _,O,Ext.refl _ _,h,λi h1 h2=>O⟩ ?_
 rintro t v ⟨j,rfl,hj,P,e,z,x⟩;refine cQ (m:=j*size+size) O O (aG (z.A8 (CI z.s (cR (λhlt=>?_) λhge=>?_))))
 ·have hf:j*size+size<=sp.st.length:=by omega
  refine aG (z.A8 (OU z.s z.g z.o2 _ _ λv2 e2 J=>?_));refine cY (λW=>?_) λW=>?_
  ·have L:eT sp ((j*size:Nat):Int) (size:Int)≠0:=by simpa using W
   rw[M0 L]at J;refine cQ (m:=(j+1)*size) (by rw[←d];omega) (by rw[←d];omega) ⟨⟨j+1,rfl,O,by rw[←d];omega,e.trans (es e2),z.space e2 J,λi y D G=>?_⟩,by rw[←d];omega⟩;by_cases hij:i=j
   ·subst hij;exact L
   ·exact x i y O G
  ·have Q:eT sp ((j*size:Nat):Int) (size:Int)=0:=by simpa using W
   have X:=z.space e2 J;have M:∀i,i<j->i*size+size<=sp.st.length:=λi hi=>by
    have:(i+1)*size<=j*size:=lq _ hi;rw[d];omega
   have E:=N7 (sp:=sp) O hj hf Q λi y D=>x i y D (M i D);have K:Ud A sp size=some ({A with st:=Ub A.st (j*size/16) (size/16),S:=Ql A.n A.S ((j*size:Nat):Int) size},fN sp ((j*size:Nat):Int) size):=by unfold Ud;rw[E]
   have hd16:(j*size)%16=0:=by
    rcases h1 with rfl|rfl|rfl
    ·omega
    ·omega
    ·omega
   refine nz aB (cQ (m:=j*size/16) (by rw[Yi O];simp) O ?_);refine Z5 (a:=bN) (λ(t:Int) w=>∃i:Nat,t=((j*size/16+i:Nat):Int)/\i<=size/16/\Ext (iB F H) U w/\W2 w F H Y {A with st:=Ub A.st (j*size/16) i} T (fN sp ((j*size:Nat):Int) size)) (λt _=>200-t.toNat)
    ⟨0,O,O,e.trans (es e2),X⟩ ?_
   rintro t w ⟨i,rfl,hi,ew,u⟩;refine cQ (m:=j*size+size) O O (nz aB (cQ (m:=(j*size+size)/16) (by rw[Yi O];simp) O (cR (λZ=>?_) λhge2=>?_)))
   ·refine aG (u.a.hd.rP rfl (u.a.x4 _ λw2 t2 N C=>?_));refine cQ (m:=j*size/16+(i+1)) O O ⟨⟨i+1,rfl,O,ew.trans (ea N),?_⟩,O⟩;rw[CS];exact u.kO N C
   ·have V:i=size/16:=by omega
    subst V;refine aG (u.a.hd.rP rfl (u.a.tQ _ _ λw2 t2 N C=>?_));exact hR _ _ K w2 (ew.trans (ea N)) (u.kO N C)
 ·have E:=L3 (sp:=sp) (size:=size) O λi y G=>by
   by_cases hij:i<j
   ·exact x i y hij G
   ·have:j*size<=i*size:=lq _ O;omega
  have K:Ud A sp size=none:=by unfold Ud;rw[E]
  exact h0 K v e z
theorem E7 {m a:Nat}(h1:1<=m)(h2:m<=64)(ha:a=1\/a=2\/a=4\/a=8\/a=16):Go.Bu.fo (m:Int) (a:Int)=true:=by
 have b:Go.Bu.fB (a:Int)=true:=by rcases ha with rfl|rfl|rfl|rfl|rfl<;>decide
 unfold Go.Bu.fo;rw[b];simp only[sK,zE,zS];omega
theorem W2.take (h:W2 U F H Y A T sp){m a:Nat}(hok:Go.Bu.fo (m:Int) (a:Int)=true){R:Int->Int->Hp->Prop}(h0:YW A.n A.S m a=none->∀σ',Ext F U σ'->W2 σ' F H Y A T sp->R 0 6 σ')
 (h1:∀x,YW A.n A.S m a=some x->x+m<=A.n->∀σ',Ext F U σ'->W2 σ' F H Y {A with S:=Go.Bu.take A.S x (x+m)} T sp->R (x:Int) 0 σ'):Xy.c (aW Y.fr) (m:Int) (a:Int) U R:=by
 have b:Go.Bu.Bounded A.S A.n:=by obtain⟨p,r,i,_⟩:=h.a.free;exact i.iZ
 refine h.a.uX _ _ λσ' e j=>?_;have d:=h.kO e j;cases ht:YW A.n A.S m a with
 | none=>
  have e1:Go.Bu.iH A.n A.S (m:Int) (a:Int)=6:=by unfold Go.Bu.iH;rw[hok,zC rfl];simp only[dC];rw[ht]
  have e2:Go.Bu.iN A.n A.S (m:Int) (a:Int)=0:=by unfold Go.Bu.iN;rw[hok,zC rfl];simp only[dC];rw[ht]
  have g:Go.Bu.iF A.n A.S (m:Int) (a:Int)=A.S:=by unfold Go.Bu.iF;rw[hok,zC rfl];simp only[dC];rw[ht]
  rw[e1,e2];rw[g]at d;exact h0 ht σ' e d
 | some x=>
  have e1:Go.Bu.iH A.n A.S (m:Int) (a:Int)=0:=by unfold Go.Bu.iH;rw[hok,zC rfl];simp only[dC];rw[ht]
  have e2:Go.Bu.iN A.n A.S (m:Int) (a:Int)=x:=by unfold Go.Bu.iN;rw[hok,zC rfl];simp only[dC];rw[ht]
  have g:Go.Bu.iF A.n A.S (m:Int) (a:Int)=Go.Bu.take A.S x (x+m):=by unfold Go.Bu.iF;rw[hok,zC rfl];simp only[dC];rw[ht]
  rw[e1,e2];rw[g]at d;exact h1 x ht (Go.Bu.kz b ht).1 σ' e d
theorem Om {size:Nat}{A':AR}{sp':Sp}(h:Ud A sp size=some (A',sp')):A'.n=A.n:=by
 unfold Ud at h;split at h
 ·cases h
 ·cases h;rfl
def Fits (U:Hp)(F H F' H':Rg):Prop:=(∀b,F' b->Grow F U b)/\∀b,H' b->H b
theorem Df (h:W2 U F H Y A T sp){m a no:Nat}(h1:1<=m)(h2:m<=64)(ha:a=1\/a=2\/a=4\/a=8\/a=16)(hn1:1<=no)(hn2:no<=1000){R:Int->Int->Hp->Prop}
 (h0:(cV A sp m a no).1=none->∀σ',Ext (iB F H) U σ'->W2 σ' F H Y (cV A sp m a no).2.1 T (cV A sp m a no).2.2->R 0 6 σ')
 (hR:∀x,(cV A sp m a no).1=some x->x+m<=A.n->∀σ' F' H',Fits U F H F' H'->Ext (iB F H) U σ'->W2 σ' F' H' Y (cV A sp m a no).2.1 T (cV A sp m a no).2.2->R (x:Int) 0 σ') :
 Yp.c (aW Y.p) (m:Int) (a:Int) (no:Int) U R:=by
 refine Yp.o ?_;unfold Yp.v;have G:=E7 h1 h2 ha;have es:∀{a b:Hp},Ext H a b->Ext (iB F H) a b:=λe=>e.sub λb j=>.inr j;have r:∀{a b:Hp},Ext F a b->Ext (iB F H) a b:=λe=>e.sub λb j=>.inl j;have fin:∀(v:Hp) (x:Nat) (A1:AR) (sp1:Sp),Ext (iB F H) U v->x+m<=A.n->W2 v F H Y {A1 with S:=Go.Bu.take A1.S x (x+m)} T sp1->cV A sp m a no=(some x,dN A1 x m no,sp1) →
  bT (some ⟨Y.p,0,none⟩) λQ=>fQ (Q.add 3) v λZ=>Xu.c Z (x:Int) (m:Int) v λt55 s=>bT (some ⟨Y.p,0,none⟩) λaa=>fQ (aa.add 4) s λN=>XV.c N (x:Int) (m:Int) (no:Int) s λt63 v3=>R (x:Int) 0 v3:=by
  intro v x A1 sp1 e hxm C y;have V:x<=1000000:=by have:=h.a.lay.n2;omega
  refine aG (C.a.hd.rP rfl (C.a.Oz _ _ λs t2 e2 X=>?_));have g:=C.kO e2 X;refine aG (g.a.hd.rP rfl (g.a.Set x m V hn1 hn2 λv3 t3 e3 K=>?_));have P:=g.nr e3 K;refine hR x (by rw[y]) hxm v3 (Grow F s) (Cut H s) ⟨λb j=>?_,λb j=>j.1⟩ ((e.trans (r e2)).trans (r e3)) (by rw[y];exact P);rcases j with j|j
  ·exact .inl j
  ·exact .inr (ky (e.trans (r e2)).1 j)
 refine aG (h.a.hd.rP rfl (h.take G (λE v e C=>?_) λx E D v e C=>?_))
 ·refine Jn.intro (cB rfl ?_);have M:(if(a:Int)>(m:Int)then(a:Int)else(m:Int))=((max m a:Nat):Int):=by
   by_cases hgt:(a:Int)>(m:Int)
   ·rw[zC hgt];omega
   ·rw[zB hgt];omega
  rw[M];refine Z5 (a:=bN) (λ(t:Int) w=>w=v/\(t=16\/t=32/\16<max m a\/t=64/\32<max m a)) (λt _=>100-t.toNat) ⟨rfl,.inl rfl⟩ ?_;rintro(t:Int) w ⟨rfl,hcase⟩;have ab:a<=16:=by omega
  refine cR (λhlt=>?_) λhge=>?_
  ·have:t=16\/t=32:=by omega
   rcases this with rfl|rfl
   ·exact ar O O ⟨⟨rfl,O⟩,by decide⟩
   ·exact ar O O ⟨⟨rfl,O⟩,by decide⟩
  ·have W:t=((QG (max m a):Nat):Int):=by
    unfold QG;by_cases c1:max m a<=16
    ·rw[zC c1];omega
    ·rw[zB c1];by_cases c2:max m a<=32
     ·rw[zC c2];omega
     ·rw[zB c2];omega
   subst W;have L:QG (max m a)=16\/QG (max m a)=32\/QG (max m a)=64:=by omega
   refine Lt C L (λy σ' J u=>?_) λA' z y σ' J u=>?_
   ·have d:cV A sp m a no=(none,A,sp):=by unfold cV;rw[E];simp only;rw[y]
    exact cB rfl (h0 (by rw[d]) σ' ((r e).trans J) (by rw[d];exact u))
   ·refine cE rfl (aG (u.a.hd.rP rfl (u.take G (λB s e2 g=>?_) λx B D s e2 g=>?_)))
    ·have d:cV A sp m a no=(none,A',z):=by unfold cV;rw[E];simp only;rw[y];simp only;rw[B]
     exact cB rfl (h0 (by rw[d]) s (((r e).trans J).trans (r e2)) (by rw[d];exact g))
    ·have d:cV A sp m a no=(some x,dN A' x m no,z):=by unfold cV;rw[E];simp only;rw[y];simp only;rw[B]
     exact cE rfl (fin s x A' z (((r e).trans J).trans (r e2)) (by rw[←Om y];exact D) g d)
 ·have d:cV A sp m a no=(some x,dN A x m no,sp):=by unfold cV;rw[E]
  refine Jn.intro (cE rfl (cE rfl (fin v x A sp (r e) D C d)))
theorem Fits.refl:Fits U F H F H:=⟨λb a=>.inl a,λb a=>a⟩
theorem W2.mono {F' H':Rg}(h:W2 U F H Y A T sp)(hF:iC F')(hF2:∀b,b<U.size->F b->F' b)(hH:∀b,H' b->H b)(hH2:∀b,b<U.size->H b->H' b)(hd:∀b,F' b->¬H' b):W2 U F' H' Y A T sp:=
 ⟨h.a.mono hF2,dK.mono dJ.loc h.s hH2,hd,h.g,hF,h.o2.sub hH⟩
theorem Nj (h:W2 U F H Y A T sp)(k:Int){R:aN}(hR:∀σ' F' H',Fits U F H F' H'->Ext (iB F H) U σ'->W2 σ' F' H' Y (cL A sp k).1 T (cL A sp k).2->R (Ks A sp k) σ') :
 XL.c (aW Y.p) k U R:=by
 refine XL.o ?_;unfold XL.v;refine VR h.a k (λE=>?_) λx hx L=>?_
 ·have e1:Ks A sp k=1:=by unfold Ks;rw[E];rfl
  have e2:cL A sp k=(A,sp):=by unfold cL;rw[E];rfl
  have:=hR U F H Fits.refl (Ext.refl _ _) (by rw[e2];exact h);rw[e1]at this;exact cB rfl this
 ·subst hx;have E:A.ck (x:Int)=true:=by unfold AR.ck;simp;omega
  obtain⟨c,K,q,t,r,J,B,hq,_,_,Q⟩:=h.a.at_ L;have ht2:=h.a.lay.pF;obtain⟨_,_,_,M,hp4,_⟩:=Q;refine cE rfl (aG (h.a.hd.rS rfl (h.a.uJ (d:=1) J O ?_)));simp only[zB (show ¬(1=0) by omega),zP];refine cQ (m:=x+1) O O ?_;have eE:Ks A sp x=match (cV A sp c.aF 1 (x+1)).1 with
   | some y=>HC c K y
   | none=>6:=by unfold Ks;rw[E,zC rfl];simp only[dC];rw[J,B];rfl
  have X:cL A sp x=match cV A sp c.aF 1 (x+1)with
   | (some y,A',u)=>(if HC c K y=0 then{A' with cD:=A'.cD.set x (gU c K y)}else A',u)
   | (none,A',u)=>(A',u):=by unfold cL;rw[E,zC rfl];simp only[dC];rw[J,B];rfl
  refine Df (a:=1) h M O (.inl rfl) O O (λC σ' e w=>?_) λy C hyn σ' F' H' i e w=>?_
  ·have:=hR σ' F H Fits.refl e;rw[eE,X,C]at this;generalize cV A sp c.aF 1 (x+1)=g at *;obtain⟨g1,g2,g3⟩:=g;simp only at C;subst C;exact cB rfl (this w)
  ·have z:(cV A sp c.aF 1 (x+1)).2.1.tb=A.tb/\(cV A sp c.aF 1 (x+1)).2.1.cD=A.cD:=by
    unfold cV;split
    ·exact⟨rfl,rfl⟩
    ·split
     ·exact⟨rfl,rfl⟩
     ·rename_i A1 sp1 hga;have:A1.tb=A.tb/\A1.cD=A.cD:=by
       unfold Ud at hga;split at hga
       ·cases hga
       ·cases hga;exact⟨rfl,rfl⟩
      split
      ·exact this
      ·exact this
   have s:=λσ' F' H'=>hR σ' F' H';rw[eE,X]at s;generalize cV A sp c.aF 1 (x+1)=g at *;obtain⟨g1,A',u⟩:=g;simp only at C w z s;subst C;simp only at s;have hWc:=w;obtain⟨G,P,⟨ps,hC⟩,_,D⟩:=w.a.qW hq (by rw[z.1];exact J) (by rw[z.2];exact B);have hn2:=h.a.lay.n2;refine cE rfl (aG (w.a.hd.rS rfl (w.a.k7 hq (LK hC O (λZ v e2=>?_) λW v ps' e2 V=>?_))))
   ·have:=s v F' H' i (e.jx e2) (by rw[Z];exact w.bO e2);rw[Z]at this;exact this
   ·have S:=D v _ _ (Grow G σ') _ e2 (λb j=>j) V (Hi P λb j=>j);have N:=w.nr (e2.sub P) S;have:=s v (Grow F' σ') (Cut H' σ') ⟨λb j=>?_,λb j=>i.2 b j.1⟩ (e.dS (e2.sub P) λb j=>?_) (by rw[W];exact N)
    ·rw[W]at this;exact this
    ·rcases j with j|j
     ·exact i.1 b j
     ·exact .inr (ky e.1 j)
    ·rcases i.1 b j with h1|h1
     ·exact .inl (.inl h1)
     ·exact .inr h1
theorem Hg (A:AR)(sp:Sp)(m a no:Nat):(cV A sp m a no).2.1.tb=A.tb/\(cV A sp m a no).2.1.cD=A.cD/\(cV A sp m a no).2.1.cM=A.cM/\(cV A sp m a no).2.1.room=A.room/\(cV A sp m a no).2.1.runs=A.runs/\(cV A sp m a no).2.1.n=A.n:=by
 unfold cV;split
 ·exact⟨rfl,rfl,rfl,rfl,rfl,rfl⟩
 ·split
  ·exact⟨rfl,rfl,rfl,rfl,rfl,rfl⟩
  ·rename_i A1 sp1 hga;have:A1.tb=A.tb/\A1.cD=A.cD/\A1.cM=A.cM/\A1.room=A.room/\A1.runs=A.runs/\A1.n=A.n:=by
    unfold Ud at hga;split at hga
    ·cases hga
    ·cases hga;exact⟨rfl,rfl,rfl,rfl,rfl,rfl⟩
   split
   ·exact this
   ·exact this
theorem Mu:∀a:Nat,a<17->1<=a->((bits .and .i64 (a:Int) ((a:Int)-1) != 0) = !(a==1||(a==2||(a==4||(a==8||a==16))))):=by decide
theorem Jp (h:W2 U F H Y A T sp)(m a:Int){R:Int->Int->Hp->Prop}(hR:∀σ' F' H',Fits U F H F' H'->Ext (iB F H) U σ'->W2 σ' F' H' Y (cA A sp m a).1 T (cA A sp m a).2->R ((ZO A sp m a:Nat):Int) (Qd A sp m a) σ') :
 WJ.c (aW Y.p) m a U R:=by
 refine WJ.o ?_;unfold WJ.v;have K:QR m a=false->R 0 1 U:=λu=>by
  have e1:Qd A sp m a=1:=by unfold Qd;rw[u];rfl
  have e2:cA A sp m a=(A,sp):=by unfold cA;rw[u];rfl
  have e3:ZO A sp m a=0:=by unfold ZO;rw[u];rfl
  have:=hR U F H Fits.refl (Ext.refl _ _) (by rw[e2];exact h);rw[e1,e3]at this;exact this
 have d:¬(1<=m/\m<=64/\(a=1\/a=2\/a=4\/a=8\/a=16))->R 0 1 U:=λhn=>K (by
  rw[←oT];intro hp;unfold QR at hp;simp at hp;omega)
 refine UD h.a (cE rfl (bR.intro (cR (λc1=>bR.intro (cB rfl (bR.intro (cB rfl (bR.intro (cB rfl (cB rfl (d O)))))))) λc1=>?_)));refine bR.intro (cR (λV=>bR.intro (cB rfl (bR.intro (cB rfl (cB rfl (d O)))))) λV=>?_);refine bR.intro (cR (λX=>bR.intro (cB rfl (cB rfl (d O)))) λX=>?_);refine bR.intro (cR (λc4=>cB rfl (d O)) λc4=>ar O O ?_);obtain⟨y,rfl⟩:=zY (show 0<=m by omega);obtain⟨z,rfl⟩:=zY (show 0<=a by omega);rw[Mu z O O];refine cY (λJ=>?_) λJ=>?_
 ·refine d (λhh=>?_);simp at J;omega
 ·have hz:z=1\/z=2\/z=4\/z=8\/z=16:=by
   simp at J;omega
  have u:QR (y:Int) (z:Int)=true:=by
   unfold QR;simp;omega
  have Q:Qd A sp y z=if(cV A sp y z 41).1.isSome then 0 else 6:=by unfold Qd;rw[u,zC rfl];rfl
  have S:ZO A sp y z=(cV A sp y z 41).1.getD 0:=by unfold ZO;rw[u,zC rfl];rfl
  have P:cA A sp y z=match cV A sp y z 41 with
   | (some x,A',j)=>({A' with runs:=cA.mset2 A'.runs x y},j)
   | (none,A',j)=>(A',j):=by unfold cA;rw[u,zC rfl];rfl
  refine Df (no:=41) h O O hz O O (λw σ' e B=>?_) λx w aa σ' F' H' s e B=>?_
  ·have:=hR σ' F H Fits.refl e;rw[Q,P,S,w]at this;generalize cV A sp y z 41=g at *;obtain⟨W,g2,g3⟩:=g;simp only at w;subst w;exact cB rfl (this B)
  ·have r:=λσ' F' H'=>hR σ' F' H';rw[Q,P,S]at r;generalize cV A sp y z 41=g at *;obtain⟨W,A',j⟩:=g;simp only at w B r;subst w;simp only at r;obtain⟨gr,Z,C⟩:=B.a.qc;refine cE rfl (aG (B.a.hd.rM rfl ⟨_,_,rfl,Z,λv N E=>?_⟩));have D:dI v Y.rn .i64 bN (dG (iz A'.runs) (x:Int) (y:Int)):=E;rw[M3]at D;have M:=C v _ N D;have e2:Ext F' σ' v:=N.ext.sub λb G=>by subst G;exact gr
   have L:=B.kO e2 M;exact r v F' H' s (e.dS e2 λb G=>by
    rcases s.1 b G with h1|h1
    ·exact .inl (.inl h1)
    ·exact .inr h1) L
end Go.Ar
namespace Go.Proofs
open Go.Vc
set_option maxRecDepth 100000
end Go.Proofs
namespace Go.Ar
open Go Go.Vc Go.Proofs
variable {U:Hp}{Q:Rg}{key:Nat->Nat}
end Go.Ar
namespace Go.Ar
open Go Go.Vc Go.Proofs
variable {U:Hp}{F:Rg}{p q:Nat}{st:List Nat}
end Go.Ar
namespace Go.Ar
open Go Go.Vc Go.Proofs
open Go.Bu (Y4 Ql YW)
variable {U:Hp}{F H:Rg}{p hs:Nat}{A:AR}{sp:Sp}{Y:Lay}{T:Nat->Hp->Rg->Prop}
theorem dE.cM (h:dE U F Y A (cJ A Y)){k q:Nat}{c:bZ}{t:fX}(h1:Y.fO[k]?=some q)(h2:A.tb[k]?=some c)(h3:A.cM[k]?=some t):∃G:Rg,(∀b,G b->F b)/\jb U G q c.batch A.room t:=by
 obtain⟨G,d,a,_⟩:=h.rZ h1 h2 h3;exact⟨G,d,a⟩
def part {α:Type}(f:bZ->α->Nat)(tb:List bZ)(l:List α)(i:Nat):Nat:=(((tb.zip l).take i).map λx=>f x.1 x.2).sum
end Go.Ar
namespace Go.Ar
open Go Go.Vc Go.Proofs
variable {U:Hp}
theorem Bn:∀(xs:List (Int×Int×Int)),sd xs=true↔∀(i:Nat) a b,xs[i]?=some a->xs[i+1]?=some b->a.1<b.1
 | []=>by simp[sd]
 | [x]=>by simp[sd]
 | x::y::l=>by
  have ih:=Bn (y::l);show(decide (x.1<y.1)&&sd (y::l))=true↔_;rw[zE,ih,zS];constructor
  ·rintro⟨h1,h2⟩ i a b d e;cases i with
   | zero=>simp at d e;subst d;subst e;exact h1
   | succ i=>exact h2 i a b (by simpa using d) (by simpa using e)
  ·intro h;exact⟨h 0 x y rfl rfl,λi a b d e=>h (i+1) a b (by simpa using d) (by simpa using e)⟩
theorem Z6 (xs:List (Int×Int×Int)):Qe xs=true↔1<=xs.length/\xs.length<=40/\(∀(i:Nat) t,xs[i]?=some t->VK t.1 t.2.1 t.2.2=true)/\∀(i:Nat) a b,xs[i]?=some a->xs[i+1]?=some b->a.1<b.1:=by
 unfold Qe;simp only[zE,zS,Bn,zr];constructor
 ·rintro⟨h1,h2,h3,h4⟩;exact⟨h1,h2,λi t d=>h3 t (zG d),h4⟩
 ·rintro⟨h1,h2,h3,h4⟩;exact⟨h1,h2,λt d=>by obtain⟨i,e⟩:=zO d;exact h3 i t e,h4⟩
theorem HO {s:Sl}{xs:List (Int×Int×Int)}(ha:hO U s xs){R:aO}(hR:∀σ',bK U σ'->R (Qe xs) σ'):Zm.c s U R:=by
 refine Zm.o ?_;unfold Zm.v;have P:∀σ',bK U σ'->¬(1<=xs.length/\xs.length<=40/\(∀(i:Nat) t,xs[i]?=some t->VK t.1 t.2.1 t.2.2=true)/\∀(i:Nat) a b,xs[i]?=some a->xs[i+1]?=some b->a.1<b.1)->R false σ':=λσ' e hn=>by
  have:=hR σ' e;have hf:Qe xs=false:=by rw[←oT,Z6];exact hn
  rw[hf]at this;exact this
 have Y:=ha.1;refine bR.intro (cR (λc1=>cB rfl (P U (Ext.refl _ _) λh=>O)) λc1=>?_);refine cR (λc2=>P U (Ext.refl _ _) λh=>O) λc2=>?_;refine Z5 (a:=bN) (λ(t:Int) v=>∃i:Nat,t=(i:Int)/\i<=xs.length/\bK U v/\(∀(j:Nat) t,j<i->xs[j]?=some t->VK t.1 t.2.1 t.2.2=true)/\∀(j:Nat) a b,j+1<i->xs[j]?=some a->xs[j+1]?=some b->a.1<b.1) (λt _=>xs.length-t.toNat)
  ⟨0,rfl,O,Ext.refl _ _,λj t h=>O,λj a b h=>O⟩ ?_
 rintro t v ⟨i,rfl,M,e,h1,X⟩;have Q:=ZI ha e;refine cR (λhlt=>?_) λhge=>?_
 ·have N:i<xs.length:=by omega
  have A:xs[i]?=some xs[i]:=cW N;generalize xs[i]=r at A;obtain⟨x,y,z⟩:=r;refine vn Q A ?_;refine nw (cs:=[.int .i64 0,.int .i64 0,.int .i64 0]) λv2 hz2 e2 b2=>b2.s1 aA λv3 o3 b3=>b3.s1 aA λv4 o4 b4=>b4.s1 aA λv5 o5 H=>?_;have e5:bK v v5:=Ext.fresh (Ext.fresh (Ext.fresh e2 o3.ext λi M=>O) o4.ext λi M=>O) o5.ext λi M=>by omega
  refine Jn.intro ⟨(· = v5),rfl,⟨x,λm E=>by rw[E,add_lit,H.cell];rfl,⟨y,λm E=>by rw[E,add_lit,H.cell];rfl,⟨z,λm E=>by rw[E,add_lit,H.cell];rfl,?_⟩⟩⟩⟩;refine DP x y z λv7 W=>?_;have w:=(Ext.trans e e5).trans W;have G:(VK x y z=false\/∃a,0<i/\xs[i-1]?=some a/\x<=a.1)->R false v7:=λL=>P v7 w λJ=>by
   rcases L with L|⟨a,K,hb1,hb2⟩
   ·have:=J.2.2.1 i _ A;simp only at this;rw[L]at this;cases this
   ·have:=J.2.2.2 (i-1) a (x,y,z) hb1 (by rw[show i-1+1=i by omega];exact A);simp only at this;omega
  cases hc:VK x y z
  ·exact cB rfl (cB rfl (G (.inl hc)))
  ·have next:(∀a,0<i->xs[i-1]?=some a->a.1<x)->Ar .i64 ((i:Int)+1) λg=>(∃i:Nat,g=(i:Int)/\i<=xs.length/\bK U v7/\(∀(j:Nat) t,j<i->xs[j]?=some t->VK t.1 t.2.1 t.2.2=true)/\∀(j:Nat) a b,j+1<i->xs[j]?=some a->xs[j+1]?=some b->a.1<b.1)/\xs.length-g.toNat<xs.length-(i:Int).toNat:=by
    intro K;refine cQ (m:=i+1) O O ⟨⟨i+1,rfl,O,w,λj t hj B=>?_,λj a b hj u d=>?_⟩,O⟩
    ·by_cases hji:j=i
     ·subst hji;rw[A]at B;cases B;exact hc
     ·exact h1 j t O B
    ·by_cases hji:j+1=i
     ·subst hji;rw[A]at d;cases d;exact K a O u
     ·exact X j a b O u d
   refine cE rfl (cR (λK=>?_) λK=>cE rfl (next λa kc=>O))
   have p:xs[i-1]?=some (xs[i-1]' O):=cW _;generalize xs[i-1]' O=r at p;obtain⟨V,y',z'⟩:=r;have D:=ZI ha w;obtain⟨b,o,g1,g2,g3,g4,g5⟩:=D.2 (i-1) V y' z' p;have Z:=W.bU H id;refine cQ (m:=i-1) O O ?_;rw[g1];refine ix O O ?_;have F:cell v7 ⟨b,o+(((i-1:Nat):Int)).toNat*3+0,none⟩=some (.int .i64 V):=by simpa using g3
   have fin:If (decide (x<=V)) (R false v7) (Ar .i64 ((i:Int)+1) λg=>(∃i:Nat,g=(i:Int)/\i<=xs.length/\bK U v7/\(∀(j:Nat) t,j<i->xs[j]?=some t->VK t.1 t.2.1 t.2.2=true)/\∀(j:Nat) a b,j+1<i->xs[j]?=some a->xs[j+1]?=some b->a.1<b.1)/\xs.length-g.toNat<xs.length-(i:Int).toNat):=by
    refine cR (λS=>G (.inr ⟨_,O,p,S⟩)) λhgt=>next λa _ C=>?_
    rw[p]at C;cases C;simp only;omega
   rw[add_lit b o];exact⟨Z.rI rfl (my F fin),my F (Z.rI rfl fin)⟩
 ·have:i=xs.length:=by omega
  subst this;have J:Qe xs=true:=(Z6 xs).2 ⟨O,O,λi t B=>h1 i t (cX.1 B).1 B,λi a b u d=>X i a b (cX.1 d).1 u d⟩;have:=hR v e;rw[J]at this;exact this
end Go.Ar
namespace Go.Ar
open Go Go.Vc Go.Proofs
open Go.Bu (Y4 Ql YW)
variable {U:Hp}{F H:Rg}{p hs:Nat}{A:AR}{sp:Sp}{Y:Lay}{T:Nat->Hp->Rg->Prop}
open Classical in
theorem _root_.Go.Vc.Sep.put {L:Type}{C C':L->Hp->Rg->Prop}{U:Hp}{F G:Rg}(hC:∀i,dK (C i))(h:Sep C U F)(i:L)(hd:∀b,G b->¬F b)(hj:∀j,j≠i->C' j=C j)(hi:C' i U G)(hL:dK (C' i)):Sep C' U λb=>F b\/G b:=by
 obtain⟨ρ,h⟩:=h;refine⟨λb=>if G b then i else ρ b,λj=>?_⟩
 by_cases hji:j=i
 ·subst hji;exact hL.mono hi λb _ d=>⟨.inr d,zC d⟩
 ·rw[hj j hji];refine(hC j).mono (h j) λb _ a=>⟨.inl a.1,?_⟩;show(if G b then i else ρ b)=j
  rw[zB λe=>hd b e a.1];exact a.2
def fS (A:AR)(Y:Lay)(T:Nat->Hp->Rg->Prop)(cs:List Value):Lb->Hp->Rg->Prop
 | .hd=>ib Y.p cs
 | i=>AC A Y T i
theorem fS.loc {cs:List Value}(hT:∀k,dK (T k)):∀i,dK (fS A Y T cs i)
 | .hd=>ib.loc _ _
 | .dB=>AC.loc (A:=A) (Y:=Y) hT .dB
 | .free=>AC.loc (A:=A) (Y:=Y) hT .free
 | .m6=>AC.loc (A:=A) (Y:=Y) hT .m6
 | .own=>AC.loc (A:=A) (Y:=Y) hT .own
 | .dL=>AC.loc (A:=A) (Y:=Y) hT .dL
 | .cN=>AC.loc (A:=A) (Y:=Y) hT .cN
 | .runs=>AC.loc (A:=A) (Y:=Y) hT .runs
 | .cD k=>AC.loc (A:=A) (Y:=Y) hT (.cD k)
 | .cM k=>AC.loc (A:=A) (Y:=Y) hT (.cM k)
theorem F3:fS A Y T (ke Y)=AC A Y T:=by
 funext i;cases i<;>rfl
theorem Bw {cs:List Value}(hT:∀k,dK (T k))(h:Sep (fS A Y T cs) U F)(hlen:A.cD.length<=Y.eZ.length)(hl:Y.eZ.length<=40){vb cp ty:Nat}(hb:bX U vb [.pointer (some ⟨cp,0,none⟩)])(hvb:¬F vb){K:Sl->Hp->Prop}
 (hK:∀s' σ',Ext F U σ'->Sep (fS A {Y with dL:=s',eZ:=Y.eZ++[cp]} T cs) σ' (Grow F U)->K s' σ'):App Y.dL 1 8 ty [.pointer none] ⟨some ⟨vb,0,none⟩,1,1⟩ U K:=by
 obtain⟨G,g,d,_,a⟩:=h.jA (fS.loc hT) .dL;have d:bW Y.dL 1 (fC Y.eZ) U G:=d;have m:Y.dL.len=Y.eZ.length:=by have:=d.1;simp[fC]at this;omega
 refine d.app (ys:=[.pointer (some ⟨cp,0,none⟩)]) rfl rfl ?_ (by simp[dV]) aC aC mI λs' σ' i e p=>hK s' σ' (e.sub g) ?_
 ·intro j u hu;rw[add_lit,zH,hb.cell];exact hu
 refine(Sep.loc (fS.loc hT)).mono (a σ' (fS A {Y with dL:=s',eZ:=Y.eZ++[cp]} T cs) (Grow G U) (λj r=>?_) e (λb hb=>hb) ?_ (fS.loc hT _)) λb _ hb=>Hi g (λb hb=>hb) b hb
 ·cases j<;>first|rfl|exact absurd rfl r|skip
  rename_i k;show jH (Y.eZ++[cp])[k]? A.tb[k]? A.cD[k]?=jH Y.eZ[k]? A.tb[k]? A.cD[k]?;rcases jX k Y.eZ.length with h1|h1
  ·rw[zg h1]
  ·have:A.cD[k]?=none:=zT O;rw[this]
   funext U F
   unfold jH;cases(Y.eZ++[cp])[k]?<;>cases Y.eZ[k]?<;>cases A.tb[k]?<;>rfl
 ·show bW s' 1 (fC (Y.eZ++[cp])) σ' (Grow G U);have:fC (Y.eZ++[cp])=fC Y.eZ++[.pointer (some ⟨cp,0,none⟩)]:=by simp[fC]
  rw[this];exact p
theorem Fb (hlen:A.cM.length<=Y.fO.length)(tp:Nat)(s':Sl):cJ A {Y with cN:=s',fO:=Y.fO++[tp]}=cJ A Y:=by
 funext k
 unfold cJ;simp only;rcases jX k Y.fO.length with h1|h1
 ·rw[zg h1]
 ·have:A.cM[k]?=none:=zT O;rw[this]
  funext U F
  unfold kg;cases(Y.fO++[tp])[k]?<;>cases Y.fO[k]?<;>cases A.tb[k]?<;>rfl
theorem DH {cs:List Value}(h:Sep (fS A Y (cJ A Y) cs) U F)(hlen:A.cM.length<=Y.fO.length)(hl:Y.fO.length<=40){vb tp ty:Nat}(hb:bX U vb [.pointer (some ⟨tp,0,none⟩)])(hvb:¬F vb){K:Sl->Hp->Prop}
 (hK:∀s' σ',Ext F U σ'->Sep (fS A {Y with cN:=s',fO:=Y.fO++[tp]} (cJ A {Y with cN:=s',fO:=Y.fO++[tp]}) cs) σ' (Grow F U)->K s' σ'):App Y.cN 1 8 ty [.pointer none] ⟨some ⟨vb,0,none⟩,1,1⟩ U K:=by
 have g:∀k,dK (cJ A Y k):=λk=>cJ.loc k;obtain⟨G,i,d,_,a⟩:=h.jA (fS.loc g) .cN;have d:bW Y.cN 1 (fC Y.fO) U G:=d;have r:Y.cN.len=Y.fO.length:=by have:=d.1;simp[fC]at this;omega
 refine d.app (ys:=[.pointer (some ⟨tp,0,none⟩)]) rfl rfl ?_ (by simp[dV]) aC aC mI λs' σ' p e s=>hK s' σ' (e.sub i) ?_
 ·intro j u hu;rw[add_lit,zH,hb.cell];exact hu
 rw[Fb hlen];refine(Sep.loc (fS.loc g)).mono (a σ' (fS A {Y with cN:=s',fO:=Y.fO++[tp]} (cJ A Y) cs) (Grow G U) (λj m=>?_) e (λb hb=>hb) ?_ (fS.loc g _)) λb _ hb=>Hi i (λb hb=>hb) b hb
 ·cases j<;>first|rfl|exact absurd rfl m
 ·show bW s' 1 (fC (Y.fO++[tp])) σ' (Grow G U);have:fC (Y.fO++[tp])=fC Y.fO++[.pointer (some ⟨tp,0,none⟩)]:=by simp[fC]
  rw[this];exact s
theorem CV {cs:List Value}(hT:∀k,dK (T k))(h:Sep (fS A Y T cs) U F){i:Nat}{v:Value}(hi:i<cs.length){K:aP}(hK:∀σ',Ext F U σ'->Sep (fS A Y T (cs.set i v)) σ' F->K σ'):eP (Addr.add ⟨Y.p,0,none⟩ i) v U K:=by
 obtain⟨G,g,d,_,e⟩:=h.jA (fS.loc hT) .hd;have d:ib Y.p cs U G:=d;refine d.2.s1 O λσ' o b=>hK σ' (o.ext.sub λb a=>by subst a;exact g _ d.1) ?_;rw[zH]at b;refine(Sep.loc (fS.loc hT)).mono (e σ' (fS A Y T (cs.set i v)) G (λj m=>?_) (o.ext.sub λb a=>by subst a;exact d.1) (λb a=>.inl a) ⟨d.1,b⟩ (fS.loc hT _)) λb _ a=>vY g (λb a=>a) b a;cases j<;>first|rfl|exact absurd rfl m
theorem lA {cs:List Value}(h:Sep (fS A Y T cs) U F):bX U Y.p cs/\F Y.p:=by
 obtain⟨G,d,b,a⟩:=h.get .hd;exact⟨a,d _ b⟩
theorem Fq {cs:List Value}{i cp tp:Nat}{c:bZ}{ss:List cF}{t:fX}{ps:List (Nat×Nat)}{Gc Gt:Rg}(h:Sep (fS A Y (cJ A Y) cs) U F)(hlc:A.cD.length=i)(hlt:A.cM.length=i)(hcp:Y.eZ[i]?=some cp)(htp:Y.fO[i]?=some tp)(hc:A.tb[i]?=some c)
 (hC:eU U Gc cp c ps ss) (hTf:jb U Gt tp c.batch A.room t) (d1:∀b,Gc b->¬F b) (d2:∀b,Gt b->¬F b) (d3:∀b,Gc b->¬Gt b) :
 Sep (fS {A with cD:=A.cD++[ss],cM:=A.cM++[t]} Y (cJ {A with cD:=A.cD++[ss],cM:=A.cM++[t]} Y) cs) U λb=>(F b\/Gc b)\/Gt b:=by
 have d:∀k,dK (cJ A Y k):=λk=>cJ.loc k;have u:Sep (fS {A with cD:=A.cD++[ss]} Y (cJ A Y) cs) U λb=>F b\/Gc b:=by
  refine h.put (fS.loc d) (.cD i) d1 (λj r=>?_) ?_ (fS.loc d _)
  ·cases j<;>first|rfl|skip
   rename_i k;have p:k≠i:=λe=>r (by rw[e]);show jH Y.eZ[k]? A.tb[k]? (A.cD++[ss])[k]?=jH Y.eZ[k]? A.tb[k]? A.cD[k]?;rcases jX k i with h2|h2
   ·rw[zg O]
   ·have m:(A.cD++[ss])[k]?=none:=zT (by rw[zQ,yD];omega);have g:A.cD[k]?=none:=zT O;rw[m,g]
  ·show jH Y.eZ[i]? A.tb[i]? (A.cD++[ss])[i]? U Gc;rw[hcp,hc,zn O,hlc,pT];exact⟨ps,hC⟩
 refine u.put (fS.loc d) (.cM i) (λb s a=>?_) (λj r=>?_) ?_ (fS.loc (λk=>cJ.loc k) _)
 ·rcases a with a|a
  ·exact d2 b s a
  ·exact d3 b a s
 ·cases j<;>first|rfl|skip
  rename_i k;have p:k≠i:=λe=>r (by rw[e]);show kg Y.fO[k]? A.tb[k]? A.room (A.cM++[t])[k]?=kg Y.fO[k]? A.tb[k]? A.room A.cM[k]?;rcases jX k i with h2|h2
  ·rw[zg O]
  ·have m:(A.cM++[t])[k]?=none:=zT (by rw[zQ,yD];omega);have g:A.cM[k]?=none:=zT O;rw[m,g]
 ·show kg Y.fO[i]? A.tb[i]? A.room (A.cM++[t])[i]? U Gt;rw[htp,hc,zn O,hlt,pT];exact hTf
open Classical in
noncomputable def jd {L:Type}(C:L->Hp->Rg->Prop)(S:L->Prop)(i:L):Hp->Rg->Prop:=if S i then C i else wJ
theorem jd.loc {L:Type}{C:L->Hp->Rg->Prop}{S:L->Prop}(hC:∀i,dK (C i))(i:L):dK (jd C S i):=by
 unfold jd;split
 ·exact hC i
 ·exact wJ.loc
theorem jd.put {L:Type}{C:L->Hp->Rg->Prop}{S:L->Prop}{F G:Rg}(hC:∀i,dK (C i))(h:Sep (jd C S) U F)(i:L)(hd:∀b,G b->¬F b)(hi:C i U G):Sep (jd C λj=>S j\/j=i) U λb=>F b\/G b:=by
 refine h.put (jd.loc hC) i hd (λj a=>?_) ?_ (jd.loc hC i)
 ·unfold jd;by_cases hS:S j
  ·rw[zC (.inl hS),zC hS]
  ·rw[zB (λh=>hS (h.resolve_right a)),zB hS]
 ·unfold jd;rw[zC (.inr rfl)];exact hi
theorem jd.all {L:Type}{C:L->Hp->Rg->Prop}{S:L->Prop}{F:Rg}(h:Sep (jd C S) U F)(hS:∀i,S i):Sep C U F:=by
 have:jd C S=C:=by
  funext i;unfold jd;rw[zC (hS i)]
 rw[this]at h;exact h
theorem jd.one {L:Type}{C:L->Hp->Rg->Prop}(S:L->Prop)(l:L)(h:∀i,S i->C i U λ_=>False):Sep (jd C S) U λ_=>False:=by
 refine⟨λ_=>l,λi=>?_⟩;have:(λ(b:Nat)=>False/\l=i)=λ_=>False:=by funext b;simp
 rw[this];unfold jd;by_cases hS:S i
 ·rw[zC hS];exact h i hS
 ·rw[zB hS];trivial
theorem OH {tb:List bZ}:∀v∈fT tb,dV v=true:=by
 intro v hv;simp only[fT,List.mem_flatMap]at hv;obtain⟨c,_,a⟩:=hv;simp at a;rcases a with rfl|rfl|rfl<;>rfl
theorem UM {s:Sl}{xs:List (Int×Int×Int)}(ha:hO U s xs)(hv:Qe xs=true){i:Nat}{c:bZ}(hc:(xs.map ZS)[i]?=some c):xs[i]?=some ((c.size:Int),(c.aF:Int),(c.batch:Int))/\c.ok:=by
 rw[zd,nT]at hc;obtain⟨⟨x,y,z⟩,b,rfl⟩:=hc;obtain⟨c,a,j,d,e,g⟩:=H4 (((Z6 xs).1 hv).2.2.1 i _ b);simp only at d e g;rw[j,b,d,e,g];exact⟨rfl,a⟩
theorem Vm {s:Sl}{xs:List (Int×Int×Int)}(ha:hO U s xs)(hv:Qe xs=true){R:Sl->Hp->Prop}(hR:∀s' σ',bK U σ'->cT s' 3 (fT (xs.map ZS)) σ' (λb=>U.size<=b)->R s' σ'):Wi.c s U R:=by
 refine Wi.o ?_;unfold Wi.v;have K:=(Z6 xs).1 hv;have z:=ha.1;have w:0<(xs.map ZS).length:=by rw[zl];omega
 have E:(xs.map ZS)[0]?=some (xs.map ZS)[0]:=cW w;obtain⟨L,d,a,_⟩:=ha.2 0 _ _ _ (UM ha hv E).1;refine cE (by rw[a];rfl) (nw (cs:=[]) λv A e1 D=>?_);have x:=ZI ha e1;refine(bW.nil v (λb=>U.size<=b) 3 (some ⟨U.size,0,none⟩)).app (ys:=fT (xs.map ZS)) rfl (by rw[Vk,zl];omega) ?_ OH aC aC O λs' B J C g=>hR s' B (Ext.fresh e1 C λi r=>r) ?_
 ·rw[a];intro j u hu;have m:=(cX.1 hu).1;rw[Vk,zl]at m;have r:j/3<(xs.map ZS).length:=by rw[zl];omega
  have p:(xs.map ZS)[j/3]?=some (xs.map ZS)[j/3]:=cW r;generalize (xs.map ZS)[j/3]=c at p;have e:=HL p;obtain⟨b,o,y,_,H,F,G⟩:=x.2 (j/3) _ _ _ (UM ha hv p).1;rw[a]at y;cases y;rw[add_lit];rcases(by omega:j=3*(j/3)\/j=3*(j/3)+1\/j=3*(j/3)+2)with hj|hj|hj
  ·rw[hj]at hu;rw[e.1]at hu;cases hu;rw[show d+j=d+j/3*3 by omega];exact H
  ·rw[hj]at hu;rw[e.2.1]at hu;cases hu;rw[show d+j=d+j/3*3+1 by omega];exact F
  ·rw[hj]at hu;rw[e.2.2]at hu;cases hu;rw[show d+j=d+j/3*3+2 by omega];exact G
 ·rw[r5]at g;refine aH.mono g.ig λb _ e=>?_;rcases e with h|h
  ·exact h
  ·omega
def eR (n room:Nat)(tb:List bZ):AR:={n:=n,room:=room,tb:=tb,S:=Go.Bu.gZ,st:=List.replicate n 0,ow:=λ_=>0,cD:=List.replicate tb.length [],cM:=List.replicate tb.length ⟨0,[]⟩,runs:=[]}
def iX (n room:Nat)(tb:List bZ)(i:Nat):AR:={eR n room tb with cD:=List.replicate i [],cM:=List.replicate i ⟨0,[]⟩}
def ko (xs:List (Int×Int×Int))(n:Nat)(room:Int):Int:=if Qe xs then(if 32<=n/\n%16=0/\0<=room/\room<=8 then 0 else 1)else 2
def S0:Lb->Prop
 | .dL | .cN | .cD _ | .cM _=>True
 | _=>False
theorem AW {i cp tp:Nat}{c:bZ}{ss:List cF}{t:fX}{ps:List (Nat×Nat)}{Gc Gt:Rg}{dL cN:Sl}(hpos:Y.eZ.length=i/\Y.fO.length=i)
 (h:Sep (fS A {Y with dL:=dL,cN:=cN,eZ:=Y.eZ++[cp],fO:=Y.fO++[tp]} (cJ A {Y with dL:=dL,cN:=cN,eZ:=Y.eZ++[cp],fO:=Y.fO++[tp]}) (ke Y)) U F)
 (hlc:A.cD.length=i) (hlt:A.cM.length=i) (hc:A.tb[i]?=some c) (hC:eU U Gc cp c ps ss) (hTf:jb U Gt tp c.batch A.room t) (d1:∀b,Gc b->¬F b) (d2:∀b,Gt b->¬F b) (d3:∀b,Gc b->¬Gt b) {K:aP}
 (hK:∀σ' Y',Ext F U σ'->Y'.p=Y.p->Y'.hs=Y.hs->Y'.eZ.length=i+1->Y'.fO.length=i+1->Sep (fS {A with cD:=A.cD++[ss],cM:=A.cM++[t]} Y' (cJ {A with cD:=A.cD++[ss],cM:=A.cM++[t]} Y') (ke Y')) σ' (λb=>(F b\/Gc b)\/Gt b)->K σ') :
 bT (some ⟨Y.p,0,none⟩) λa93=>eP (a93.add 5) (.slice dL.a dL.len dL.cap) U λv25=>bT (some ⟨Y.p,0,none⟩) λa95=>eP (a95.add 6) (.slice cN.a cN.len cN.cap) v25 K:=by
 have m:∀k,dK (cJ A {Y with dL:=dL,cN:=cN,eZ:=Y.eZ++[cp],fO:=Y.fO++[tp]} k):=λk=>cJ.loc k;refine aG (CV (Y:={Y with dL:=dL,cN:=cN,eZ:=Y.eZ++[cp],fO:=Y.fO++[tp]}) m h (i:=5) (by simp[ke]) λx e1 u=>aG (CV (Y:={Y with dL:=dL,cN:=cN,eZ:=Y.eZ++[cp],fO:=Y.fO++[tp]}) m u (i:=6) (by simp[ke]) λr e2 s=>?_));have j:=(eU.loc (c:=c) (ps:=ps) (ss:=ss) (p:=cp)).bS ((eU.loc (c:=c) (ps:=ps) (ss:=ss) (p:=cp)).bS hC e1 λb _ d e=>d1 b d e) e2 λb _ d e=>d1 b d e;have g:=(jb.loc (p:=tp) (batch:=c.batch) (room:=A.room) (t:=t)).bS ((jb.loc (p:=tp) (batch:=c.batch) (room:=A.room) (t:=t)).bS hTf e1 λb _ d e=>d2 b d e) e2 λb _ d e=>d2 b d e;have w:=Fq (cp:=cp) (tp:=tp) s hlc hlt (by simp only;rw[zn O,hpos.1,pT];rfl) (by simp only;rw[zn O,hpos.2,pT];rfl) hc j g d1 d2 d3;exact hK r {Y with dL:=dL,cN:=cN,eZ:=Y.eZ++[cp],fO:=Y.fO++[tp]} (e1.trans e2) rfl rfl (by simp[hpos.1]) (by simp[hpos.2]) w
theorem pq {cs:List Value}{σ':Hp}(hT:∀k,dK (T k))(h:Sep (fS A Y T cs) U F)(e:bK U σ'):Sep (fS A Y T cs) σ' F:=(Sep.loc (fS.loc hT)).bO h e
theorem AP {cs:List Value}(hT:∀k,dK (T k))(h:Sep (fS A Y T cs) U F):Sep (fS A Y T cs) U (Cut F U):=(Sep.loc (fS.loc hT)).cut h
theorem Fe (n room:Nat)(tb:List bZ)(i:Nat):({iX n room tb i with cD:=(iX n room tb i).cD++[[]],cM:=(iX n room tb i).cM++[⟨0,[]⟩]}:AR)=iX n room tb (i+1):=by
 unfold iX;simp only[←xU]
theorem FU (n room:Nat)(tb:List bZ):iX n room tb tb.length=eR n room tb:=rfl
theorem LS {i cp tp:Nat}{c:bZ}{ss:List cF}{t:fX}{ps:List (Nat×Nat)}{Gc Gt:Rg}{z:Nat}(hF:∀b,F b->z<=b/\b<U.size)(hpos:Y.eZ.length=i/\Y.fO.length=i)(hi:i<40)
 (h:Sep (fS A Y (cJ A Y) (ke Y)) U F) (hlc:A.cD.length=i) (hlt:A.cM.length=i) (hc:A.tb[i]?=some c) (hC:eU U Gc cp c ps ss) (hTf:jb U Gt tp c.batch A.room t) (d1:∀b,Gc b->¬F b/\z<=b/\b<U.size) (d2:∀b,Gt b->¬F b/\z<=b/\b<U.size) (d3:∀b,Gc b->¬Gt b) {J4:aP}
 (hK:∀σ' Y',Ext F U σ'->Y'.p=Y.p->Y'.hs=Y.hs->Y'.eZ.length=i+1->Y'.fO.length=i+1->Sep (fS {A with cD:=A.cD++[ss],cM:=A.cM++[t]} Y' (cJ {A with cD:=A.cD++[ss],cM:=A.cM++[t]} Y') (ke Y')) σ' (λb=>z<=b)->J4 σ') :
 eN U λS=>bT (some ⟨Y.p,0,none⟩) λa80=>fV S .s (a80.add 5) λ(t82:Sl)=>bT (some ⟨Y.p,0,none⟩) λa87=>fV S .s (a87.add 6) λ(t89:Sl)=>
  (Nw (.cells #[.pointer (some ⟨cp,0,none⟩)] 182 (0,0)) U λn84 v21=>And (S v21) <|
   (App t82 1 8 182 [.pointer none] ⟨some n84,1,1⟩ v21 λt85 v22=>And (S v22)<|Nw (.cells #[.pointer (some ⟨tp,0,none⟩)] 184 (0,0)) v22 λn91 v23=>And (S v23)<|App t89 1 8 184 [.pointer none] ⟨some n91,1,1⟩ v23 λt92 v24=>And (S v24) <|
   bT (some ⟨Y.p,0,none⟩) λa93=>eP (a93.add 5) (.slice t85.a t85.len t85.cap) v24 λv25=>bT (some ⟨Y.p,0,none⟩) λa95=>eP (a95.add 6) (.slice t92.a t92.len t92.cap) v25 λv26=>J4 v26) ∧
   (Nw (.cells #[.pointer (some ⟨tp,0,none⟩)] 184 (0,0)) v21 λn911 v27=>And (S v27)<|App t82 1 8 182 [.pointer none] ⟨some n84,1,1⟩ v27 λt851 v28=>And (S v28)<|App t89 1 8 184 [.pointer none] ⟨some n911,1,1⟩ v28 λt921 v29=>And (S v29) <|
   bT (some ⟨Y.p,0,none⟩) λa931=>eP (a931.add 5) (.slice t851.a t851.len t851.cap) v29 λv30=>bT (some ⟨Y.p,0,none⟩) λa951=>eP (a951.add 6) (.slice t921.a t921.len t921.cap) v30 λv31=>J4 v31)) ∧
  (Nw (.cells #[.pointer (some ⟨tp,0,none⟩)] 184 (0,0)) U λn912 v32=>And (S v32)<|Nw (.cells #[.pointer (some ⟨cp,0,none⟩)] 182 (0,0)) v32 λn841 v33=>And (S v33) <|
  App t82 1 8 182 [.pointer none] ⟨some n841,1,1⟩ v33 λt852 v34=>And (S v34)<|App t89 1 8 184 [.pointer none] ⟨some n912,1,1⟩ v34 λt922 v35=>And (S v35) <|
  bT (some ⟨Y.p,0,none⟩) λa932=>eP (a932.add 5) (.slice t852.a t852.len t852.cap) v35 λv36=>bT (some ⟨Y.p,0,none⟩) λa952=>eP (a952.add 6) (.slice t922.a t922.len t922.cap) v36 λv37=>J4 v37):=by
 have H:∀k,dK (cJ A Y k):=λk=>cJ.loc k;have X:=eU.loc (c:=c) (ps:=ps) (ss:=ss) (p:=cp);have R:=jb.loc (p:=tp) (batch:=c.batch) (room:=A.room) (t:=t);refine⟨λm=>bX m Y.p (ke Y),(lA h).1,aG ⟨Y.dL,λm hm=>by rw[add_lit,hm.cell];rfl,aG ⟨Y.cN,λm hm=>by rw[add_lit,hm.cell];rfl,?_⟩⟩⟩;have D:∀(w:Hp) (F1:Rg) (b1 b2:Nat),bK U w->(∀b,F1 b->F b)->Sep (fS A Y (cJ A Y) (ke Y)) w F1->bX w b1 [.pointer (some ⟨cp,0,none⟩)]->bX w b2 [.pointer (some ⟨tp,0,none⟩)]->U.size<=b1->U.size<=b2 →
  App Y.dL 1 8 182 [.pointer none] ⟨some ⟨b1,0,none⟩,1,1⟩ w λt85 v28=>And (bX v28 Y.p (ke Y))<|App Y.cN 1 8 184 [.pointer none] ⟨some ⟨b2,0,none⟩,1,1⟩ v28 λt92 v29=>And (bX v29 Y.p (ke Y)) <|
   bT (some ⟨Y.p,0,none⟩) λa93=>eP (a93.add 5) (.slice t85.a t85.len t85.cap) v29 λv30=>bT (some ⟨Y.p,0,none⟩) λa95=>eP (a95.add 6) (.slice t92.a t92.len t92.cap) v30 λv31=>J4 v31:=by
  intro w F1 b1 b2 ew hF1 hw hb1 hb2 hz1 hz2;have y:∀b,F1 b->z<=b/\b<U.size:=λb d=>hF b (hF1 b d);have hsw:=ew.1;refine Bw H hw O O hb1 (λg=>by have:=y _ g;omega) λs1 v28 G P=>?_;have M:=(lA P).1;have N:Sep (fS A {Y with dL:=s1,eZ:=Y.eZ++[cp]} (cJ A {Y with dL:=s1,eZ:=Y.eZ++[cp]}) (ke Y)) v28 (Grow F1 w):=P;refine⟨M,?_⟩;have ag:Sep (fS A {Y with dL:=s1,eZ:=Y.eZ++[cp]} (cJ A {Y with dL:=s1,eZ:=Y.eZ++[cp]}) (ke Y)) v28 (λb=>F1 b\/w.size<=b):=N;have L:=G.bU hb2 λg=>by have:=y _ g;omega
  have hb2lt:=hb2.lt;refine DH ag aC aC L (λg=>by
   rcases g with g|g
   ·have:=y _ g;omega
   ·omega) λs2 v29 e29 ab=>?_
  refine⟨(lA ab).1,?_⟩;have J:∀b,(F1 b\/w.size<=b)->F b\/U.size<=b:=λb d=>by
   rcases d with d|d
   ·exact .inl (hF1 b d)
   ·exact .inr O
  have j:Ext F U v29:=((bK.to ew).trans (G.sub hF1)).dS e29 J;have V:=X.bS hC j λb _ d g=>(d1 b d).1 g;have ae:=R.bS hTf j λb _ d g=>(d2 b d).1 g;have hs28:=G.1;refine AW (F:=Grow (λb=>F1 b\/w.size<=b) v28) hpos ab hlc hlt hc V ae (λb d g=>?_) (λb d g=>?_) d3 λw2 Y' e2 p1 p2 p3 p4 h2=>?_
  ·have:=d1 b d;rcases g with(g|g)|g
   ·exact this.1 (hF1 b g)
   ·omega
   ·omega
  ·have:=d2 b d;rcases g with(g|g)|g
   ·exact this.1 (hF1 b g)
   ·omega
   ·omega
  ·refine hK w2 Y' (j.dS e2 λb d=>?_) p1 p2 p3 p4 ((Sep.loc (fS.loc (λk=>cJ.loc k))).mono h2 λb _ d=>?_)
   ·rcases d with(d|d)|d
    ·exact .inl (hF1 b d)
    ·exact .inr O
    ·exact .inr O
   ·have hz0:z<=U.size:=by have:=(d1 _ hC.fp);omega
    rcases d with(((d|d)|d)|d)|d
    ·exact(y b d).1
    ·omega
    ·omega
    ·exact(d1 b d).2.1
    ·exact(d2 b d).2.1
 have S0:∀{w:Hp},bK U w->bX w Y.p (ke Y):=λe=>e.bU (lA h).1 id;refine⟨nw (cs:=[.pointer (some ⟨cp,0,none⟩)]) λv21 z21 u aa=>⟨S0 u,?_,?_⟩,nw (cs:=[.pointer (some ⟨tp,0,none⟩)]) λv32 z32 C b32=>⟨S0 C,nw (cs:=[.pointer (some ⟨cp,0,none⟩)]) λv33 z33 B aj=>⟨S0 (Ext.trans C B),?_⟩⟩⟩
 ·-- row,box,row
  have h21:=pq H h u;refine Bw H h21 O O aa (λg=>by have:=hF _ g;omega) λs1 v22 Q W=>⟨(lA W).1,?_⟩;have Z:Sep (fS A {Y with dL:=s1,eZ:=Y.eZ++[cp]} (cJ A {Y with dL:=s1,eZ:=Y.eZ++[cp]}) (ke Y)) v22 (Grow F v21):=W;have ah:=AP (λk=>cJ.loc k) Z;refine nw (cs:=[.pointer (some ⟨tp,0,none⟩)]) λv23 z23 E ak=>?_;have ac:=pq (λk=>cJ.loc k) ah E;refine⟨(lA ac).1,DH ac aC aC ak (λg=>by have:=g.2;omega) λs2 v24 ai ad=>⟨(lA ad).1,?_⟩⟩;have hs22:=Q.1;have hs23:=E.1;have r:∀b,Cut (Grow F v21) v22 b->F b\/U.size<=b:=λb d=>by
   rcases d.1 with h|h
   ·exact .inl h
   ·exact .inr O
  have j:Ext F U v24:=((((bK.to u).trans Q).jx E)).dS ai r;have af:=X.bS hC j λb _ d g=>(d1 b d).1 g;have K:=R.bS hTf j λb _ d g=>(d2 b d).1 g;refine AW (F:=Grow (Cut (Grow F v21) v22) v23) hpos ad hlc hlt hc af K (λb d g=>?_) (λb d g=>?_) d3 λw2 Y' e2 p1 p2 p3 p4 h2=>?_
  ·have:=d1 b d;rcases g with g|g
   ·rcases g.1 with g|g
    ·exact this.1 g
    ·omega
   ·omega
  ·have:=d2 b d;rcases g with g|g
   ·rcases g.1 with g|g
    ·exact this.1 g
    ·omega
   ·omega
  ·refine hK w2 Y' (j.dS e2 λb d=>?_) p1 p2 p3 p4 ((Sep.loc (fS.loc (λk=>cJ.loc k))).mono h2 λb _ d=>?_)
   ·rcases d with d|d
    ·exact r b d
    ·exact .inr O
   ·have hz0:z<=U.size:=by have:=(d1 _ hC.fp);omega
    rcases d with((d|d)|d)|d
    ·rcases r b d with h|h
     ·exact(hF b h).1
     ·omega
    ·omega
    ·exact(d1 b d).2.1
    ·exact(d2 b d).2.1
 ·-- box,row,row
  refine nw (cs:=[.pointer (some ⟨tp,0,none⟩)]) λv27 z27 x b27=>⟨S0 (Ext.trans u x),?_⟩;exact D v27 F U.size v21.size (Ext.trans u x) (λb d=>d) (pq H (pq H h u) x) (x.bU aa id) b27 (zD _) O
 ·exact D v33 F v32.size U.size (Ext.trans C B) (λb d=>d) (pq H (pq H h C) B) aj (B.bU b32 id) O (zD _)
theorem wm {P:Hp->Rg->Prop}(hl:dK P){a:Nat}(h:P U λb=>a<=b):P U λb=>a<=b/\b<U.size:=hl.mono h λb d e=>⟨e,d⟩
theorem Pg {n room:Nat}{tb:List bZ}(h1:32<=n)(h2:n<=1024)(h3:n%16=0)(h4:room<=8)(h5:1<=tb.length)(h6:tb.length<=40)(h7:∀c∈tb,c.ok)(hc:Y.eZ.length=tb.length)(ht:Y.fO.length=tb.length):eO (eR n room tb) Y:=
 ⟨hc,ht,by simp[eR],by simp[eR],h5,h6,h1,h2,h3,by simp[eR],h4,h7⟩
theorem MD {s:Sl}{xs:List (Int×Int×Int)}(ha:hO U s xs)(hS:dJ U H hs sp)(room:Int){R:Option Addr->Int->Hp->Prop}
 (h0:ko xs sp.st.length room≠0->∀σ',bK U σ'->R none (ko xs sp.st.length room) σ')
 (h1:ko xs sp.st.length room=0->∀σ' Y,bK U σ'->Y.hs=hs->dE σ' (λb=>U.size<=b) Y (eR sp.st.length room.toNat (xs.map ZS)) (cJ (eR sp.st.length room.toNat (xs.map ZS)) Y)->R (some ⟨Y.p,0,none⟩) 0 σ') :
 QC.c s (some ⟨hs,0,none⟩) room U R:=by
 refine QC.o ?_;unfold QC.v;have hn2:sp.st.length<=1024:=by obtain⟨q,r,l,B,h⟩:=hS;exact h.n2
 refine HO ha λv e=>?_;cases hv:Qe xs
 ·have e1:ko xs sp.st.length room=2:=by unfold ko;rw[hv];rfl
  have:=h0 (by rw[e1];decide) v e;rw[e1]at this;exact cB rfl this
 have eE:ko xs sp.st.length room=if 32<=sp.st.length/\sp.st.length%16=0/\0<=room/\room<=8 then 0 else 1:=by unfold ko;rw[hv,zC rfl]
 refine cE rfl (CI (hS.bO e) ?_);have D:¬(32<=sp.st.length/\sp.st.length%16=0/\0<=room/\room<=8)->R none 1 v:=λhn=>by
  rw[zB hn]at eE;have:=h0 (by rw[eE];decide) v e;rw[eE]at this;exact this
 have tm:(((sp.st.length:Nat):Int).tmod 16)=((sp.st.length%16:Nat):Int):=by rw[Qz O];simp
 refine bR.intro (cR (λc1=>bR.intro (cB rfl (bR.intro (cB rfl (cB rfl (D O)))))) λc1=>nz aB ?_);rw[tm,LQ];refine bR.intro (cY (λc2=>bR.intro (cB rfl (cB rfl (D (λh=>by have:=h.2.1;simp[this]at c2))))) λc2=>?_);have c2':sp.st.length%16=0:=by simpa using c2
 refine bR.intro (cR (λc3=>cB rfl (D O)) λc3=>cR (λc4=>D O) λc4=>?_);obtain⟨X,rfl⟩:=zY (show 0<=room by omega);rw[zC O]at eE;have h1:=h1 eE;simp only[dC]at h1;have hva:=(Z6 xs).1 hv;have Q:=ZI ha e;have hn1:32<=sp.st.length:=by omega
 generalize sp.st.length=n at *;have hlen:s.len=(xs.map ZS).length:=by rw[zl];exact ha.1
 have hcl:∀{σ':Hp} {i:Nat} {c:bZ},hO σ' s xs->(xs.map ZS)[i]?=some c->xs[i]?=some ((c.size:Int),(c.aF:Int),(c.batch:Int))/\c.ok:=λh M=>UM h hv M;have J:1<=(xs.map ZS).length/\(xs.map ZS).length<=40:=by rw[zl];omega
 refine Vm Q hv λdB v5 e5 Z=>Mc λV op e6 hop hP=>qZ λA z7 e7 hm=>?_;generalize htbd:xs.map ZS=tb at *;refine nw (cs:=[.slice dB.a dB.len dB.cap,.pointer (some ⟨hs,0,none⟩),.pointer none,.pointer none,.pointer (some ⟨op,0,none⟩),.slice none 0 0,.slice none 0 0,.map (some V.size)]) λv8 z8 e8 b8=>?_;refine Go.Bu.rk _ (λg=>absurd ⟨O,O⟩ g) λn' hn' _ _ v9 sb ms e9 hB hfp=>?_;have hnn:n=n':=by omega
 subst hnn;have b9:=e9.bU b8 id;refine aG (b9.s1 aA λv10 gG b10=>J6 O O c2' λK tp tq S htp htq hTk=>aG ((S.bU b10 id).s1 aA λv12 N b12=>?_));have s5:=e5.1;have s6:=e6.1;have s9:=e9.1;have s10:=gG.1;have s11:=S.1;have s12:=N.1;have hb8:=b8.lt;have x9:Ext (· = A.size) v9 v12:=(gG.ext.trans (bK.to S)).trans N.ext;have x5:Ext (· = A.size) v5 v12:=(bK.to (Ext.trans (Ext.trans (Ext.trans e6 e7) e8) e9)).trans x9;have x6:Ext (· = A.size) V v12:=(bK.to (Ext.trans (Ext.trans e7 e8) e9)).trans x9;have x7:Ext (· = A.size) A v12:=(bK.to (Ext.trans e8 e9)).trans x9;have x11:Ext (· = A.size) K v12:=N.ext;have p1:=aH.bS (wm aH Z) x5 λb _ g d=>by omega
 have p2:=(iQ.loc (p:=op) (ow:=λ_=>0)).bS (wm iQ.loc hP) x6 λb _ g d=>by omega
 have p3:dI v12 V.size .i64 bN []:=x7.fK (hm _ _) O;have p5:r6 v8.size n Go.Bu.gZ v12 (λb=>v8.size<=b/\b<v9.size):=(r6.loc _ _ _).bS (wm (r6.loc _ _ _) ⟨sb,ms,hB,hfp⟩) x9 λb _ g d=>by omega
 have p6:lz tp (List.replicate n 0) v12 (λb=>v10.size<=b/\b<K.size):=(lz.loc _ _).bS (wm (lz.loc _ _) ⟨tq,hTk,htp,htq⟩) x11 λb _ g d=>by omega
 let Y0:Lay:={p:=A.size,hs:=hs,fr:=v8.size,tr:=tp,op:=op,rn:=V.size,dB:=dB,dL:=⟨none,0,0⟩,cN:=⟨none,0,0⟩,eZ:=[],fO:=[]}
 have b12':bX v12 A.size (ke Y0):=b12
 let Cf:=fS (iX n X tb 0) Y0 (cJ (iX n X tb 0) Y0) (ke Y0)
 have u:∀i,dK (Cf i):=fS.loc λk=>cJ.loc k;have q0:Sep (jd Cf S0) v12 λ_=>False:=jd.one S0 .hd λi W=>by
  cases i<;>first|exact W.elim|exact bW.nil _ _ _ _|exact trivial
 have q1:=jd.put u q0 .dB (G:=λb=>v.size<=b/\b<v5.size) (λb g d=>d) p1;have q2:=jd.put u q1 .own (G:=λb=>v5.size<=b/\b<V.size) (λb g d=>by
  rcases d with d|d
  ·exact d
  ·omega) p2
 have q3:=jd.put u q2 .runs (G:=λb=>b=V.size) (λb g d=>by
  rcases d with(d|d)|d
  ·exact d
  ·omega
  ·omega) ⟨rfl,p3⟩
 have q4:=jd.put u q3 .hd (G:=λb=>b=A.size) (λb g d=>by
  rcases d with((d|d)|d)|d
  ·exact d
  ·omega
  ·omega
  ·omega) ⟨rfl,b12'⟩
 have q5:=jd.put u q4 .free (G:=λb=>v8.size<=b/\b<v9.size) (λb g d=>by
  rcases d with(((d|d)|d)|d)|d
  ·exact d
  ·omega
  ·omega
  ·omega
  ·omega) p5
 have q6:=jd.put u q5 .m6 (G:=λb=>v10.size<=b/\b<K.size) (λb g d=>by
  rcases d with((((d|d)|d)|d)|d)|d
  ·exact d
  ·omega
  ·omega
  ·omega
  ·omega
  ·omega) p6
 have q7:Sep Cf v12 λb=>v.size<=b:=by
  refine(Sep.loc u).mono (jd.all q6 λi=>?_) λb _ d=>?_
  ·cases i<;>simp[S0]
  ·rcases d with(((((d|d)|d)|d)|d)|d)|d
   ·exact d.elim
   ·omega
   ·omega
   ·omega
   ·omega
   ·omega
   ·omega
 have e12:bK v v12:=Ext.fresh e5 x5 λi W=>by omega
 have szv:=e.1;refine Z5 (a:=bN) (λ(t:Int) w=>∃(i:Nat) (Y:Lay),t=(i:Int)/\i<=tb.length/\Y.p=A.size/\Y.hs=hs/\Y.eZ.length=i/\Y.fO.length=i/\bK v w/\Sep (fS (iX n X tb i) Y (cJ (iX n X tb i) Y) (ke Y)) w (λb=>v.size<=b)) (λt _=>tb.length-t.toNat)
  ⟨0,Y0,rfl,O,rfl,rfl,rfl,rfl,e12,q7⟩ ?_
 rintro t w ⟨i,Y,rfl,W,hYp,ac,aa,hYt,ew,y⟩;refine cR (λhlt=>?_) λhge=>?_
 ·have hi':i<tb.length:=by omega
  have M:tb[i]?=some tb[i]:=cW hi';generalize tb[i]=c at M;have haw:=ZI Q ew;obtain⟨hxi,hok⟩:=hcl haw M;refine vn haw hxi ?_;refine nw (cs:=[.int .i64 0,.int .i64 0,.int .i64 0]) λv14 hz14 e14 b14=>b14.s1 aA λv15 o15 b15=>b15.s1 aA λv16 o16 b16=>b16.s1 aA λv17 o17 b17=>?_;have P:bK w v17:=Ext.fresh (Ext.fresh (Ext.fresh e14 o15.ext λi W=>O) o16.ext λi W=>O) o17.ext λi W=>by omega
  have x:bX v17 w.size [.int .i64 (c.size:Int),.int .i64 (c.aF:Int),.int .i64 (c.batch:Int)]:=b17;refine x.rI rfl (x.rI rfl (x.rI rfl (OB hok λv18 cp C hcp1 hcp2 hCe=>?_)));have b18:=C.bU x id;obtain⟨_,_,_,_,_,_,hbt1,ab⟩:=id hok;refine b18.rI rfl (FJ hbt1 ab O λv19 tp2 E htp1 htp2 hTf=>Jn.intro ?_);have s14:=P.1;have s18:=C.1;have s19:=E.1;have sw:=ew.1;have hT:∀k,dK (cJ (iX n X tb i) Y k):=λk=>cJ.loc k;have h19:=pq hT (pq hT (pq hT (AP hT y) P) C) E;have L:=hCe.bO E;rw[←hYp];refine LS (F:=Cut (λb=>v.size<=b) w) (z:=v.size) (ss:=[]) (t:=⟨0,[]⟩) (λb g=>⟨g.1,by have:=g.2;omega⟩) ⟨aa,hYt⟩ O h19 (by simp[iX]) (by simp[iX]) M L hTf (λb g=>?_) (λb g=>?_) (λb g hb2=>O) λw2 Y' e2 y1 y2 y3 y4 h2=>?_
  ·subst g;exact⟨λd=>by have:=d.2;omega,O,O⟩
  ·subst g;exact⟨λd=>by have:=d.2;omega,O,O⟩
  ·rw[Fe]at h2;exact cQ (m:=i+1) O O ⟨⟨i+1,Y',rfl,O,y1,y2.trans ac,y3,y4,Ext.fresh (Ext.trans (Ext.trans (Ext.trans ew P) C) E) e2 λb g=>g.1,h2⟩,O⟩
 ·have:i=tb.length:=by omega
  subst this;rw[FU,F3]at y;have hl:eO (eR n X tb) Y:=Pg hn1 hn2 c2' O J.1 J.2 (λc M=>by
   obtain⟨j,hj⟩:=zO M;exact(hcl Q hj).2) aa hYt
  have:=h1 w Y (Ext.trans e ew) ac ⟨hl,λk=>cJ.loc k,(Sep.loc (AC.loc λk=>cJ.loc k)).mono y λb _ g=>ky szv g⟩;rw[hYp]at this;exact this
end Go.Ar
namespace Go.Vc
open Go
variable {U:Hp}{F:Rg}{s:Sl}{sz:Nat}{xs:List Value}
def dF (s:Sl)(sz:Nat)(xs:List Value):Hp->Rg->Prop:=λh F=>xs.length=s.len*sz/\(s.len=0/\s.cap=0\/∃b o cs,F b/\s.a=some ⟨b,o,none⟩/\bX h b cs/\s.len<=s.cap/\cs.length=o+s.cap*sz/\(cs.drop o).take xs.length=xs)
theorem dF.loc (s:Sl)(sz:Nat)(xs:List Value):dK (dF s sz xs):=λU g F G h d a=>by
 refine⟨h.1,h.2.imp id ?_⟩;rintro⟨b,o,cs,hq,ha,⟨e,he⟩,r⟩;have:=a b (bX.lt ⟨e,he⟩) hq;exact⟨b,o,cs,this.1,ha,⟨e,this.2.trans he⟩,r⟩
theorem dF.nil (h:Hp)(F:Rg)(sz:Nat)(a:Option Addr):dF ⟨a,0,0⟩ sz [] h F:=⟨by simp,.inl ⟨rfl,rfl⟩⟩
theorem bW.o (h:bW s sz xs U F):dF s sz xs U F:=⟨h.1,h.2.imp id λ⟨b,i,j,e,g,a,m,d⟩=>⟨b,0,i,j,e,g,a,O,by simpa using d⟩⟩
theorem dF.ig (h:dF s sz xs U F):cT s sz xs U F:=by
 refine⟨h.1,?_⟩;rcases h.2 with⟨hl,_⟩|⟨b,o,cs,hq,ha,hb,_,_,ht⟩
 ·left;have:=h.1;rw[hl]at this;simpa using this
 ·refine .inr ⟨b,o,cs,hq,ha,hb.q,λj a=>?_⟩;rw[←ht,zj,kj,zC a]
theorem dF.cap (h:dF s sz xs U F):s.len<=s.cap:=by
 rcases h.2 with⟨q1,q2⟩|⟨_,_,_,_,_,_,q,_⟩
 ·omega
 ·exact q
theorem dF.app {x:Sl}{bytes e:Nat}{zs ys:List Value}{K:Sl->Hp->Prop}(ho:dF s sz xs U F)(hz:zs.length=sz)
 (hy:ys.length=x.len*sz) (hr:Rd U x.a ys) (h1:∀v∈ys,dV v=true) (hb:(s.len+x.len)*bytes<=2^46) (hc:s.len+x.len<=2^62)
 (hx:0<x.len) (hK:∀s' h',s'.len=s.len+x.len->Ext F U h'->dF s' sz (xs++ys) h' (Grow F U)->K s' h'):App s sz bytes e zs x U K:=by
 refine⟨xs,ys,ho.1,hy,ho.ig.rd,hr,h1,hb,hc,λg=>?_,λr c i=>?_⟩
 ·rcases ho.2 with⟨hl,hcap⟩|⟨b,o,cs,hQ,ha,hk,hle,hcl,ht⟩
  ·omega
  ·rw[ha];simp only;rw[add_lit];have u:(s.len+x.len)*sz<=s.cap*sz:=lq _ g;rw[zk]at u;have d:=ho.1;refine Vu hk O λh' m p=>hK _ h' rfl (Ext.eD m hQ) ⟨?_,.inr ⟨b,o,_,.inl hQ,rfl,p,g,?_,?_⟩⟩
   ·simp[d,hy,zk]
   ·simp;omega
   ·rw[zQ,d,zz];have e1:(cs.take (o+s.len*sz)++ys++cs.drop (o+s.len*sz+ys.length)).drop o=(cs.drop o).take (s.len*sz)++(ys++cs.drop (o+s.len*sz+ys.length)):=by
     rw[jW,List.drop_append_of_le_length (by rw[zZ];omega),List.drop_take]
     congr 2;omega
    have j:(cs.drop o).take (s.len*sz)=xs:=by rw[←d];exact ht
    rw[e1,j,←jW,nt aE,mi aE]
 ·refine hK _ _ rfl (Ext.push _ _ _) ⟨by simp[ho.1,hy,zk],.inr ⟨U.size,0,xs++ys++(List.replicate (c-(s.len+x.len)) zs).flatten,.inr (zD _),rfl,⟨e,by simp⟩,i,?_,?_⟩⟩
  ·simp only[zQ,tG,sv,vd,ho.1,hy,hz,←zk];rw[zH];congr 1;omega
  ·rw[List.drop_zero,nt aA,mi aA]
theorem dF.Aw {x:Sl}{bytes e:Nat}{zs:List Value}{K:Sl->Hp->Prop}(ho:dF s sz xs U F)(hx:x.len=0)(hb:s.len*bytes<=2^46)(hc:s.len<=2^62)(hK:dF ⟨s.a,s.len,s.cap⟩ sz xs U F->K ⟨s.a,s.len,s.cap⟩ U):App s sz bytes e zs x U K:=by
 have d:=ho.cap;refine⟨xs,[],ho.1,by simp[hx],ho.ig.rd,by cases x.a<;>simp[Rd],by simp,by rw[hx];exact hb,O,λg=>?_,λb=>absurd O b⟩
 rw[hx];have:=hK ho;cases ha:s.a<;>(rw[ha]at this;exact this)
theorem dF.from (h:dF s sz xs U F){lo:Nat}(h1:lo<=s.len):dF ⟨if s.cap=lo then s.a else s.a.map (·.add (lo*sz)),s.len-lo,s.cap-lo⟩ sz (xs.drop (lo*sz)) U F:=by
 have d:=h.1;refine⟨by rw[jM,d,Nat.sub_mul],?_⟩;rcases h.2 with⟨q1,q2⟩|⟨b,o,cs,hq,ha,hb,hle,hcl,ht⟩
 ·left;simp only;omega
 ·by_cases hm:s.cap=lo
  ·left;simp only;omega
  ·refine .inr ⟨b,o+lo*sz,cs,hq,by simp only[zB hm,ha,zc,add_lit],hb,by simp only;omega,?_,?_⟩
   ·have:lo*sz<=s.cap*sz:=lq _ O;rw[hcl,Nat.sub_mul];omega
   ·rw[jM]
    conv=>rhs;rw[←ht]
    rw[List.drop_take,List.drop_drop]
end Go.Vc
namespace Go.Ar
open Go Go.Vc Go.Proofs
variable {U:Hp}{F G:Rg}{Y:gp}{tb:List bZ}{bud:Nat}{ls:List Li}{b k:Nat}{l:Li}{c:bZ}
theorem JP {s:Sl}{xs:List (Int×Int×Int)}(ha:hO U s xs)(cZ:Int){R:Option Addr->Int->Hp->Prop}(h0:Qe xs=false->∀σ',bK U σ'->R none 2 σ')
 (h1:Qe xs=true->¬(0<=cZ/\cZ<=65536)->∀σ',bK U σ'->R none 1 σ')
 (h2:Qe xs=true->0<=cZ->cZ<=65536->∀σ' Y,bK U σ'->dX σ' (λq=>U.size<=q) Y (xs.map ZS) cZ.toNat (List.replicate (xs.map ZS).length gS)->R (some ⟨Y.p,0,none⟩) 0 σ') :
 QB.c s cZ U R:=by
 refine QB.o ?_;unfold QB.v;refine HO ha λv e=>?_;cases hv:Qe xs
 ·exact cB rfl (h0 hv v e)
 refine cE rfl (bR.intro (cR (λA=>cB rfl (h1 hv O v e)) λA=>cR (λu=>h1 hv O v e) λu=>?_));have j:=ZI ha e;have C:=(Z6 xs).1 hv;refine Vm j hv λdB b e1 g=>qZ λd E e2 x=>nw (cs:=[.slice dB.a dB.len dB.cap,.int .i64 cZ,.map (some b.size)]) λv3 F m z=>?_;have s1:=e1.1;have s0:=e.1;refine h2 hv O O v3 ⟨d.size,b.size,dB,[]⟩ (((e.trans e1).trans e2).trans m) ⟨by rw[zl];omega,λc y=>?_,by simp,by simp,?_⟩
 ·obtain⟨i,B⟩:=zO y;exact(UM j hv B).2
 ·refine⟨λq=>if q=d.size then .hd else if q=b.size then .mp else .dB,λi=>?_⟩
  cases i with
  | hd=>
   refine⟨⟨by show U.size<=d.size;omega,by simp⟩,?_⟩;have:((cZ.toNat:Nat):Int)=cZ:=by omega
   simp only[Ak,this];exact z
  | mp=>
   refine⟨⟨by show U.size<=b.size;omega,?_⟩,m.fK (x .i64 .p) id⟩;show(if b.size=d.size then rD.hd else if b.size=b.size then rD.mp else rD.dB)=.mp
   rw[zB O,zC rfl]
  | dB=>
   have w:=aH.bO (aH.bO (aH.mono g (G:=λq=>v.size<=q/\q<b.size) λq r D=>⟨D,r⟩) e2) m;refine aH.mono w λq _ r=>⟨O,?_⟩;show(if q=d.size then rD.hd else if q=b.size then rD.mp else rD.dB)=.dB
   rw[zB O,zB O]
  | li k=>
   simp only[CC,nJ,iI,List.find?_nil,Option.map_none];cases hk:(List.replicate (xs.map ZS).length gS)[k]? with
   | none=>trivial
   | some l=>simp only[lJ]at hk;split at hk<;>simp_all
def jP (f:Nat->Nat)(l:List (Int×Option Addr)):Nat:=(l.map λx=>f x.1.toNat).sum
theorem C3 (f:Nat->Nat):∀{l:List (Int×Option Addr)} {n:Int} {x:Option Addr},(l.map (·.1)).Nodup->(n,x)∈l->jP f l=f n.toNat+jP f (l.filter λy=>!(y.1==n))
 | [],_,_,_,h=>by simp at h
 | y::l,n,x,hn,h=>by
  simp only[zU,zt]at hn;rcases zX.1 h with h1|h1
  ·subst h1;have:l.filter (λy=>!(y.1==n))=l:=by
    rw[oV];intro z hz;have:z.1≠n:=λe=>hn.1 (zF.2 ⟨z,hz,e⟩);simpa using this
   rw[wO aA,this];simp[jP]
  ·have a:y.1≠n:=λe=>hn.1 (zF.2 ⟨_,h1,e.symm⟩);rw[wA (by simpa using a)];have:=C3 f hn.2 h1;simp only[jP,zU,m7]at *;omega
theorem JD (n a v:Nat):((List.range n).map λj=>if j=a then v else 0).sum=if a<n then v else 0:=by
 induction n with
 | zero=>simp
 | succ n ih=>
  rw[pN,lI,List.sum_append,ih];by_cases h:a=n
  ·subst h;simp
  ·by_cases h2:a<n
   ·rw[zC h2,zC O];simp[Ne.symm h]
   ·rw[zB h2,zB O];simp[Ne.symm h]
theorem Jg (l:List Nat)(f g:Nat->Nat):(l.map λj=>f j+g j).sum=(l.map f).sum+(l.map g).sum:=by
 induction l with
 | nil=>rfl
 | cons x l ih=>simp only[zU,m7,ih];omega
theorem Ds (f:Nat->Nat)(n:Nat):∀(ps:List (Nat×Nat)),(ps.map (·.1)).Nodup->(∀x∈ps,x.1<n)->(ps.map λx=>f x.1).sum=((List.range n).map λj=>if j∈ps.map (·.1)then f j else 0).sum
 | [],_,_=>by
  have:((List.range n).map λj=>if j∈([]:List (Nat×Nat)).map (·.1)then f j else 0)=(List.range n).map λ_=>0:=by simp
  rw[this]
  induction n with
  | zero=>rfl
  | succ n a=>rw[pN,lI,List.sum_append];simp at *;exact a
 | x::ps,hn,hl=>by
  simp only[zU,zt]at hn;have a:=Ds f n ps hn.2 λy b=>hl y (by simp[b]);rw[zU,m7,a];have e:((List.range n).map λj=>if j∈(x::ps).map (·.1)then f j else 0)=(List.range n).map λj=>(if j=x.1 then f x.1 else 0)+(if j∈ps.map (·.1)then f j else 0):=by
   apply j5;intro j _;by_cases hj:j=x.1
   ·subst hj;rw[zC aA,zC rfl,zB hn.1];rfl
   ·rw[zB hj,zH];by_cases hm:j∈ps.map (·.1)
    ·rw[zC hm,zC (by simp only[zU,zX];exact .inr hm)]
    ·rw[zB hm,zB (by simp only[zU,zX,not_or];exact⟨hj,hm⟩)]
  rw[e,Jg,JD,zC (hl x aA)]
def oI (tb:List bZ)(ls:List Li)(k:Nat):Nat:=match tb[k]?,ls[k]? with
 | some c,some l=>c.size*l.os.length
 | _,_=>0
theorem H7:∀(tb:List bZ) (ls:List Li),ls.length=tb.length->QF tb ls=((List.range tb.length).map (oI tb ls)).sum
 | [],[],_=>rfl
 | c::tb,l::ls,h=>by
  have ih:=H7 tb ls (by simpa using h);simp only[QF]at ih;simp only[QF,List.zip_cons_cons,zU,m7,zW,ih,List.range_succ_eq_map,lV];rfl
 | [],_::_,h=>by simp at h
 | _::_,[],h=>by simp at h
theorem dX.nil (h:dX U F Y tb bud ls)(hf:iI Y.ps k=none)(hl:ls[k]?=some l):l=gS:=by
 obtain⟨G,_,a⟩:=h.sep.get (.li k);simp only[CC,nJ,hf,hl]at a;exact a
theorem dX.uW (h:dX U F Y tb bud ls):(Y.ps.map (·.1)).Nodup:=by
 have:=h.map.nodup;have e:(jz Y.ps).map (·.1)=(Y.ps.map (·.1)).map λ(n:Nat)=>(n:Int):=by simp[jz]
 rw[e]at this;exact List.Pairwise.of_map (λ(n:Nat)=>(n:Int)) (λa b d e=>d (by rw[e])) this
theorem dX.bytes (h:dX U F Y tb bud ls):jP (oI tb ls) (jz Y.ps)=QF tb ls:=by
 have e1:jP (oI tb ls) (jz Y.ps)=(Y.ps.map λx=>oI tb ls x.1).sum:=by simp[jP,jz,Function.comp_def]
 rw[e1,Ds _ tb.length _ h.uW h.keys,H7 _ _ h.len]
 congr 1
 apply j5;intro j hj;have a:=zh.1 hj;by_cases hm:j∈Y.ps.map (·.1)
 ·rw[zC hm]
 ·rw[zB hm];have g:iI Y.ps j=none:=by
   unfold iI;simp only[sS,oM,zV];exact λx d e=>hm (zF.2 ⟨x,d,e⟩)
  have b:ls[j]?=some (ls[j]'(by rw[h.len];exact a)):=cW _;have:=h.nil g b;unfold oI;rw[cW a,b,this];rfl
theorem A5:∀(tb:List bZ) (ls:List Li),(∀c∈tb,c.ok)->(∀l∈ls,fD l)->QF tb ls<=tb.length*131072
 | [],_,_,_=>by simp[QF]
 | _::_,[],_,_=>by simp[QF]
 | c::tb,l::ls,h1,h2=>by
  have ih:=A5 tb ls (λc a=>h1 c (by simp[a])) (λl b=>h2 l (by simp[b]));simp only[QF]at ih;simp only[QF,List.zip_cons_cons,zU,m7,zW];have a:=h1 c aA;unfold bZ.ok at a;have d:=(h2 l aA).many;have e:c.size*l.os.length<=512*256:=lp O d;omega
theorem NS (h:dX U F Y tb bud ls)(hok:∀l∈ls,fD l):QF tb ls<=5242880:=by
 have b:=A5 tb ls h.ok hok;have a:=h.mA;omega
theorem dX.ID (h:dX U F Y tb bud ls):∀l∈ls,fD l:=by
 intro l hl;obtain⟨k,a⟩:=zO hl;cases hf:iI Y.ps k with
 | none=>rw[h.nil hf a];exact fD.nil
 | some b=>
  obtain⟨G,_,d,_⟩:=h.tU hf a;exact d.2.1
theorem BZ (h:dX U F Y tb bud ls){R:aN}(hR:∀σ',bK U σ'->R ((QF tb ls:Nat):Int) σ'):XB.c (aW Y.p) U R:=by
 refine XB.o ?_;unfold XB.v;have hle:=NS h h.ID;have hT:=h.bytes;refine Uu h (cE rfl (aG (h.hd.rM rfl ?_)));refine uY (a:=bN) h.map (λg (z:Int) v=>∃n:Nat,z=(n:Int)/\n+jP (oI tb ls) g=QF tb ls/\(∀e∈g,e∈jz Y.ps)/\(g.map (·.1)).Nodup/\bK U v) ?_ ?_ ?_
 ·intro v hz e;exact⟨0,rfl,by rw[hT];omega,λe he=>he,h.map.nodup,e⟩
 ·rintro z v ⟨n,rfl,E,_,_,e⟩;simp only[jP,sG,List.sum_nil,zz]at E;rw[E];exact hR v e
 ·rintro g n x z v v' J ⟨m,rfl,E,j,B,e⟩ X ho hlt hJ;have V:bK U v':=e.only ho (.inr (zD _));have K:=h.bO V;have u:=j _ X;simp only[jz,zF,Prod.mk.injEq]at u;obtain⟨⟨k,b⟩,D,A,C⟩:=u;simp only at A C;subst A;subst C;have H:=h.keys _ D;simp only at H;have M:tb[k]?=some tb[k]:=cW H;have N:ls[k]?=some (ls[k]'(by rw[h.len];exact H)):=cW _;generalize tb[k]=c at M;generalize (ls[k]'(by rw[h.len];exact H))=l at N;have P:iI Y.ps k=some b:=BI h.map.nodup D;obtain⟨G,hG,hL,_⟩:=K.tU P N;obtain⟨_,hok,s,S,Q,W⟩:=hL;have L:s.len=l.os.length:=by have:=Q.1;simp[Wx]at this;omega
  have hb:oI tb ls k=c.size*l.os.length:=by unfold oI;rw[M,N]
  have r:=C3 (oI tb ls) B X;simp only[dC]at r;refine aG (K.hd.rS rfl (GM K.ji M (d:=0) O ?_));simp only[zP];refine aG (S.rS rfl ?_);have w:m+c.size*l.os.length+jP (oI tb ls) (List.filter (λy=>!(y.1==(k:Int))) g)=QF tb ls:=by
   have Z:=r;rw[hb]at Z;rw[←E,Z,uu]
  refine cQ (m:=c.size*l.os.length) (by simp only[L];simp) O (cQ (m:=m+c.size*l.os.length) O O (hJ _ v' rfl rfl ⟨_,rfl,w,λy hy=>j y (zI.1 hy).1,B.sublist (List.filter_sublist.map _),V⟩))
theorem Lr (h:dX U F Y tb bud ls){R:aO}(hR:∀σ',bK U σ'->R (decide (bud<QF tb ls)) σ'):XQ.c (aW Y.p) U R:=by
 refine XQ.o ?_;unfold XQ.v;have e:decide (((QF tb ls:Nat):Int)>(bud:Int))=decide (bud<QF tb ls):=by rw[decide_eq_decide];omega
 refine Jn.intro (Uu h (cB rfl (aG ⟨BZ h λσ' a=>(a.bU h.hd id).rI rfl ?_,h.hd.rI rfl (BZ h λσ' a=>?_)⟩)))
 ·rw[e];exact hR σ' a
 ·rw[e];exact hR σ' a
def xG (f:bZ->Li->List Int×Li)(fn:Nat):Prop:=∀{U:Hp} {G:Rg} {b:Nat} {l:Li} {c:bZ},iO b l U G->c.ok->∀{R:Sl->Hp->Prop},
 (∀s z σ',Ext (· = b) U σ'->U.size<=z->bW s 1 (Wx (f c l).1) σ' (λq=>U.size<=q/\q<z)->iO b (f c l).2 σ' (λq=>q=b\/z<=q)->R s σ') →
 VE Tryz.prog ⟨fn,#[],#[]⟩ [.pointer (some ⟨b,0,none⟩),.int .i64 (c.batch:Int)] [.one .s] U R
theorem Ll:xG Zy 218:=by
 intro U G b l c h hc R hR;refine oS (all := #[.pointer (some ⟨b,0,none⟩),.int .i64 (c.batch:Int)]) (by kernel_rfl) aA ?_;refine Ye.o ?_;unfold Ye.v;have j:=h;obtain⟨_,i,s,d,e,g⟩:=h;have a:s.len=l.os.length:=by have:=e.1;simp[Wx]at this;omega
 refine aG (d.rS rfl ?_);simp only[a];exact Ha j (zD _) hR
theorem OP:xG Kl 216:=by
 intro U G b l c h hc R hR;refine oS (all := #[.pointer (some ⟨b,0,none⟩),.int .i64 (c.batch:Int)]) (by kernel_rfl) aA ?_;refine Xm.o ?_;unfold Xm.v;have V:=h;obtain⟨_,g,s,A,Q,H⟩:=h;have o1:=g.low;have o2:=g.many;have o3:=g.lim;have w:=A3 hc g;unfold bZ.ok at hc;refine aG (A.rI rfl (cQ (m:=l.low+1) O O (nz aB (cQ (m:=(l.low+1)/2) (by rw[Yi O];omega) O ?_))));refine Ha V O λout z v e S M x=>?_;have J:=x;obtain⟨_,P,s1,d,r,F⟩:=x;have y:s1.len=(fU ((l.low+1)/2) l).2.os.length:=by have:=r.1;simp[Wx]at this;omega
 refine Jn.intro ?_;have i:∀(j:Hp) (lim:Nat),Ext (· = b) v j->lim=(if l.lim>c.batch then max (l.lim-c.batch) c.batch else l.lim)->bX j b (l9 s1 {(fU ((l.low+1)/2) l).2 with lim:=lim}) →
  bT (some ⟨b,0,none⟩) λD=>ja (D.add 0) j λC=>bT (some ⟨b,0,none⟩) λE=>eP (E.add 2) (.int .i64 ((C.len:Nat):Int)) j λv2=>R out v2:=by
  intro j lim e1 hlim a;refine aG (a.rS rfl (aG (a.s1 (by simp[l9]) λv2 o2 u=>?_)));have e2:=e1.trans o2.ext;have N:=d.lt;refine hR out z v2 (e.trans e2) S (aI.bS M e2 λq _ K L=>?_) ?_
  ·have:=A.lt;omega
  ·refine⟨.inl rfl,w,s1,?_,aH.bS r e2 λq _ K L=>K.2 L,F⟩;simp only[y]at u;subst hlim;exact u
 refine aG (d.rI rfl ?_);refine cR (λB=>?_) λB=>?_
 ·have p:l.lim>c.batch:=by simp only[fU]at B;omega
  refine aG (d.rI rfl (cQ (m:=l.lim-c.batch) (by simp only[fU];omega) O (aG (d.s1 (by simp[l9]) λj o1 a=>i j (max (l.lim-c.batch) c.batch) o1.ext (by rw[zC p]) ?_))));have:(if(c.batch:Int)>((l.lim-c.batch:Nat):Int)then(c.batch:Int)else((l.lim-c.batch:Nat):Int))=((max (l.lim-c.batch) c.batch:Nat):Int):=by split<;>omega
  rw[this]at a;exact a
 ·have p:¬l.lim>c.batch:=by simp only[fU]at B;omega
  exact i v l.lim (Ext.refl _ _) (by rw[zB p]) d
def ng (x:Nat×Sl):List Value:=[.int .i64 (x.1:Int),.slice x.2.a x.2.len x.2.cap]
def eV (l:List (Nat×Sl)):List Value:=l.flatMap ng
theorem Kg (l:List (Nat×Sl)):(eV l).length=l.length*2:=by
 induction l with
 | nil=>rfl
 | cons x l ih=>
  have e:eV (x::l)=ng x++eV l:=rfl;have e2:(ng x).length=2:=rfl;rw[e,zQ,ih,e2,zW];omega
theorem Ui (a b:List (Nat×Sl)):eV (a++b)=eV a++eV b:=by simp[eV]
theorem Uy {l:List (Nat×Sl)}:∀v∈eV l,dV v=true:=by
 intro v hv;obtain⟨p,_,a⟩:=List.mem_flatMap.1 hv;simp only[ng,zX,List.not_mem_nil,or_false]at a;rcases a with rfl|rfl<;>rfl
theorem Ig {l:List (Nat×Sl)}{i:Nat}{p:Nat×Sl}(h:l[i]?=some p){d:Nat}(hd:d<2):(eV l)[2*i+d]?=(ng p)[d]? := by
 induction l generalizing i with
 | nil=>simp at h
 | cons x l ih=>
  have e:eV (x::l)=ng x++eV l:=rfl;have e2:(ng x).length=2:=rfl;rw[e];cases i with
  | zero=>
   simp at h;subst h;rw[zg O];congr 1;omega
  | succ i=>
   rw[zn O,e2,show 2*(i+1)+d-2=2*i+d by omega];exact ih (by simpa using h)
def jS (ps:List (Nat×Sl))(bs:List Bt)(U:Hp)(D:Rg):Prop:=ps.length=bs.length/\∀(i:Nat) p x,ps[i]?=some p->bs[i]?=some x->p.1=x.1/\cT p.2 1 (Wx x.2) U D/\p.2.len<=p.2.cap
theorem jS.loc (ps:List (Nat×Sl))(bs:List Bt):dK (jS ps bs):=λU g F G h e d=>⟨h.1,λi p x b a=>⟨(h.2 i p x b a).1,cT.loc _ _ _ _ _ _ _ (h.2 i p x b a).2.1 e d,(h.2 i p x b a).2.2⟩⟩
def sg (ps:List (Nat×Sl)):Prop:=ps.Pairwise λp q=>∀a a',p.2.a=some a->q.2.a=some a'->a.block≠a'.block
theorem sg.snoc {ps:List (Nat×Sl)}{bs:List Bt}{U v:Hp}{D X:Rg}{s:Sl}{xs:List Int}(h:sg ps)(hB:jS ps bs U D)(hne:∀x∈bs,x.2≠[])(hs:cT s 1 (Wx xs) v X)(hx:xs≠[])(hd:∀b,b<U.size->D b->¬X b)(k:Nat):sg (ps++[(k,s)]):=by
 refine oE.2 ⟨h,List.pairwise_singleton _ _,λp w q r=>?_⟩;rw[zR]at r;subst r;intro a a' h1 h2 e;obtain⟨i,u⟩:=zO w;have d:=(cX.1 u).1;have m:bs[i]?=some (bs[i]'(by rw[←hB.1];exact d)):=cW _;generalize (bs[i]'(by rw[←hB.1];exact d))=y at m;obtain⟨_,g,_⟩:=hB.2 i p y u m;have j:=g.bU (by simpa[Wx]using hne y (zG m)) ⟨a,h1,rfl⟩;have z:=hs.bU (by simpa[Wx]using hx) ⟨a',h2,rfl⟩;rw[e]at j;exact hd _ j.2 j.1 z.1
def gY (s:Sl)(bs:List Bt):Hp->Rg->Prop:=λU F=>∃(ps:List (Nat×Sl)) (D:Rg),dF s 2 (eV ps) U (λq=>F q/\¬D q)/\jS ps bs U D/\(∀q,D q->F q)/\sg ps/\∀x∈bs,x.2≠[]
theorem gY.loc (s:Sl)(bs:List Bt):dK (gY s bs):=λU r F G ⟨m,D,p,i,e,j⟩ g b=>
 ⟨m,λq=>D q/\q<U.size,dF.loc _ _ _ _ _ _ _ p g λq a d=>⟨⟨(b q a d.1).1,λhd=>d.2 hd.1⟩,(b q a d.1).2⟩,jS.loc _ _ _ _ _ _ i g λq a hd=>⟨⟨hd,a⟩,(b q a (e q hd)).2⟩,λq a=>(b q a.2 (e q a.1)).1,j⟩
theorem gY.nil (U:Hp)(F:Rg)(a:Option Addr):gY ⟨a,0,0⟩ [] U F:=⟨[],λ_=>False,dF.nil _ _ _ _,⟨rfl,λi p x h=>by simp at h⟩,λq h=>h.elim,List.Pairwise.nil,by simp⟩
theorem gY.len {s:Sl}{bs:List Bt}(h:gY s bs U F):s.len=bs.length:=by
 obtain⟨d,D,b,a,_⟩:=h;have:=b.1;rw[Kg]at this;have:=a.1;omega
theorem gY.cap {s:Sl}{bs:List Bt}(h:gY s bs U F):s.len<=s.cap:=by
 obtain⟨b,D,a,_⟩:=h;exact a.cap
def Hz:Prop:=∀{U:Hp} {F:Rg} {s:Sl} {xs:List (Nat×Sl)},bW s 2 (eV xs) U F->(∀x∈xs,x.1<64)->xs.length<=1000->∀{R:aP},
 (∀xs' σ',xs'.Perm xs->xs'.Pairwise (λa b=>a.1<=b.1)->Ext F U σ'->bW s 2 (eV xs') σ' F->R σ')->ZJ.c s ⟨264,#[],#[]⟩ U R
theorem Bc:∀{a b:List Nat},a.Pairwise (· < ·)->b.Pairwise (· < ·)->(∀x,x∈a↔x∈b)->a=b
 | [],[],_,_,_=>rfl
 | [],y::b,_,_,h=>by have:=(h y).2 aA;simp at this
 | x::a,[],_,_,h=>by have:=(h x).1 aA;simp at this
 | x::a,y::b,ha,hb,h=>by
  rw[qd]at ha hb;have e:x=y:=by
   rcases zX.1 ((h x).1 aA)with h1|h1
   ·exact h1
   ·rcases zX.1 ((h y).2 aA)with h2|h2
    ·exact h2.symm
    ·have:=ha.1 y h2;have:=hb.1 x h1;omega
  subst e
  congr 1
  refine Bc ha.2 hb.2 λz=>?_;have d:=h z;simp only[zX]at d;constructor
  ·intro hza;have:=ha.1 z hza;rcases d.1 (.inr hza)with h1|h1
   ·omega
   ·exact h1
  ·intro hzb;have:=hb.1 z hzb;rcases d.2 (.inr hzb)with h1|h1
   ·omega
   ·exact h1
theorem Uz {f:bZ->Li->List Int×Li}{x:Bt}:x∈QO f tb ls↔∃c l,tb[x.1]?=some c/\ls[x.1]?=some l/\x.2=(f c l).1/\x.2≠[]:=by
 unfold QO;rw[uc];constructor
 ·rintro⟨k,hk,h⟩;split at h
  ·rename_i c l hc hl;split at h
   ·cases h
   ·rename_i hne;cases h;exact⟨c,l,hc,hl,rfl,hne⟩
  ·cases h
 ·rintro⟨c,l,hc,hl,e,hne⟩;refine⟨x.1,zh.2 (cX.1 hc).1,?_⟩;rw[hc,hl];simp only;rw[zB (by rw[←e];exact hne),←e]
theorem JL {f:bZ->Li->List Int×Li}:((QO f tb ls).map (·.1)).Pairwise (· < ·):=by
 unfold QO;have key:∀(n:Nat),(((List.range n).filterMap λk=>match tb[k]?,ls[k]? with
  | some c,some l=>if(f c l).1=[]then none else some ((k,(f c l).1):Bt)
  | _,_=>none).map (·.1)).Pairwise (· < ·)/\∀x∈((List.range n).filterMap λk=>match tb[k]?,ls[k]? with
  | some c,some l=>if(f c l).1=[]then none else some ((k,(f c l).1):Bt)
  | _,_=>none),x.1<n:=by
  intro n
  induction n with
  | zero=>simp
  | succ n ih=>
   rw[pN,tO,lI];refine⟨oE.2 ⟨ih.1,?_,?_⟩,?_⟩
   ·simp only[yl,List.filterMap_nil];split<;>simp
   ·intro a ha b hb;obtain⟨x,g,rfl⟩:=zF.1 ha;obtain⟨y,e,rfl⟩:=zF.1 hb;have j:=ih.2 x g;obtain⟨m,i,d⟩:=uc.1 e;clear e hb ha;simp only[zR]at i;subst i;split at d
    ·split at d
     ·cases d
     ·cases d;exact j
    ·cases d
   ·intro x g;rcases zL.1 g with g|g
    ·have:=ih.2 x g;omega
    ·obtain⟨m,i,e⟩:=uc.1 g;simp only[zR]at i;subst i;split at e
     ·split at e
      ·cases e
      ·cases e;omega
     ·cases e
 exact(key tb.length).1
def mf (todo:List (Int×Option Addr))(k:Nat):Prop:=((k:Nat):Int)∈todo.map (·.1)
instance (todo:List (Int×Option Addr)) (k:Nat):Decidable (mf todo k):=by unfold mf;infer_instance
theorem UQ {todo:List (Int×Option Addr)}{m k:Nat}:mf (todo.filter λy=>!(y.1==(m:Int))) k↔mf todo k/\k≠m:=by
 unfold mf;simp only[zF,zI,lx,lM];constructor
 ·rintro⟨y,⟨h1,h2⟩,h3⟩;exact⟨⟨y,h1,h3⟩,λe=>h2 O⟩
 ·rintro⟨⟨y,h1,h3⟩,h2⟩;exact⟨y,⟨h1,λe=>h2 O⟩,h3⟩
structure wC (f:bZ->Li->List Int×Li) (tb:List bZ) (ls:List Li) (todo:List (Int×Option Addr)) (ls':List Li) (outs:List Bt):Prop where
 l:∀k c l,tb[k]?=some c->ls[k]?=some l->ls'[k]?=some (if mf todo k then l else(f c l).2)
 n:(outs.map (·.1)).Nodup
 o:∀x:Bt,x∈outs↔∃c l,tb[x.1]?=some c/\ls[x.1]?=some l/\¬mf todo x.1/\x.2=(f c l).1/\x.2≠[]
theorem wC.step {f:bZ->Li->List Int×Li}{todo:List (Int×Option Addr)}{ls':List Li}{outs:List Bt}(h:wC f tb ls todo ls' outs)(hc:tb[k]?=some c)(hl:ls[k]?=some l)(hk:mf todo k) :
 wC f tb ls (todo.filter λy=>!(y.1==(k:Int))) (ls'.set k (f c l).2) (if(f c l).1=[]then outs else outs++[(k,(f c l).1)]):=by
 have A:=h.l k c l hc hl;have w:=(cX.1 A).1;have z:∀x∈outs,x.1≠k:=λx g e=>by
  obtain⟨_,_,_,_,B,_⟩:=(h.o x).1 g;rw[e]at B;exact B hk
 refine⟨λj d m hd p=>?_,?_,λx=>?_⟩
 ·by_cases hj:j=k
  ·subst hj;rw[hc]at hd;cases hd;rw[hl]at p;cases p;rw[zJ w,zB (by rw[UQ];exact λg=>g.2 rfl)]
  ·rw[ze (Ne.symm hj),h.l j d m hd p]
   congr 1
   by_cases r:mf todo j
   ·rw[zC r,zC (UQ.2 ⟨r,hj⟩)]
   ·rw[zB r,zB λg=>r (UQ.1 g).1]
 ·split
  ·exact h.n
  ·rw[lI,nL];refine⟨h.n,by simp,λa D b C e=>?_⟩;simp only[zU,sG,zR]at C;subst C;obtain⟨x,g,e2⟩:=zF.1 D;exact z x g (e2.trans e)
 ·have s:(∃d m,tb[x.1]?=some d/\ls[x.1]?=some m/\¬mf (todo.filter λy=>!(y.1==(k:Int))) x.1/\x.2=(f d m).1/\x.2≠[])↔x∈outs\/(x=(k,(f c l).1)/\(f c l).1≠[]):=by
   constructor
   ·rintro⟨d,m,hd,p,r,e,i⟩;by_cases hj:x.1=k
    ·right;rw[hj]at hd p;rw[hc]at hd;cases hd;rw[hl]at p;cases p;exact⟨Prod.ext hj e,by rw[←e];exact i⟩
    ·left;exact(h.o x).2 ⟨d,m,hd,p,λg=>r (UQ.2 ⟨g,hj⟩),e,i⟩
   ·rintro(g|⟨rfl,i⟩)
    ·obtain⟨d,m,hd,p,r,e,i⟩:=(h.o x).1 g;exact⟨d,m,hd,p,λu=>r (UQ.1 u).1,e,i⟩
    ·exact⟨c,l,hc,hl,λu=>(UQ.1 u).2 rfl,rfl,i⟩
  rw[s];split
  ·rename_i he;constructor
   ·exact .inl
   ·rintro(g|⟨_,i⟩)
    ·exact g
    ·exact absurd he i
  ·rename_i he;rw[zL,zR];constructor
   ·rintro(g|g)
    ·exact .inl g
    ·exact .inr ⟨g,he⟩
   ·rintro(g|g)
    ·exact .inl g
    ·exact .inr g.1
set_option maxRecDepth 4000 in
theorem DV (hso:Hz){f:bZ->Li->List Int×Li}{fn:Nat}(hf:xG f fn)(hnil:∀c,c.ok->f c gS=([],gS))(h:dX U F Y tb bud ls){R:Sl->Hp->Prop}
 (hR:∀σ' s (Q:Rg),Ext F U σ'->(∀q,Q q->U.size<=q)->dX σ' (λq=>Grow F U q/\¬Q q) Y tb bud (QM f tb ls)->gY s (QO f tb ls) σ' Q->R s σ') :
 Xc.c (aW Y.p) ⟨fn,#[],#[]⟩ U R:=by
 refine Xc.o ?_;unfold Xc.v;refine Uu h (cE rfl (aG (h.hd.rM rfl ?_)));have htb:=h.mA;refine uY (a:=.s) h.map (λC (out:Sl) v=>∃(ls':List Li) (w:List Bt) (Q D:Rg) (ps:List (Nat×Sl)),Ext F U v/\(∀q,Q q->U.size<q)/\dX v (λq=>(Cut F U q\/U.size<q)/\¬Q q) Y tb bud ls' ∧
  bW out 2 (eV ps) v (λq=>Q q/\¬D q)/\jS ps w v D/\(∀q,D q->Q q)/\wC f tb ls C ls' w/\(∀e∈C,e∈jz Y.ps)/\(C.map (·.1)).Nodup/\sg ps) ?_ ?_ ?_
 ·intro v hz e;refine⟨ls,[],λ_=>False,λ_=>False,[],bK.to e,λq g=>g.elim,((dX.loc.bO h.cut e).mono λq _ g=>⟨.inl g,id⟩),bW.nil _ _ _ _,⟨rfl,λi p x K=>by simp at K⟩,λq g=>g.elim,⟨λk c l E N=>?_,by simp,λx=>?_⟩,λe P=>P,h.map.nodup,List.Pairwise.nil⟩
  ·by_cases hi:mf (jz Y.ps) k
   ·rw[zC hi,N]
   ·rw[zB hi];have hf0:iI Y.ps k=none:=by
     unfold iI;simp only[sS,oM,zV];exact λx r e=>hi (zF.2 ⟨((x.1:Int),some ⟨x.2,0,none⟩),zF.2 ⟨x,r,rfl⟩,by rw[e]⟩)
    have:=h.nil hf0 N;rw[N,this,hnil c (h.ok c (zG E))]
  ·simp only[List.not_mem_nil,false_iff];rintro⟨c,l,E,N,hi,e,hne⟩;have hf0:iI Y.ps x.1=none:=by
    unfold iI;simp only[sS,oM,zV];exact λy W e=>hi (zF.2 ⟨((y.1:Int),some ⟨y.2,0,none⟩),zF.2 ⟨y,W,rfl⟩,by rw[e]⟩)
   have:=h.nil hf0 N;rw[this,hnil c (h.ok c (zG E))]at e;exact hne e
 ·rintro out v ⟨ls',w,Q,D,ps,e,hQ,hC,X,hB,hD,hI,_,_,S⟩;have hno:∀k,¬mf [] k:=λk hk=>by simp[mf]at hk
  have hls:ls'=QM f tb ls:=by
   apply zm;intro k;by_cases hk:k<tb.length
   ·have E:tb[k]?=some tb[k]:=cW hk;have N:ls[k]?=some (ls[k]'(by rw[h.len];exact hk)):=cW _;rw[hI.l k _ _ E N,zB (hno k)];simp[QM,xI,E,N]
   ·rw[zT (by rw[hC.len];omega),zT (by simp[QM,h.len];omega)]
  subst hls;have hk1:∀(i:Nat) p,ps[i]?=some p->∃x,w[i]?=some x/\p.1=x.1/\cT p.2 1 (Wx x.2) v D/\p.2.len<=p.2.cap:=λi p K=>by
   have hi:=(cX.1 K).1;have r:w[i]?=some (w[i]'(by rw[←hB.1];exact hi)):=cW _;exact⟨_,r,hB.2 i p _ K r⟩
  have B:ps.map (·.1)=w.map (·.1):=by
   apply zm;intro i;simp only[zd];cases K:ps[i]? with
   | none=>
    have:w[i]?=none:=by
     rw[List.getElem?_eq_none_iff]at K ⊢;rw[←hB.1];exact K
    rw[this];rfl
   | some p=>
    obtain⟨x,r,e1,_⟩:=hk1 i p K;rw[r];simp[e1]
  have Z:∀x∈w,x.1<40:=λx r=>by
   obtain⟨c,l,E,_⟩:=(hI.o x).1 r;have:=(cX.1 E).1;omega
  have hlen:ps.length<=40:=by
   have hn:=hI.n;rw[←B]at hn;have:=hn.length_le_of_subset (l₂:=List.range 40) λj S=>by
    rw[B]at S;obtain⟨x,r,rfl⟩:=zF.1 S;exact zh.2 (Z x r)
   simpa using this
  refine hso X (λp K=>?_) O λps' v' L hsort e' hrow'=>?_
  ·have:p.1∈w.map (·.1):=by rw[←B];exact zF.2 ⟨p,K,rfl⟩
   obtain⟨x,r,e1⟩:=zF.1 this;have:=Z x r;omega
  ·have hnd:(ps'.map (·.1)).Nodup:=(L.map _).nodup_iff.2 (by rw[B];exact hI.n);have hinc:(ps'.map (·.1)).Pairwise (· < ·):=by
    refine List.Pairwise.map (R:=λa b:Nat×Sl=>a.1<b.1) _ (λa b hab=>hab) ?_;have A:ps'.Pairwise λa b=>a.1≠b.1:=sF.1 hnd;exact(hsort.and A).imp λ{a b} hab=>by have:=hab.1;have:=hab.2;omega
   have hkk:ps'.map (·.1)=(QO f tb ls).map (·.1):=by
    refine Bc hinc JL λj=>?_;rw[(L.map _).mem_iff,B];constructor
    ·intro S;obtain⟨x,r,rfl⟩:=zF.1 S;obtain⟨c,l,E,N,_,e1,e2⟩:=(hI.o x).1 r;exact zF.2 ⟨x,Uz.2 ⟨c,l,E,N,e1,e2⟩,rfl⟩
    ·intro S;obtain⟨x,r,rfl⟩:=zF.1 S;obtain⟨c,l,E,N,e1,e2⟩:=Uz.1 r;exact zF.2 ⟨x,(hI.o x).2 ⟨c,l,E,N,hno _,e1,e2⟩,rfl⟩
   have eQ:Ext F U v':=e.dS e' λq g=>.inr (rq (hQ q g.1));refine hR v' out Q eQ (λq g=>rq (hQ q g)) ?_ ⟨ps',D,hrow'.o,⟨?_,λi p x K r=>?_⟩,hD,(L.pairwise_iff λ{a b} hab x y A h2 e=>hab y x h2 A e.symm).2 S,λx r=>by
    obtain⟨_,_,_,_,_,h2⟩:=Uz.1 r;exact h2⟩
   ·refine(dX.loc.bS hC e' λq _ g hq2=>g.2 hq2.1).mono λq _ g=>⟨?_,g.2⟩;rcases g.1 with r|r
    ·exact .inl r.1
    ·exact .inr (rq r)
   ·have:=congrArg List.length hkk;simpa using this
   ·have e1:p.1=x.1:=by
     have:=congrArg (λl=>l[i]?) hkk;simp only[zd,K,r,zc,Option.some.injEq]at this;exact this
    obtain⟨j,S⟩:=zO (L.mem_iff.1 (zG K));obtain⟨y,W,e2,hs,hcap⟩:=hk1 j p S;have e3:x.2=y.2:=by
     obtain⟨c,l,E,N,_,A,_⟩:=(hI.o y).1 (zG W);obtain⟨c',l',hc',hl',h2,_⟩:=Uz.1 (zG r);rw[←e1,e2,E]at hc';cases hc';rw[←e1,e2,N]at hl';cases hl';rw[A,h2]
    rw[e3];exact⟨e1,aH.bS hs e' λq _ g hq2=>hq2.2 g,hcap⟩
 ·rintro C n x out v v' J ⟨ls',w,Q,D,ps,e,hQ,hC,X,hB,hD,hI,hsub,hnd,S⟩ r ho hlt hJ;have e1:Ext F U v':=e.only ho (.inr (zD _));have V:dX v' (λq=>(Cut F U q\/U.size<q)/\¬Q q) Y tb bud ls':=dX.loc.bS hC ho.ext λq _ g P=>by
   rcases g.1 with A|A
   ·have:=A.2;omega
   ·omega
  have hrow1:bW out 2 (eV ps) v' (λq=>(Q q/\¬D q)/\q<v'.size):=aI.cut (aI.bS X ho.ext λq _ g P=>by have:=hQ q g.1;omega);have hB1:jS ps w v' (λq=>D q/\q<v'.size):=(jS.loc _ _).cut ((jS.loc _ _).bS hB ho.ext λq _ g P=>by have:=hQ q (hD q g);omega);have hmem:=hsub _ r;simp only[jz,zF,Prod.mk.injEq]at hmem;obtain⟨⟨k,b⟩,hkb,hk1,hx1⟩:=hmem;simp only at hk1 hx1;subst hk1;subst hx1;have hk:=h.keys _ hkb;simp only at hk;have E:tb[k]?=some tb[k]:=cW hk;have N:ls[k]?=some (ls[k]'(by rw[h.len];exact hk)):=cW _;generalize tb[k]=c at E;generalize (ls[k]'(by rw[h.len];exact hk))=l at N;have hcok:=h.ok c (zG E);have hlk:iI Y.ps k=some b:=BI h.map.nodup hkb;have hin:mf C k:=zF.2 ⟨_,r,rfl⟩;have hl':ls'[k]?=some l:=by rw[hI.l k c l E N,zC hin]
  have M:=hI.step E N hin;have hmF:(λq=>(Cut F U q\/U.size<q)/\¬Q q) Y.m:=by
   obtain⟨H,hH,hm⟩:=V.sep.get .mp;exact hH _ hm.1
  obtain⟨G,hG,hL,hGm,hput⟩:=V.tU hlk hl';have aa:=hG b hL.1;have hbm:b≠Y.m:=λe=>hGm (e▸hL.1);have hbs:b≠U.size:=λe=>by
   subst e;rcases aa.1 with A|A
   ·have:=A.2;omega
   ·omega
  have hblt:b<v'.size:=by obtain⟨_,_,s,hbk,_⟩:=hL;exact hbk.lt
  have hsz1:=ho.1;refine aG (V.hd.rS rfl (GM V.ji E (d:=2) O ?_));simp only[zB (show ¬(2=0) by omega),zB (show ¬(2=1) by omega)];refine hf hL hcok λs z v5 e5 hz hr hL5=>?_;have hs5:=e5.1;obtain⟨eF,h5⟩:=hput v5 _ (λq=>q=b\/z<=q) (e5.sub λq g=>by rw[g];exact hL.1) (λq g=>g.imp (λ(r:q=b)=>by rw[r];exact hL.1) λ(r:z<=q)=>O) hL5;have h5:=h5.cut;have eF5:Ext F U v5:=e1.dS eF λq g=>by
   rcases g.1 with A|A
   ·exact .inl A.1
   ·exact .inr (rq A)
  have hnb:∀q,Q q->q≠b:=λq g hqb=>aa.2 (hqb▸g);have hrow5:=aI.bS hrow1 e5 λq _ g P=>hnb q g.1.1 P;have hB5:=(jS.loc _ _).bS hB1 e5 λq _ g P=>hnb q (hD q g.1) P;have hsl:s.len=(f c l).1.length:=by have:=hr.1;simp[Wx]at this;omega
  have hsub':∀y∈C.filter (λy=>!(y.1==(k:Int))),y∈jz Y.ps:=λy W=>hsub y (zI.1 W).1;have hnd':((C.filter λy=>!(y.1==(k:Int))).map (·.1)).Nodup:=hnd.sublist (List.filter_sublist.map _);by_cases hemp:(f c l).1=[]
  ·rw[zC hemp]at M;refine fM (by rw[hsl,hemp];simp) (hJ out v5 (e5.2 _ O λP=>hbs P.symm) (e5.2 _ V.map.lt λP=>hbm P.symm) ?_);refine⟨_,w,λq=>Q q/\q<v'.size,λq=>D q/\q<v'.size,ps,eF5,λq g=>hQ q g.1,h5.mono λq _ g=>?_,aI.mono hrow5 λq _ g=>⟨⟨g.1.1,g.2⟩,λhd=>g.1.2 hd.1⟩,hB5,λq g=>⟨hD q g.1,g.2⟩,M,hsub',hnd',S⟩;rcases g.1 with A|A|A
   ·exact⟨A.1.1,λr=>A.1.2 r.1⟩
   ·subst A;exact⟨aa.1,λr=>aa.2 r.1⟩
   ·exact⟨.inr O,λr=>O⟩
  ·rw[zB hemp]at M;have hpos:=pn.2 hemp;refine kW (by rw[hsl];omega) (nw (cs:=ng (k,s)) λv6 hz6 e6 hb6=>?_);have hrow6:=aI.bO hrow5 e6;have hB6:=(jS.loc _ _).bO hB5 e6;have hr6:=aI.bO (aI.cut hr) e6;have hpl:out.len=ps.length:=by have:=X.1;rw[Kg]at this;omega
   have hol:ps.length<=40:=by
    have B:w.map (·.1)⊆List.range 40:=λj S=>by
     obtain⟨x,r,rfl⟩:=zF.1 S;obtain⟨c,l,E,_⟩:=(hI.o x).1 r;have:=(cX.1 E).1;exact zh.2 O
    have:=hI.n.length_le_of_subset B;rw[hB.1];simpa using this
   refine hrow6.app (ys:=ng (k,s)) rfl rfl ?_ (λv hv=>Uy (l:=[(k,s)]) v (by simpa[eV]using hv)) ?_ ?_ mI λs' v7 hl7 e7 hr7=>?_
   ·intro j u hu;rw[add_lit,zH,hb6.cell];exact hu
   ·simp only;have:(out.len+1)*32<=41*32:=lp O O;omega
   ·simp only;omega
   have hs7:=e7.1;have e57:Ext (λq=>(Q q/\¬D q)/\q<v'.size) v5 v7:=(bK.to e6).trans e7;refine hJ s' v7 ?_ ?_ ?_
   ·rw[e57.2 _ O λr=>by have:=hQ _ r.1.1;omega];exact e5.2 _ O λP=>hbs P.symm
   ·rw[e57.2 _ (by have:=V.map.lt;omega) λr=>hmF.2 r.1.1];exact e5.2 _ V.map.lt λP=>hbm P.symm
   refine⟨_,_,λq=>Q q/\q<v'.size\/(v'.size<=q/\q<z)\/v5.size<=q,λq=>D q/\q<v'.size\/(v'.size<=q/\q<z)/\q<v5.size,ps++[(k,s)],eF5.dS e57 λq g=>.inr (rq (hQ q g.1.1)),λq g=>?_,(dX.loc.bS h5 e57 λq hq5 g r=>?_).mono λq _ g=>?_,?_,⟨?_,λi p y K W=>?_⟩,λq g=>?_,M,hsub',hnd',S.snoc hB1 (λx r=>by
    obtain⟨_,_,_,_,_,_,h2⟩:=(hI.o x).1 r;exact h2) hr.ig hemp (λb hb r W=>by have:=r.2;have:=W.1;omega) k⟩
   ·rcases g with g|g|g
    ·exact hQ q g.1
    ·omega
    ·omega
   ·rcases g.1 with A|A|A
    ·exact A.1.2 r.1.1
    ·exact hnb q r.1.1 A
    ·have:=r.2;omega
   ·have hq5:=g.2;rcases g.1 with A|A|A
    ·exact⟨A.1.1,λr=>by
      rcases r with r|r|r
      ·exact A.1.2 r.1
      ·have:=A.2.1;omega
      ·omega⟩
    ·subst A;exact⟨aa.1,λr=>by
      rcases r with r|r|r
      ·exact aa.2 r.1
      ·omega
      ·omega⟩
    ·exact⟨.inr O,λr=>by
      rcases r with r|r|r<;>omega⟩
   ·rw[Ui];have:eV [(k,s)]=ng (k,s):=by simp[eV]
    rw[this];refine aI.mono hr7 λq _ g=>?_;rcases g with g|g
    ·exact⟨.inl ⟨g.1.1,g.2⟩,λhd=>by
      rcases hd with hd|hd
      ·exact g.1.2 hd.1
      ·omega⟩
    ·exact⟨.inr (.inr O),λhd=>by
      rcases hd with hd|hd<;>omega⟩
   ·rw[zQ,zQ,hB.1];rfl
   ·rcases jX i ps.length with hi|hi
    ·rw[zg hi]at K;rw[zg (by rw[←hB.1];exact hi)]at W;obtain⟨a1,a2,a3⟩:=hB6.2 i p y K W;exact⟨a1,aH.mono (aH.bS a2 e7 λq _ g r=>r.1.2 g.1) λq _ g=>.inl g,a3⟩
    ·rw[zn hi]at K;rw[zn (by rw[←hB.1];exact hi)]at W;have hi0:i-ps.length=0:=by
      have:=(cX.1 K).1;simp at this;omega
     rw[hi0]at K;rw[show i-w.length=0 by rw[←hB.1];exact hi0]at W;simp at K W;subst K;subst W;exact⟨rfl,aH.mono (aH.bS hr6.ig e7 λq _ g r=>by have:=r.2;have:=g.1;omega) λq _ g=>.inr g,bW.pD hr⟩
   ·rcases g with g|g
    ·exact .inl ⟨hD q g.1,g.2⟩
    ·exact .inr (.inl g.1)
theorem Jv (hso:Hz)(h:dX U F Y tb bud ls){R:Sl->Hp->Prop}
 (hR:∀σ' s (Q:Rg),Ext F U σ'->(∀q,Q q->U.size<=q)->dX σ' (λq=>Grow F U q/\¬Q q) Y tb bud (QM Zy tb ls)->gY s (QO Zy tb ls) σ' Q->R s σ'):Xz.c (aW Y.p) U R:=by
 refine Xz.o ?_;unfold Xz.v;exact DV hso Ll (λc _=>E0 c) h hR
theorem MT (hso:Hz)(h:dX U F Y tb bud ls){R:Sl->Hp->Prop}
 (hR:∀σ' s (Q:Rg),Ext F U σ'->(∀q,Q q->U.size<=q)->dX σ' (λq=>Grow F U q/\¬Q q) Y tb bud (QM Kl tb ls)->gY s (QO Kl tb ls) σ' Q->R s σ'):WV.c (aW Y.p) U R:=by
 refine WV.o ?_;unfold WV.v;exact DV hso OP Iv h hR
end Go.Ar