/- Texts joined. -/
import Derived.Test.YteihenagckcobaaGreatDoorK4
set_option linter.unusedVariables false
set_option linter.unusedSimpArgs false
namespace Go.Proofs
open Go.Vc
set_option maxRecDepth 100000
def Xx.h:Hn:=.q .o2 (.q (.q .o3 .aJ) (.q (.o 12) (.q (.q .o2 .aJ) (.q .o4 .l))))
def Xx.v (a:R2)(b:Int)(c:Hp)(d:Int->Int->Hp->Prop):Prop:=Xj.c a c λe f=>If (!e) (d 0 5 f) (bI a 9 f λh=>Lk .i64 (.ag 4) h b f λi=>aV #[.I 0,.I 0,.I 0,.I 0] 112 f λj k=>aR j 0 (.I ((i.getD (0,0,0,0)).1)) k λl=>aR j 1 (.I ((i.getD (0,0,0,0)).2.1)) l λm=>aR j 2 (.I ((i.getD (0,0,0,0)).2.2.1)) m λn=>aR j 3 (.I ((i.getD (0,0,0,0)).2.2.2)) n λo=>If (!i.isSome) (d 0 8 o) (aQ j 1 o λp=>d p 0 o))
theorem Xx.o {a b c d}(e:Xx.v a b c d):Xx.c a b c d:=Wa Tryz.func25 (x:=Xx.h) (R0 e)
def WN.h:Hn:=.q .o1 (.q .o6 .l)
def WN.v (a:R2)(b c:Int)(d:Hp)(e:aN):Prop:=YF.c a d λf g=>Yk.c f b c g λh i=>e h i
theorem WN.o {a b c d e}(f:WN.v a b c d e):WN.c a b c d e:=Wa Tryz.func27 (x:=WN.h) (R0 f)
def Zr.h:Hn:=.q .o1 (.q (.q .o3 .aK) (.q .o1 (.q (.q .o8 (.k (.loop [(3,.one .s),(16,.I)] (.q .o1 (.q (.c .l .l) (.q (.k (.q .o3 .fP)) .o2)))))) .aL)))
def Zr.v (a:R2)(b:Hp)(c:Sl->Hp->Prop):Prop:=Xj.c a b λd e=>If (!d) (c ⟨none,0,0⟩ e) (bI a 9 e λg=>ZB.c g e λh i=>QM.c h i λj k=>XW [.s,bN] (λl=>l ⟨none,0,0⟩ 0 k) λm (n:Sl) (o:Int) p=>If (o<((j.len:Nat):Int)) (Ix j.a j.len o 1 λq=>bM q p λr=>bV a λs=>bB s 9 p λt=>Lk .i64 (.ag 4) t r p λu=>aV #[.I ((u.getD (0,0,0,0)).1),.I ((u.getD (0,0,0,0)).2.1),.I ((u.getD (0,0,0,0)).2.2.1),.I ((u.getD (0,0,0,0)).2.2.2)] 112 p λv w=>App n 4 32 112 [.I 0,.I 0,.I 0,.I 0] ⟨some v,1,1⟩ w λx y=>bL (o+1) λz=>m x z y) (c n p))
theorem Zr.o {a b c}(d:Zr.v a b c):Zr.c a b c:=Wa Tryz.func32 (x:=Zr.h) (R0 d)
def YV.h:Hn:=.q .o2 (.q .fP .l)
def YV.v (a:R2)(b c d:Int)(e:Hp)(f:Int->Int->Hp->Prop):Prop:=Yh.c a b 0 c d 0 e λg h i=>f g h i
theorem YV.o {a b c d e f}(g:YV.v a b c d e f):YV.c a b c d e f:=Wa Tryz.func43 (x:=YV.h) (R0 g)
def Yq.h:Hn:=.q .o2 (.q .o8 .l)
def Yq.v (a:R2)(b:Int)(c:Hp)(d:Int->Int->Hp->Prop):Prop:=YF.c a c λe f=>YJ.c e b f λg h i=>d g h i
theorem Yq.o {a b c d}(e:Yq.v a b c d):Yq.c a b c d:=Wa Tryz.func49 (x:=Yq.h) (R0 e)
def Xj.h:Hn:=.q .o1 (.q (.cQ (.seq [.op,.op,.op,.cW true 6 (RI.ops 6),.op])) .l)
def Xj.v (a:R2)(b:Hp)(c:aO):Prop:=bW (λd e=>c d e) λf=>If (!a.isNone) (bE a 8 b λh=>f (decide (((h.len:Nat):Int)>0)) b) (f false b)
theorem Xj.o {a b c}(d:Xj.v a b c):Xj.c a b c:=Wa Tryz.func58 (x:=Xj.h) (R0 d)
def YF.h:Hn:=.q .o1 (.q (.q .o3 .aK) (.q .o5 .l))
def YF.v (a:R2)(b:Hp)(c:Option Addr->Hp->Prop):Prop:=Xj.c a b λd e=>If (!d) (c none e) (bF a 6 e λg=>c g e)
theorem YF.o {a b c}(d:YF.v a b c):YF.c a b c:=Wa Tryz.func61 (x:=YF.h) (R0 d)
def Zq.h:Hn:=.q .o1 (.q .fP .aL)
def Zq.v (a:R2)(b c:Int)(d:Hp)(e:aN):Prop:=Yh.c a b 1 0 0 c d λf g h=>e g h
theorem Zq.o {a b c d e}(f:Zq.v a b c d e):Zq.c a b c d e:=Wa Tryz.func70 (x:=Zq.h) (R0 f)
def Y3.h:Hn:=.q .o2 (.q (.k (.q .o4 (.c .aM (.q .o5 (.c .aM (.q .fP .aK)))))) (.q .o4 (.q (.q .o2 .aK) (.q .o9 .aM))))
def Y3.v (a:R2)(b c d e f:Int)(g:Hp)(h:aN):Prop:=aV #[.I c,.I d,.I e,.I f] 123 g λi j=>Xj.c a j λk l=>If (!k) (h 5 l) (X5.c a b l λm n=>If (!m) (h 1 n) (bE a 8 n λp=>Ix p.a p.len b 3 λq=>bA q 2 n λr=>And (iS r) <| If (!(kF r)) (h 5 n) (aQ i 0 n λs=>aQ i 1 n λt=>aQ i 2 n λu=>aQ i 3 n λv=>Yl.c a s t u v n λw x=>And (iS w) <| If (kF w) (h 1 x) (bE a 8 x λz=>Ix z.a z.len b 3 λaa=>And (iS w) <| aR aa 2 (w) x λab=>h 0 ab))))
theorem Y3.o {a b c d e f g h}(i:Y3.v a b c d e f g h):Y3.c a b c d e f g h:=Wa Tryz.func72 (x:=Y3.h) (R0 i)
def Y6.h:Hn:=.q .o3 (.q (.k (.q .o4 (.c (.q .o4 .l) (.q .o5 (.c (.q .o4 .l) (.q .fP (.c (.q .o4 .l) .l))))))) (.q (.o 17) (.q .o9 (.q (.cQ (.tail 4 (RI.ops 4) [.op,.op])) .l))))
def Y6.v (a:R2)(b:Int)(c:Hp)(d:Bool->Int->Int->Int->Hp->Prop):Prop:=aV #[.I 0,.I 0] 125 c λe f=>Xj.c a f λg h=>If (!g) (aR e 0 (.I 0) h λi=>aR e 1 (.I 0) i λj=>aQ e 0 j λk=>aQ e 1 j λl=>d false k l 5 j) (X5.c a b h λm n=>If (!m) (aR e 0 (.I 0) n λo=>aR e 1 (.I 0) o λp=>aQ e 0 p λq=>aQ e 1 p λr=>d false q r 1 p) (bE a 8 n λt=>Ix t.a t.len b 3 λu=>bA u 2 n λv=>And (iS v) <| If (kF v) (aR e 0 (.I 0) n λw=>aR e 1 (.I 0) w λx=>aQ e 0 x λy=>aQ e 1 x λz=>d false y z 5 x) (bE a 8 n λab=>Ix ab.a ab.len b 3 λac=>bA ac 2 n λad=>Zp.c a b (ad) n λae af ag ah=>aV #[.I 0,.I 0] 125 ah λai aj=>aR ai 0 (.I af) aj λak=>aR ai 1 (.I ag) ak λal=>bE a 8 al λan=>Ix an.a an.len b 3 λao=>And (iS ae) <| aR ao 2 (ae) al λap=>And (iS ae) <| aQ ai 0 ap λaq=>aQ ai 1 ap λar=>aR e 0 (.I aq) ap λau=>aR e 1 (.I ar) au λav=>aQ e 0 av λaw=>aQ e 1 av λax=>d (kF ae) aw ax 0 av)))
theorem Y6.o {a b c d}(e:Y6.v a b c d):Y6.c a b c d:=Wa Tryz.func73 (x:=Y6.h) (R0 e)
def Yh.h:Hn:=.q .o3 (.q (.q .o5 (.q .o2 (.c (.q .o3 .l) .l))) (.k (.loop [] (.k (.q (.o 11) (.q .o1 (.c (.q (.oq 6) .l) .l)))))))
def Yh.v (a:R2)(b c d e f:Int)(g:Hp)(h:Int->Int->Hp->Prop):Prop:=aV #[.I c,.I d,.I e,.I f] 123 g λi j=>aQ i 0 j λk=>aQ i 1 j λl=>aQ i 2 j λm=>aQ i 3 j λn=>Y3.c a b k l m n j λo p=>If (o != 0) (h 0 o p) (XW [] (λq=>q p) λr s=>Y6.c a b s λt u v w x=>aV #[.I 0,.I 0] 125 x λy z=>aR y 0 (.I u) z λaa=>aR y 1 (.I v) aa λab=>If t (aQ y 0 ab λac=>aQ y 1 ab λad=>h ac ad ab) (r ab))
theorem Yh.o {a b c d e f g h}(i:Yh.v a b c d e f g h):Yh.c a b c d e f g h:=Wa Tryz.func81 (x:=Yh.h) (R0 i)
def X0.h:Hn:=.q .o1 (.q (.q .o3 .aJ) (.q .o5 .l))
def X0.v (a:R2)(b:Hp)(c:Int->Int->Int->Int->Int->Hp->Prop):Prop:=aV #[.I 0,.I 0,.I 0,.I 0,.I 0] 23 b λd e=>Xj.c a e λf g=>If (!f) (aR d 0 (.I 0) g λh=>aR d 1 (.I 0) h λi=>aR d 2 (.I 0) i λj=>aR d 3 (.I 0) j λk=>aR d 4 (.I 0) k λl=>aQ d 0 l λm=>aQ d 1 l λn=>aQ d 2 l λo=>aQ d 3 l λp=>aQ d 4 l λq=>c m n o p q l) (bV a λr=>bM ((r.add 1).add 0) g λs=>bM ((r.add 1).add 1) g λt=>bM ((r.add 1).add 2) g λu=>bM ((r.add 1).add 3) g λv=>bM ((r.add 1).add 4) g λw=>aR d 0 (.I s) g λx=>aR d 1 (.I t) x λy=>aR d 2 (.I u) y λz=>aR d 3 (.I v) z λaa=>aR d 4 (.I w) aa λab=>aQ d 0 ab λac=>aQ d 1 ab λad=>aQ d 2 ab λae=>aQ d 3 ab λaf=>aQ d 4 ab λag=>c ac ad ae af ag ab)
theorem X0.o {a b c}(d:X0.v a b c):X0.c a b c:=Wa Tryz.func92 (x:=X0.h) (R0 d)
def KF.h:Hn:=.q .o3 (.q (.k (.q .o4 (.c .aL (.q .o4 .aJ)))) (.q (.cQ (.gR true [] [(6,.one .p)] (.take 0 (.take 2 (.all [(1,.all [(3,.take 4 (.all [(5,.take 6 (.done))]))]),(3,.all [(1,.take 4 (.all [(5,.take 6 (.done))]))])]))))) (.q .fP (.q (.q .o3 (.k (.loop [(36,.I)] (.q .o1 (.q (.c .l .l) (.q (.k (.q (.cQ (.held true [7] (.take 0 (.take 1 (.take 2 (.take 3 (.take 4 (.take 5 (.take 6 (.all [(7,.take 8 (.take 9 (.take 10 (.take 11 (.take 12 (.done))))))])))))))))) (.o 11))) .o2)))))) (.q (.q .o3 (.k (.loop [(62,.I)] (.q .o1 (.q (.c .l .l) (.q (.k (.q .o9 (.o 12))) .o2)))))) (.q .o3 .l))))))
def KF.v (a:Sl)(b c d e f:Int)(g:Hp)(h:Option Addr->Int->Hp->Prop):Prop:=aV #[.I b,.I c,.I d,.I e,.I f] 23 g λi j=>ZD.c a j λk l=>If (!k) (h none 2 l) (aQ i 0 l λm=>aQ i 1 l λn=>aQ i 2 l λo=>aQ i 3 l λp=>aQ i 4 l λq=>Qz.c m n o p q l λr s=>If (!r) (h none 1 s) (Jn [.p] (λ(t:R2) u=>aQ i 0 u λv=>QZ.c v u λw x y=>bV t λz=>aR z 6 (.pointer w) y λaa=>aQ i 1 aa λab=>XW [bN] (λac=>ac 0 aa) λad (ae:Int) af=>If (ae<ab) (dY af λag=>bV t λah=>aU ag ah 6 λai=>aS ag i 4 λaj=>QY.c a ai aj af λak al am=>bE t 7 am λao=>aV #[.pointer ak] 138 am λap aq=>App ao 1 8 138 [.pointer none] ⟨some ap,1,1⟩ aq λar au=>bV t λav=>aR av 7 (.slice ar.a ar.len ar.cap) au λaw=>bL (ae+1) λax=>ad ax aw) (aQ i 2 af λay=>XW [bN] (λaz=>az 0 af) λa0 (a1:Int) a2=>If (a1<ay) (aQ i 3 a2 λa3=>Q0.c a a3 a2 λa4 a5 a6=>bE t 8 a6 λa8=>aV #[.pointer a4,.slice none 0 0,.nilIface] 133 a6 λa9 ba=>App a8 3 48 133 [.pointer none,.slice none 0 0,.nilIface] ⟨some a9,1,1⟩ ba λbb bc=>bV t λbd=>aR bd 8 (.slice bb.a bb.len bb.cap) bc λbe=>bL (a1+1) λbf=>a0 bf be) (h t 0 a2))) λbg=>dY s λbh=>aS bh i 0 λbi=>aS bh i 1 λbj=>
 aS bh i 2 λbk=>aS bh i 3 λbl=>aS bh i 4 λbm=>(Wi.c a s λbn bo=>And (bh bo) <| Nw (.map #[] 0) bo λbp bq=>And (bh bq) <| aV #[.slice bn.a bn.len bn.cap,.I bi,.I bj,.I bk,.I bl,.I bm,.pointer none,.slice none 0 0,.slice none 0 0,.map (some bp.block)] 81 bq λbr bs=>And (bh bs) <| bg (some br) bs) ∧ (Nw (.map #[] 0) s λbt bu=>And (bh bu) <| Wi.c a bu λbv bw=>And (bh bw) <| aV #[.slice bv.a bv.len bv.cap,.I bi,.I bj,.I bk,.I bl,.I bm,.pointer none,.slice none 0 0,.slice none 0 0,.map (some bt.block)] 81 bw λbx bz=>And (bh bz) <| bg (some bx) bz)))
theorem KF.o {a b c d e f g h}(i:KF.v a b c d e f g h):KF.c a b c d e f g h:=Wa Tryz.func101 (x:=KF.h) (R0 i)
def X5.h:Hn:=.q .o1 (.q (.cQ (.seq [.op,.op,.op,.cW true 7 (RI.ops 7),.op])) .l)
def X5.v (a:R2)(b:Int)(c:Hp)(d:aO):Prop:=bW (λe f=>d e f) λg=>If (b≥0) (bE a 8 c λi=>g (decide (b<((i.len:Nat):Int))) c) (g false c)
theorem X5.o {a b c d}(e:X5.v a b c d):X5.c a b c d:=Wa Tryz.func102 (x:=X5.h) (R0 e)
def Yl.h:Hn:=.q .o2 (.q (.q .o2 (.k (.q .o2 (.c (.q (.q (.cQ (.seq [.op,.op,.op,.op,.cW false 3 (RI.ops 3)])) .aK) (.q (.cQ (.held true [8] (.tk [0,1,2,3,4,5,6,7] (.all [(8,.tk [9,10,11,12,13] (.done))])))) (.q .o1 (.k (.q .o2 (.c (.q .o4 .l) (.q .o2 (.c (.q .o8 .l) .l)))))))) (.q .o2 (.c (.q .o5 .l) (.q .o2 (.c (.q .o3 .l) .l)))))))) .aM)
def Yl.v (a:R2)(b c d e:Int)(f:Hp)(g:Value->Hp->Prop):Prop:=aV #[.I b,.I c,.I d,.I e] 123 f λh i=>aQ h 0 i λj=>If (j==0) (aQ h 1 i λk=>bW (λl m=>If l (g (.nilIface) m) (dY m λn=>bV a λo=>aT n o 0 λp=>aS n h 1 λq=>aS n h 2 λr=>Qd.c p q r m λs t u=>If (t==0) (g (.iface 218 (.agg #[.I s])) u) (If (t==4) (aQ h 1 u λv=>bL (v+256) λw=>bL (w-1) λx=>Nz 256<|bL (x.tdiv 256) λy=>g (.iface 220 (.agg #[.I y])) u) (g (.nilIface) u)))) λz=>If (k<1) (z true i) (aQ h 1 i λaa=>z (decide (aa>16384)) i)) (If (j==1) (aQ h 3 i λab=>g (.iface 222 (.agg #[.I ab])) i) (If (j==2) (g (.iface 224 (.agg #[])) i) (g (.nilIface) i)))
theorem Yl.o {a b c d e f g}(h:Yl.v a b c d e f g):Yl.c a b c d e f g:=Wa Tryz.func103 (x:=Yl.h) (R0 h)
def Zp.h:Hn:=.q .o2 (.q .o7 (.q (.cQ (.held true [] (.tk [0,1,2,3,4,5] (.all [(6,.take 7 (.all [(8,.take 9 (.done))]))])))) (.kA [] (.q .o1 (.k (.q .o3 (.c (.q .o2 (.q (.q (.cQ (.held true [6] (.tk [0,1,2,3,4,5] (.all [(6,.tk [7,8,9,10,11] (.done))])))) (.q .o2 (.c (.q (.cQ (.held true [17] (.tk [0,1,2,3,4,5,6,7,8,9,10,11,12] (.all [(13,.tk [14,15,16] (.all [(17,.done)]))])))) .l) .l))) (.q (.cQ (.held true [6] (.tk [0,1,2,3,4,5] (.all [(6,.tk [7,8,9,10,11] (.done))])))) (.q .o8 .l)))) (.q .o3 (.c (.q .o2 (.kA [] (.q (.oq 12) (.c (.q .o9 (.q .o2 (.c (.q .o6 (.q .o5 .l)) .l))) .l)) (.q .o5 .l))) (.q .o3 (.c (.q .o2 (.q (.q (.o 11) (.q .o3 (.c (.q .o6 (.q .o5 .l)) .l))) (.q .o5 .l))) (.q .o3 (.c (.q .o2 (.q (.q .o5 (.q .o2 (.c (.q .o4 .l) .l))) (.q .o5 .l))) (.q .o3 (.c (.q .o2 (.q .o8 (.q .o4 (.q (.cQ (.tail 9 (RI.ops 9) [.op])) (.q (.cQ (.held true [20] (.tk [0,1,2,3,4,5,6,7,8,9,10,11,12,13,14,15] (.all [(16,.tk [17,18,19] (.all [(20,.done)]))])))) .l))))) (.q .o3 (.c (.q .o2 (.q .o9 (.q (.q .o2 (.c (.q .o4 .l) .l)) (.q (.o 11) .l)))) (.q .o3 (.c (.q .o2 (.q .o9 .l)) (.q .o3 (.c (.q .o2 (.kA [] (.q (.cQ (.held true [8] (.tk [0,1,2,3,4,5,6,7] (.all [(8,.tk [9,10,11,12,13] (.done))])))) (.q .o3 (.c .o6 .l))) (.q .o9 (.kA [] (.q .o5 (.c (.cQ (.held true [13] (.tk [0,1,2,3,4,5,6,7,8] (.all [(9,.all [(10,.take 11 (.take 12 (.all [(13,.done)])))])])))) .l)) (.q .o6 .l))))) (.q .o3 (.c (.q .o2 (.q .o8 (.q .fP (.q (.cQ (.held true [5] (.take 0 (.take 1 (.take 2 (.take 4 (.all [(3,.all [(5,.done)])]))))))) (.q .o6 .l))))) (.q .o3 (.c (.q .o2 (.cQ (.tail 10 (RI.ops 10) [.op]))) (.q .o3 (.c (.q .o2 (.q .o9 (.q .o6 .l))) .l)))))))))))))))))))))))) (.q .o3 .l))))
def Zp.v (a:R2)(b:Int)(c:Value)(d:Hp)(e:Value->Int->Int->Hp->Prop):Prop:=aV #[.I 0,.I 0] 125 d λf g=>bE a 8 g λi=>Ix i.a i.len b 3 λj=>dY g λk=>bV a λl=>aT k l 7 λm=>Zw.c a b g λn o=>And (k o) <| Ix m.a m.len n 1 λp=>fW p o λq=>And (k o) <| Jn [] (λr=>aR f 0 (.I 0) r λs=>aR f 1 (.I 0) s λt=>aQ f 0 t λu=>aQ f 1 t λv=>e (.nilIface) u v t) λw=>∃t52:Int,∃is:Bool,kc c 218 [.I t52] [.I 0] is ∧ (If is (aV #[.I 0] 218 o λx y=>dU x (.I t52) y λz=>dY z λaa=>bV (some j) λab=>aU aa ab 0 λac=>aS aa x 0 λad=>X3.c ac ad z λae af ag=>If (af==0) (dY ag λah=>bV a λai=>aT ah ai 0 λaj=>aS ah x 0 λak=>Ix aj.a aj.len ak 3 λal=>aS ah al 0 λam=>aS ah x 0 λan=>YS.c a ae am an ag λao ap aq ar=>And (ah ar) <| aR f 0 (.I ap) ar λau=>aR f 1 (.I aq) au λav=>aQ f 0 av λaw=>aQ f 1 av λax=>e (ao) aw ax av) (dY ag λay=>bV (some j) λaz=>aU ay az 0 λa0=>aS ay x 0 λa1=>Yi.c a0 a1 ag λa2 a3 a4=>aQ x 0 a4 λa5=>aR f 0 (.I 0) a4 λa6=>aR f 1 (.I 0) a6 λa7=>aQ f 0 a7 λa8=>aQ f 1 a7 λa9=>e (.iface 228 (.agg #[.I a5,.I a2])) a8 a9 a7)) (∃t99:Int,∃t991:Int,∃is1:Bool,kc c 228 [.I t99,.I t991] [.I 0,.I 0] is1 ∧
 (If is1 (aV #[.I 0,.I 0] 228 o λba bb=>aR ba 0 (.I t99) bb λbc=>aR ba 1 (.I t991) bc λbd=>Jn [] (λbe=>aQ ba 0 be λbf=>aQ ba 1 be λbg=>aR f 0 (.I 0) be λbh=>aR f 1 (.I 0) bh λbi=>aQ f 0 bi λbj=>aQ f 1 bi λbk=>e (.iface 231 (.agg #[.I bf,.I bg])) bj bk bi) λbl=>aQ ba 1 bd λbm=>bE a 0 bd λbo=>aQ ba 0 bd λbp=>Ix bo.a bo.len bp 3 λbq=>aQ bq 2 bd λbr=>If (bm==br) (aQ ba 0 bd λbs=>WB.c q bs bd λbt bu bv=>If (bu==0) (aQ ba 0 bv λbw=>Yu.c a b bw bt bv λbx=>aR f 0 (.I 0) bx λbz=>aR f 1 (.I 0) bz λb0=>aQ f 0 b0 λb1=>aQ f 1 b0 λb2=>e (.iface 230 (.agg #[])) b1 b2 b0) (bl bv)) (bl bd)) (∃t135:Int,∃t1351:Int,∃is2:Bool,kc c 231 [.I t135,.I t1351] [.I 0,.I 0] is2 ∧ (If is2 (aV #[.I 0,.I 0] 231 o λb3 b4=>aR b3 0 (.I t135) b4 λb5=>aR b3 1 (.I t1351) b5 λb6=>aQ b3 0 b6 λb7=>aQ b3 1 b6 λb8=>WD.c q b7 b8 b6 λb9 ca cb=>If (((b9.len:Nat):Int)>0) (aQ b3 0 cb λcc=>Yu.c a b cc b9 cb λcd=>aR f 0 (.I 0) cd λce=>aR f 1 (.I 0) ce λcf=>aQ f 0 cf λcg=>aQ f 1 cf λch=>e (.iface 230 (.agg #[])) cg ch cf) (aQ b3 0 cb λci=>aQ b3 1 cb λcj=>aR f 0 (.I 0) cb λck=>aR f 1 (.I 0) ck λcl=>aQ f 0 cl λcm=>aQ f 1 cl λcn=>
 e (.iface 233 (.agg #[.I ci,.I cj])) cm cn cl)) (∃t162:Int,∃t1621:Int,∃is3:Bool,kc c 233 [.I t162,.I t1621] [.I 0,.I 0] is3 ∧ (If is3 (aV #[.I 0,.I 0] 233 o λco cp=>aR co 0 (.I t162) cp λcq=>aR co 1 (.I t1621) cq λcr=>aQ co 0 cr λcs=>XY.c q cs cr λct cu=>If (ct != 0) (aR f 0 (.I 0) cu λcv=>aR f 1 (.I ct) cv λcw=>aQ f 0 cw λcx=>aQ f 1 cw λcy=>e (.nilIface) cx cy cw) (aQ co 0 cu λcz=>aQ co 1 cu λc0=>aR f 0 (.I 0) cu λc1=>aR f 1 (.I 0) c1 λc2=>aQ f 0 c2 λc3=>aQ f 1 c2 λc4=>e (.iface 231 (.agg #[.I cz,.I c0])) c3 c4 c2)) (∃is4:Bool,kc c 230 [] [] is4 ∧ (If is4 (aV #[] 230 o λc5 c6=>bE (some j) 1 c6 λc8=>Ix c8.a c8.len 0 2 λc9=>aQ c9 0 c6 λda=>aX c9 1 c6 λdb=>aV #[.I 0,.slice none 0 0] 135 c6 λdc dd=>aR dc 0 (.I da) dd λde=>aR dc 1 (.slice db.a db.len db.cap) de λdf=>bV (some j) λdg=>aR dg 1 (.slice none 0 0) df λdh=>bF (some j) 0 dh λdj=>aQ dc 0 dh λdk=>aX dc 1 dh λdl=>eX dl 1 1 (dl.len:Nat) (dl.cap:Nat) λdm=>Ya.c dj dk dm dh λdn dp=>dY dp λdq=>aT dq dc 1 λdr=>Ix dr.a dr.len 0 1 λds=>gG dq bN ds λ(dt:Int)=>bV a λdu=>aT dq du 0 λdv=>aS dq dc 0 λdw=>Ix dv.a dv.len dw 3 λdx=>aS dq dx 0 λdy=>
 aS dq dc 0 λdz=>YS.c a dt dy dz dp λd0 d1 d2 d3=>And (dq d3) <| aR f 0 (.I d1) d3 λd4=>aR f 1 (.I d2) d4 λd5=>aQ f 0 d5 λd6=>aQ f 1 d5 λd7=>e (d0) d6 d7 d5) (∃t217:Int,∃is5:Bool,kc c 220 [.I t217] [.I 0] is5 ∧ (If is5 (aV #[.I 0] 220 o λd8 d9=>dU d8 (.I t217) d9 λea=>aQ d8 0 ea λeb=>WP.c q eb 1 ea λec ed ee=>If (ed != 0) (aR f 0 (.I 0) ee λef=>aR f 1 (.I ed) ef λeg=>aQ f 0 eg λeh=>aQ f 1 eg λei=>e (.nilIface) eh ei eg) (bL (ec*256) λej=>aQ d8 0 ee λek=>bL (ek*256) λel=>YS.c a ej el (-1) ee λem en eo ep=>aR f 0 (.I en) ep λeq=>aR f 1 (.I eo) eq λer=>aQ f 0 er λes=>aQ f 1 er λet=>e (em) es et er)) (∃t240:Int,∃is6:Bool,kc c 222 [.I t240] [.I 0] is6 ∧ (If is6 (aV #[.I 0] 222 o λeu ev=>dU eu (.I t240) ev λew=>aQ eu 0 ew λex=>Zs.c a b ex ew λey ez e0 e1=>aR f 0 (.I ez) e1 λe2=>aR f 1 (.I e0) e2 λe3=>aQ f 0 e3 λe4=>aQ f 1 e3 λe5=>e (ey) e4 e5 e3) (∃t250:Int,∃t2501:Int,∃is7:Bool,kc c 238 [.I t250,.I t2501] [.I 0,.I 0] is7 ∧ (If is7 (aV #[.I 0,.I 0] 238 o λe6 e7=>aR e6 0 (.I t250) e7 λe8=>aR e6 1 (.I t2501) e8 λe9=>Jn [] (λfa=>bE (some j) 1 fa λfc=>eX fc 2 1 (fc.len:Nat) (fc.cap:Nat) λfd=>bV (some j) λfe=>aR fe 1 (.slice fd.a fd.len fd.cap) fa λff=>Jn [] (λfg=>
 WZ.c a b fg λfh fi=>aR f 0 (.I 0) fi λfj=>aR f 1 (.I 0) fj λfk=>aQ f 0 fk λfl=>aQ f 1 fk λfm=>e (fh) fl fm fk) λfn=>bF (some j) 0 ff λfp=>Yb.c fp ff λfq fr=>If fq (dY fr λfs=>bV (some j) λft=>aT fs ft 1 λfu=>bV (some j) λfv=>aU fs fv 0 λfw=>W0.c fw fr λfx fy=>And (fs fy) <| App fu 2 32 135 [.I 0,.slice none 0 0] fx fy λfz f0=>And (fs f0) <| bV (some j) λf1=>aR f1 1 (.slice fz.a fz.len fz.cap) f0 λf2=>fn f2) (fn fr)) λf3=>dY e9 λf4=>bV (some j) λf5=>aU f4 f5 0 λf6=>aS f4 e6 0 λf7=>aS f4 e6 1 λf8=>YE.c f6 f7 f8 e9 λf9 ga gb=>If (((f9.len:Nat):Int)>0) (aQ e6 0 gb λgc=>Yu.c a b gc f9 gb λgd=>f3 gd) (f3 gb)) (∃is8:Bool,kc c 241 [] [] is8 ∧ (If is8 (aV #[] 241 o λge gf=>bE (some j) 1 gf λgh=>Ix gh.a gh.len 0 2 λgi=>aQ gi 0 gf λgj=>aX gi 1 gf λgk=>aV #[.I 0,.slice none 0 0] 135 gf λgl gm=>aR gl 0 (.I gj) gm λgn=>aR gl 1 (.slice gk.a gk.len gk.cap) gn λgo=>bE (some j) 1 go λgq=>eX gq 2 1 (gq.len:Nat) (gq.cap:Nat) λgr=>Wq.c gr go λgs gt=>bV (some j) λgu=>aR gu 1 (.slice gs.a gs.len gs.cap) gt λgv=>dY gv λgw=>aS gw gl 0 λgx=>aT gw gl 1 λgy=>Zw.c a b gv λgz g0=>And (gw g0) <| Zv.c a gz gx gy g0 λg1=>
 WZ.c a b g1 λg2 g3=>aR f 0 (.I 0) g3 λg4=>aR f 1 (.I 0) g4 λg5=>aQ f 0 g5 λg6=>aQ f 1 g5 λg7=>e (g2) g6 g7 g5) (∃t332:Int,∃t3321:Int,∃is9:Bool,kc c 245 [.I t332,.I t3321] [.I 0,.I 0] is9 ∧ (If is9 (aV #[.I 0,.I 0] 245 o λg8 g9=>aR g8 0 (.I t332) g9 λha=>aR g8 1 (.I t3321) ha λhb=>bE a 7 hb λhd=>aQ g8 1 hb λhe=>Ix hd.a hd.len he 1 λhf=>fW hf hb λhg=>aQ g8 0 hb λhh=>WO.c hg hh hb λhi hj=>w hj) (∃is10:Bool,kc c 224 [] [] is10 ∧ (If is10 (aV #[] 224 o λhk hl=>bF (some j) 0 hl λhn=>XE.c hn hl λho hp=>bV (some j) λhq=>aR hq 1 (.slice ho.a ho.len ho.cap) hp λhr=>WZ.c a b hr λhs ht=>aR f 0 (.I 0) ht λhu=>aR f 1 (.I 0) hu λhv=>aQ f 0 hv λhw=>aQ f 1 hv λhx=>e (hs) hw hx hv) (w o))))))))))))))))))))))
theorem Zp.o {a b c d e}(f:Zp.v a b c d e):Zp.c a b c d e:=Wa Tryz.func104 (x:=Zp.h) (R0 f)
def Ze.h:Hn:=.q .o1 (.q (.q (.cQ (.seq [.op,.op,.op,.op,.cW false 4 (RI.ops 4),.op,.cW false 9 (RI.ops 9)])) .aK) (.q .fP .l))
def Ze.v (a:R2)(b:Int)(c:Hp)(d:ByteArray->Hp->Prop):Prop:=Xj.c a c λe f=>bW (λg h=>bW (λi j=>If i (d (ByteArray.mk #[]) j) (bE a 8 j λl=>Ix l.a l.len b 3 λm=>bA m 2 j λn=>ja Tryz.prog n "freehold/heap.name" [] [.one .str] j fun t33 v3 =>d t33 v3)) λo=>If g (o true h) (bE a 8 h λq=>Ix q.a q.len b 3 λr=>bA r 2 h λs=>And (iS s) <| o (kF s) h)) λt=>If (!e) (t true f) (X5.c a b f λu v=>t (!u) v)
theorem Ze.o {a b c d}(e:Ze.v a b c d):Ze.c a b c d:=Wa Tryz.func131 (x:=Ze.h) (R0 e)
def Qz.h:Hn:=.q .o2 (.q (.cQ (.seq [.op,.op,.op,.op,.cW true 3 (RI.ops 3),.op,.cW true 4 (RI.ops 4),.op,.cW true 3 (RI.ops 3),.op,.cW true 3 (RI.ops 3),.op,.cW true 3 (RI.ops 3),.op,.cW true 3 (RI.ops 3),.op,.cW true 3 (RI.ops 3),.op,.cW true 3 (RI.ops 3),.op,.cW true 3 (RI.ops 3),.op,.cW true 3 (RI.ops 3),.op])) .l)
def Qz.v (a b c d e:Int)(f:Hp)(g:aO):Prop:=aV #[.I a,.I b,.I c,.I d,.I e] 23 f λh i=>aQ h 0 i λj=>bW (λk l=>bW (λm n=>bW (λo p=>bW (λq r=>bW (λs t=>bW (λu v=>bW (λw x=>bW (λy z=>bW (λaa ab=>bW (λac ad=>g ac ad) λae=>If aa (aQ h 4 ab λaf=>ae (decide (af<=8)) ab) (ae false ab)) λag=>If y (aQ h 4 z λah=>ag (decide (ah≥0)) z) (ag false z)) λai=>If w (aQ h 3 x λaj=>ai (decide (aj<=65536)) x) (ai false x)) λak=>If u (aQ h 3 v λal=>ak (decide (al≥0)) v) (ak false v)) λam=>If s (aQ h 2 t λan=>am (decide (an<=4)) t) (am false t)) λao=>If q (aQ h 2 r λap=>ao (decide (ap≥1)) r) (ao false r)) λaq=>If o (aQ h 1 p λar=>aq (decide (ar<=4)) p) (aq false p)) λau=>If m (aQ h 1 n λav=>au (decide (av≥1)) n) (au false n)) λaw=>If k (aQ h 0 l λax=>Nz 16 <| aw ((ax.tmod 16)==0) l) (aw false l)) λay=>If (j≥32) (aQ h 0 i λaz=>ay (decide (az<=1024)) i) (ay false i)
theorem Qz.o {a b c d e f g}(h:Qz.v a b c d e f g):Qz.c a b c d e f g:=Wa Tryz.func141 (x:=Qz.h) (R0 h)
def Zw.h:Hn:=.q .o1 (.q .o8 .l)
def Zw.v (a:R2)(b:Int)(c:Hp)(d:aN):Prop:=bE a 7 c λf=>Nz ((f.len:Nat):Int) <| d (b.tmod ((f.len:Nat):Int)) c
theorem Zw.o {a b c d}(e:Zw.v a b c d):Zw.c a b c d:=Wa Tryz.func146 (x:=Zw.h) (R0 e)
def YS.h:Hn:=.q .o2 (.q (.cQ (.held true [12] (.tk [0,1,2,3,4,5,6,7,8,9] (.all [(10,.take 11 (.all [(12,.done)]))])))) (.q .o4 .l))
def YS.v (a:R2)(b c d:Int)(e:Hp)(f:Value->Int->Int->Hp->Prop):Prop:=aV #[.I 0,.I 0] 125 e λg h=>dY h λi=>bV a λj=>gG i .m (j.add 9) λ(k:Option Nat)=>Yc.c a b h λl m=>And (i m) <| kG .i64 (.ag 4) k b (b,c,d,l) m λn=>aR g 0 (.I b) n λo=>aR g 1 (.I 0) o λp=>aQ g 0 p λq=>aQ g 1 p λr=>f (.nilIface) q r p
theorem YS.o {a b c d e f}(g:YS.v a b c d e f):YS.c a b c d e f:=Wa Tryz.func148 (x:=YS.h) (R0 g)
def Yu.h:Hn:=.cQ (.held true [20] (.tk [0,1,2,3,4,5,6,7,8,9,10,11,12,13,14,15] (.all [(16,.all [(17,.take 18 (.take 19 (.all [(20,.done)])))])])))
def Yu.v (a:R2)(b c:Int)(d:Sl)(e:Hp)(f:aP):Prop:=dY e λg=>bV a λh=>aT g h 8 λi=>bV a λj=>aT g j 8 λk=>Ix k.a k.len b 3 λl=>aT g l 1 λm=>aV #[.I c,.slice d.a d.len d.cap] 135 e λn o=>And (g o) <| App m 2 32 135 [.I 0,.slice none 0 0] ⟨some n,1,1⟩ o λp q=>And (g q) <| Ix i.a i.len b 3 λr=>aR r 1 (.slice p.a p.len p.cap) q λs=>f s
theorem Yu.o {a b c d e f}(g:Yu.v a b c d e f):Yu.c a b c d e f:=Wa Tryz.func151 (x:=Yu.h) (R0 g)
def Zs.h:Hn:=.q .o2 (.q (.o 12) (.q (.q .o2 (.c (.kA [] (.q .o4 (.q .o2 (.c (.q (.o 16) (.q (.cQ (.seq [.op,.op,.op,.cW true 2 [.op,.op],.op,.cW true 3 (RI.ops 3)])) (.c (.q .o3 .l) .l))) .l))) (.q .o3 .l)) .l)) (.q .o6 (.q (.q .o3 (.c (.q .o9 .l) .l)) (.q .o7 (.q .o8 .l))))))
def Zs.v (a:R2)(b c:Int)(d:Hp)(e:Value->Int->Int->Hp->Prop):Prop:=aV #[.I 0,.I 0] 125 d λf g=>bI a 9 g λi=>Lk .i64 (.ag 4) i c g λj=>aV #[.I 0,.I 0,.I 0,.I 0] 112 g λk l=>aR k 0 (.I ((j.getD (0,0,0,0)).1)) l λm=>aR k 1 (.I ((j.getD (0,0,0,0)).2.1)) m λn=>aR k 2 (.I ((j.getD (0,0,0,0)).2.2.1)) n λo=>aR k 3 (.I ((j.getD (0,0,0,0)).2.2.2)) o λp=>If (!j.isSome) (Jn [] (λq=>aR f 0 (.I 0) q λr=>aR f 1 (.I 8) r λs=>aQ f 0 s λt=>aQ f 1 s λu=>e (.nilIface) t u s) λv=>Yc.c a c p λw x=>If (w≥0) (bE a 7 x λz=>Ix z.a z.len w 1 λaa=>fW aa x λab=>YW.c ab c x λac ad ae af=>bW (λag ah=>bW (λai aj=>If ai (aR f 0 (.I 0) aj λak=>aR f 1 (.I 9) ak λal=>aQ f 0 al λam=>aQ f 1 al λan=>e (.nilIface) am an al) (v aj)) λao=>If ag (ao (ad==c) ah) (ao false ah)) λap=>If (ae==0) (ap (decide (ac≥0)) af) (ap false af)) (v x)) (bI a 9 p λar=>lI .i64 (.ag 4) ar c p λau=>aQ k 2 au λav=>If (av<0) (Nz 256<|bL (c.tdiv 256) λaw=>aQ k 3 au λax=>aR f 0 (.I 0) au λay=>aR f 1 (.I 0) ay λaz=>aQ f 0 az λa0=>aQ f 1 az λa1=>e (.iface 245 (.agg #[.I aw,.I ax])) a0 a1 az) (aQ k 2 au λa2=>aV #[.I c] 3 au λa3 a4=>Yu.c a b a2 ⟨some a3,1,1⟩ a4 λa5=>aQ k 2 a5 λa6=>aR f 0 (.I 0) a5 λa7=>
 aR f 1 (.I 0) a7 λa8=>aQ f 0 a8 λa9=>aQ f 1 a8 λba=>e (.iface 238 (.agg #[.I a6,.I c])) a9 ba a8))
theorem Zs.o {a b c d e}(f:Zs.v a b c d e):Zs.c a b c d e:=Wa Tryz.func156 (x:=Zs.h) (R0 f)
def WZ.h:Hn:=.q .o1 (.q (.q .fP .aK) (.q .o3 .l))
def WZ.v (a:R2)(b:Int)(c:Hp)(d:Value->Hp->Prop):Prop:=bE a 8 c λf=>Ix f.a f.len b 3 λg=>aX g 1 c λh=>If (((h.len:Nat):Int)==0) (d (.nilIface) c) (d (.iface 241 (.agg #[])) c)
theorem WZ.o {a b c d}(e:WZ.v a b c d):WZ.c a b c d:=Wa Tryz.func160 (x:=WZ.h) (R0 e)
def Zv.h:Hn:=.q .o1 (.q .o7 (.q (.q .o4 (.k (.loop [(23,.I)] (.q .o1 (.q (.c .l .l) (.q (.k (.q .o3 (.q .o4 (.o 11)))) .o2)))))) (.kA [] (.q (.oq 9) (.c (.q (.cQ (.held true [] (.tk [0,1,2,3,4,5,6,7,8,9,10] (.all [(11,.tk [12,13,14,15,16] (.done))])))) (.q (.cQ (.seq [.op,.op,.cW true 2 [.op,.op]])) (.c .l .l))) .l)) (.q .o3 (.k (.loop [(72,.I)] (.q .o1 (.q (.c .l .l) (.q (.k (.q .o5 (.q .o3 (.c (.cQ (.tail 10 (RI.ops 10) [.op])) .l)))) .o2)))))))))
def Zv.v (a:R2)(b c:Int)(d:Sl)(e:Hp)(f:aP):Prop:=aV #[.I c,.slice d.a d.len d.cap] 135 e λg h=>bV a λi=>aX i 7 h λj=>Mk ((j.len:Nat):Int) ((j.len:Nat):Int) 24 34 [.slice none 0 0] h λk l=>aX g 1 l λm=>XW [bN] (λn=>n 0 l) λo (p:Int) q=>If (p<((m.len:Nat):Int)) (Ix m.a m.len p 1 λr=>bM r q λs=>Yc.c a s q λt u=>Ix k.a k.len t 1 λv=>ju v u λw=>aV #[.I s] 3 u λx y=>App w 1 8 3 [.I 0] ⟨some x,1,1⟩ y λz aa=>Ix k.a k.len t 1 λab=>dU ab (.slice z.a z.len z.cap) aa λac=>bL (p+1) λad=>o ad ac) (Jn [] (λae=>XW [bN] (λaf=>af 0 ae) λag (ah:Int) ai=>If (ah<((k.len:Nat):Int)) (Ix k.a k.len ah 1 λaj=>ju aj ai λak=>If (((ak.len:Nat):Int)>0) (bE a 7 ai λam=>Ix am.a am.len ah 1 λan=>fW an ai λao=>aQ g 0 ai λap=>WQ.c ao ap ak ai λaq ar=>bL (ah+1) λau=>ag au ar) (bL (ah+1) λav=>ag av ai)) (f ai)) λaw=>Ix k.a k.len b 1 λax=>ju ax q λay=>aX g 1 q λaz=>If (((ay.len:Nat):Int)==((az.len:Nat):Int)) (dY q λa0=>bV a λa1=>aT a0 a1 7 λa2=>Ix a2.a a2.len b 1 λa3=>gG a0 .p a3 λ(a4:R2)=>aS a0 g 0 λa5=>aT a0 g 1 λa6=>WH.c a4 a5 a6 q λa7 a8 a9=>And (a0 a9) <| bW (λba bb=>If ba (f bb) (aw bb)) λbc=>If a7 (bc (a8==0) a9) (bc false a9)) (aw q))
theorem Zv.o {a b c d e f}(g:Zv.v a b c d e f):Zv.c a b c d e f:=Wa Tryz.func162 (x:=Zv.h) (R0 g)
def Yc.h:Hn:=.q .o2 (.q (.q .o2 .aK) (.q .o7 .l))
def Yc.v (a:R2)(b:Int)(c:Hp)(d:aN):Prop:=aV #[.I b] 3 c λe f=>bM e f λg=>If (g<0) (d (-1) f) (bE a 7 f λi=>Wl.c i ⟨250,#[],#[.pointer (some e)]⟩ f λj k=>d j k)
theorem Yc.o {a b c d}(e:Yc.v a b c d):Yc.c a b c d:=Wa Tryz.func205 (x:=Yc.h) (R0 e)
def YZ.h:Hn:=.q .o1 (.q .o5 .l)
def YZ.v (a:R2)(b:Addr)(c:Hp)(d:aO):Prop:=bM b c λe=>Nz 256<|bL (e.tdiv 256) λf=>YY.c a f c λg h=>d g h
theorem YZ.o {a b c d}(e:YZ.v a b c d):YZ.c a b c d:=Wa Tryz.func250 (x:=YZ.h) (R0 e)
def ZW.h:Hn:=.q .o2 .aM
def ZW.v (a:Int)(b:Hp)(c:ByteArray->Hp->Prop):Prop:=aV #[.I a] 218 b λd e=>c (ByteArray.mk #[116,97,107,101]) e
theorem ZW.o {a b c}(d:ZW.v a b c):ZW.c a b c:=Wa Tryz.func346 (x:=ZW.h) (R0 d)
def ZL.h:Hn:=.q .o2 .aM
def ZL.v (a:Int)(b:Hp)(c:ByteArray->Hp->Prop):Prop:=aV #[.I a] 220 b λd e=>c (ByteArray.mk #[108,97,114,103,101]) e
theorem ZL.o {a b c}(d:ZL.v a b c):ZL.c a b c:=Wa Tryz.func347 (x:=ZL.h) (R0 d)
def ZT.h:Hn:=.q .o2 .aM
def ZT.v (a:Int)(b:Hp)(c:ByteArray->Hp->Prop):Prop:=aV #[.I a] 222 b λd e=>c (ByteArray.mk #[102,105,110,100]) e
theorem ZT.o {a b c}(d:ZT.v a b c):ZT.c a b c:=Wa Tryz.func348 (x:=ZT.h) (R0 d)
def ZN.h:Hn:=.q .o2 .aM
def ZN.v (a:Hp)(b:ByteArray->Hp->Prop):Prop:=aV #[] 224 a λc d=>b (ByteArray.mk #[100,114,97,105,110]) d
theorem ZN.o {a b}(c:ZN.v a b):ZN.c a b:=Wa Tryz.func349 (x:=ZN.h) (R0 c)
def Y1.h:Hn:=.q .o2 .aM
def Y1.v (a b:Int)(c:Hp)(d:ByteArray->Hp->Prop):Prop:=aV #[.I a,.I b] 228 c λe f=>d (ByteArray.mk #[116,114,97,110,115,102,101,114]) f
theorem Y1.o {a b c d}(e:Y1.v a b c d):Y1.c a b c d:=Wa Tryz.func350 (x:=Y1.h) (R0 e)
def ZS.h:Hn:=.q .o2 .aM
def ZS.v (a:Hp)(b:ByteArray->Hp->Prop):Prop:=aV #[] 230 a λc d=>b (ByteArray.mk #[102,105,108,108]) d
theorem ZS.o {a b}(c:ZS.v a b):ZS.c a b:=Wa Tryz.func351 (x:=ZS.h) (R0 c)
def Zk.h:Hn:=.q .o2 .aM
def Zk.v (a b:Int)(c:Hp)(d:ByteArray->Hp->Prop):Prop:=aV #[.I a,.I b] 231 c λe f=>d (ByteArray.mk #[99,101,110,116,114,97,108]) f
theorem Zk.o {a b c d}(e:Zk.v a b c d):Zk.c a b c d:=Wa Tryz.func352 (x:=Zk.h) (R0 e)
def ZV.h:Hn:=.q .o2 .aM
def ZV.v (a b:Int)(c:Hp)(d:ByteArray->Hp->Prop):Prop:=aV #[.I a,.I b] 233 c λe f=>d (ByteArray.mk #[103,114,111,119]) f
theorem ZV.o {a b c d}(e:ZV.v a b c d):ZV.c a b c d:=Wa Tryz.func353 (x:=ZV.h) (R0 e)
def Z7.h:Hn:=.q .o2 .aM
def Z7.v (a b:Int)(c:Hp)(d:ByteArray->Hp->Prop):Prop:=aV #[.I a,.I b] 238 c λe f=>d (ByteArray.mk #[112,117,116]) f
theorem Z7.o {a b c d}(e:Z7.v a b c d):Z7.c a b c d:=Wa Tryz.func354 (x:=Z7.h) (R0 e)
def ZY.h:Hn:=.q .o2 .aM
def ZY.v (a:Hp)(b:ByteArray->Hp->Prop):Prop:=aV #[] 241 a λc d=>b (ByteArray.mk #[98,97,99,107]) d
theorem ZY.o {a b}(c:ZY.v a b):ZY.c a b:=Wa Tryz.func355 (x:=ZY.h) (R0 c)
def ZU.h:Hn:=.q .o2 .aM
def ZU.v (a b:Int)(c:Hp)(d:ByteArray->Hp->Prop):Prop:=aV #[.I a,.I b] 245 c λe f=>d (ByteArray.mk #[103,105,118,101]) f
theorem ZU.o {a b c d}(e:ZU.v a b c d):ZU.c a b c d:=Wa Tryz.func356 (x:=ZU.h) (R0 e)
end Go.Proofs
namespace Go.Ar
open Go Go.Vc Go.Proofs
def mZ:Option Ph->Value
 | none=>.nilIface
 | some (.take k)=>.iface 218 (.agg #[.int .i64 (k:Int)])
 | some (.cI k w)=>.iface 228 (.agg #[.int .i64 (k:Int),.int .i64 (w:Int)])
 | some (.cJ k w)=>.iface 231 (.agg #[.int .i64 (k:Int),.int .i64 (w:Int)])
 | some (.grow k w)=>.iface 233 (.agg #[.int .i64 (k:Int),.int .i64 (w:Int)])
 | some .fill=>.iface 230 (.agg #[])
 | some (.eJ m)=>.iface 220 (.agg #[.int .i64 (m:Int)])
 | some (.find x)=>.iface 222 (.agg #[.int .i64 x])
 | some (.put k x)=>.iface 238 (.agg #[.int .i64 (k:Int),.int .i64 x])
 | some .back=>.iface 241 (.agg #[])
 | some (.dC s a)=>.iface 245 (.agg #[.int .i64 s,.int .i64 a])
 | some .drain=>.iface 224 (.agg #[])
theorem uu (p:Option Ph):iS (mZ p):=by
 cases p with
 | none=>exact .inl rfl
 | some p=>cases p<;>exact .inr ⟨_,_,rfl⟩
theorem wa (p:Option Ph):kF (mZ p)=p.isNone:=by
 cases p with
 | none=>rfl
 | some p=>cases p<;>rfl
inductive kQ where
 | hd|dE|sp|fO|cN|live
 | ar (k:Nat)
 | ca (k:Nat)
 | hn (k:Nat)
 deriving DecidableEq
structure eL where
 c:gN
 h:Sl
structure dI where
 p:Nat
 hs:Nat
 lm:Nat
 dE:Sl
 fO:Sl
 cN:Sl
 ys:List Lay
 ts:List eL
def yh (L:dI)(c:Cf):List Value:=[.slice L.dE.a L.dE.len L.dE.cap,.int .i64 (c.aF:Int),.int .i64 (c.ib:Int),.int .i64 (c.threads:Int),.int .i64 (c.dB:Int),.int .i64 (c.room:Int),
 .pointer (some ⟨L.hs,0,none⟩),.slice L.fO.a L.fO.len L.fO.cap,.slice L.cN.a L.cN.len L.cN.cap,.map (some L.lm)]
def jA (x:eL×Th):List Value:=[.pointer (some ⟨x.1.c.p,0,none⟩),.slice x.1.h.a x.1.h.len x.1.h.cap,mZ x.2.ph]
def gV (ts:List eL)(bQ:List Th):List Value:=(ts.zip bQ).flatMap jA
theorem Ga:∀{ts:List eL} {bQ:List Th},ts.length=bQ.length->(gV ts bQ).length=bQ.length*3
 | [],[],_=>rfl
 | x::ts,h::bQ,e=>by
  have e1:gV (x::ts) (h::bQ)=jA (x,h)++gV ts bQ:=rfl;have a:(jA (x,h)).length=3:=rfl;rw[e1,zO,Ga (by simpa using e),a,zX];omega
 | [],_::_,e=>by simp at e
 | _::_,[],e=>by simp at e
theorem An:∀{ts:List eL} {bQ:List Th} {i:Nat} {x:eL} {h:Th},ts[i]?=some x->bQ[i]?=some h->∀{d:Nat},d<3->(gV ts bQ)[3*i+d]?=(jA (x,h))[d]?
 | [],_,_,_,_,h1,_,_,_=>by simp at h1
 | _::_,[],_,_,_,_,h2,_,_=>by simp at h2
 | y::ts,g::bQ,0,x,h,h1,h2,d,hd=>by
  have e1:gV (y::ts) (g::bQ)=jA (y,g)++gV ts bQ:=rfl;have a:(jA (y,g)).length=3:=rfl;simp at h1 h2;subst h1;subst h2;rw[e1,zh O];congr 1;omega
 | y::ts,g::bQ,i+1,x,h,h1,h2,d,hd=>by
  have e1:gV (y::ts) (g::bQ)=jA (y,g)++gV ts bQ:=rfl;have a:(jA (y,g)).length=3:=rfl;rw[e1,zt O,a,show 3*(i+1)+d-3=3*i+d by omega];exact An (by simpa using h1) (by simpa using h2) hd
theorem yI:∀{ts:List eL} {bQ:List Th} {i:Nat} {x:eL} {h:Th},ts[i]?=some x->bQ[i]?=some h->∀{d:Nat} {v:Value} {x':eL} {h':Th},d<3->jA (x',h')=(jA (x,h)).set d v →
 (gV ts bQ).set (3*i+d) v=gV (ts.set i x') (bQ.set i h')
 | [],_,_,_,_,h1,_,_,_,_,_,_,_=>by simp at h1
 | _::_,[],_,_,_,_,h2,_,_,_,_,_,_=>by simp at h2
 | y::ts,g::bQ,0,x,h,h1,h2,d,v,x',h',hd,e=>by
  have e1:gV (y::ts) (g::bQ)=jA (y,g)++gV ts bQ:=rfl;have e2:gV ((y::ts).set 0 x') ((g::bQ).set 0 h')=jA (x',h')++gV ts bQ:=rfl;have a:(jA (y,g)).length=3:=rfl;simp at h1 h2;subst h1;subst h2;rw[e1,e2,List.set_append_left _ _ O,e,show 3*0+d=d by omega]
 | y::ts,g::bQ,i+1,x,h,h1,h2,d,v,x',h',hd,e=>by
  have e1:gV (y::ts) (g::bQ)=jA (y,g)++gV ts bQ:=rfl;have e2:gV ((y::ts).set (i+1) x') ((g::bQ).set (i+1) h')=jA (y,g)++gV (ts.set i x') (bQ.set i h'):=rfl;have a:(jA (y,g)).length=3:=rfl;rw[e1,e2,List.set_append_right _ _ O,a,show 3*(i+1)+d-3=3*i+d by omega];rw[yI (by simpa using h1) (by simpa using h2) hd e]
def n4 (y:Option Lay)(a:Option AR):Hp->Rg->Prop:=λU F=>match y,a with
 | some Y,some A=>dG U F Y A (cK A Y)
 | _,_=>True
def qx (x:Option eL)(h:Option Th)(tb:List bZ)(bud:Nat):Hp->Rg->Prop:=λU F=>match x,h with
 | some x,some h=>eH U F x.c tb bud h.ls
 | _,_=>True
def qd (x:Option eL)(h:Option Th):Hp->Rg->Prop:=λU F=>match x,h with
 | some x,some h=>iv x.h h.bP U F
 | _,_=>True
def CH (H:Hw)(L:dI):kQ->Hp->Rg->Prop
 | .hd=>iz L.p (yh L H.cf)
 | .dE=>cT L.dE 3 (gA H.tb)
 | .sp=>λU F=>dL U F L.hs H.sp
 | .fO=>cT L.fO 1 (fK (L.ys.map (·.p)))
 | .cN=>bR L.cN 3 (gV L.ts H.bQ)
 | .live=>jE L.lm .i64 (.ag 4) H.live
 | .ar k=>n4 L.ys[k]? H.bX[k]?
 | .ca t=>qx L.ts[t]? H.bQ[t]? H.tb H.cf.dB
 | .hn t=>qd L.ts[t]? H.bQ[t]?
theorem n4.loc (y:Option Lay)(a:Option AR):dM (n4 y a):=by
 intro U σ' F G h hz hs;unfold n4 at *;split at h
 ·exact dG.loc _ _ _ _ h hz hs
 ·trivial
theorem qx.loc (x:Option eL)(h:Option Th)(tb:List bZ)(bud:Nat):dM (qx x h tb bud):=by
 intro U σ' F G h hz hs;unfold qx at *;split at h
 ·exact eH.loc _ _ _ _ h hz hs
 ·trivial
theorem qd.loc (x:Option eL)(h:Option Th):dM (qd x h):=by
 intro U σ' F G h hz hs;unfold qd at *;split at h
 ·exact iv.loc _ _ _ _ _ _ h hz hs
 ·trivial
theorem CH.loc {H:Hw}{L:dI}:∀i,dM (CH H L i)
 | .hd=>iz.loc _ _
 | .dE=>cT.loc _ _ _
 | .sp=>dL.loc
 | .fO=>cT.loc _ _ _
 | .cN=>bR.loc _ _ _
 | .live=>jE.loc _ _ _ _
 | .ar k=>n4.loc _ _
 | .ca t=>qx.loc _ _ _ _
 | .hn t=>qd.loc _ _
structure HS (L:dI) (H:Hw):Prop where
 ys:L.ys.length=H.bX.length
 hs:∀Y∈L.ys,Y.hs=L.hs
 ts:L.ts.length=H.bQ.length
 a1:1<=H.bX.length
 a2:H.bX.length<=4
 t1:1<=H.bQ.length
 t2:H.bQ.length<=4
 tb:∀A∈H.bX,A.tb=H.tb
structure HH (U:Hp) (F:Rg) (L:dI) (H:Hw):Prop where
 s:HS L H
 sep:Sep (CH H L) U F
 g:Gl U
 gd:Gd U
 o:jc F
 o2:¬F 1
variable {U:Hp}{F:Rg}{L:dI}{H:Hw}{t k:Nat}
theorem HH.bO (h:HH U F L H){σ':Hp}(e:aG U σ'):HH σ' F L H:=⟨h.s,(Sep.loc CH.loc).bO h.sep e,h.g.bO e,h.gd.bO e,h.o,h.o2⟩
theorem HH.bS (h:HH U F L H){σ':Hp}{T:Rg}(e:Ext T U σ')(hT:∀b,b<U.size->F b->¬T b)(hg:jc T)(hg2:¬T 1):HH σ' F L H:=⟨h.s,(Sep.loc CH.loc).bS h.sep e hT,h.g.bS e hg,h.gd.bS e hg2,h.o,h.o2⟩
theorem AA {U:Hp}(g:Gd U):1<U.size:=g.lt
theorem HH.mono (h:HH U F L H){G:Rg}(hs:∀b,b<U.size->F b->G b)(o:jc G)(o2:¬G 1):HH U G L H:=⟨h.s,(Sep.loc CH.loc).mono h.sep hs,h.g,h.gd,o,o2⟩
theorem HH.oG (h:HH U F L H):jc (Grow F U):=h.o.grow h.g
theorem HH.qN (h:HH U F L H):¬Grow F U 1:=λa=>by
 rcases a with a|a
 ·exact h.o2 a
 ·have:=AA h.gd;omega
theorem HH.sub (h:HH U F L H){G:Rg}(hs:∀b,b<U.size->F b->G b)(hg:∀b,G b->F b\/U.size<=b):HH U G L H:=
 h.mono hs (h.oG.sub hg) λa=>h.qN (hg _ a)
theorem HH.xk {v v':Hp}{G T:Rg}{L0:dI}{H0:Hw}(h0:HH U F L0 H0)(h:HH v G L H)(e:Ext T v v')(hT:∀b,T b->U.size<=b)(hG:∀b,b<v.size->G b->¬T b):HH v' G L H:=
 h.bS e hG (h0.oG.sub λb a=>.inr (hT b a)) λa=>h0.qN (.inr (hT _ a))
theorem HH.grown {σ':Hp}{R:Rg}{L':dI}{H':Hw}(h:HH U F L H)(h':HH σ' R L' H')(hr:∀b,b<σ'.size->R b->Grow F U b):HH σ' (Grow F U) L' H':=h'.mono hr h.oG h.qN
theorem HH.cut (h:HH U F L H):HH U (Cut F U) L H:=h.sub (λb a d=>⟨d,a⟩) λb a=>.inl a.1
theorem HH.lY (h:HH U F L H)(i:kQ):∃G:Rg,(∀b,G b->F b)/\CH H L i U G/\(∀j,j≠i->∃D:Rg,(∀b,D b->F b)/\(∀b,D b->¬G b)/\CH H L j U D) ∧
 ∀(σ':Hp) (H':Hw) (L':dI) (G':Rg),HS L' H'->(∀j,j≠i->CH H' L' j=CH H L j)->Ext G U σ'->(∀b,G' b->Grow G U b)->CH H' L' i σ' G' →
  Ext F U σ'/\HH σ' (λb=>F b/\b<U.size/\¬G b\/G' b) L' H':=by
 obtain⟨G,r,w,hd,d⟩:=h.sep.jX CH.loc i;refine⟨G,r,w,hd,λσ' H' L' G' u x e s y=>?_⟩;have p:=e.sub r;have m:∀b,(F b/\b<U.size/\¬G b\/G' b)->Grow F U b:=λb a=>by
  rcases a with a|a
  ·exact .inl a.1
  ·exact(s b a).imp (r b) id
 refine⟨p,u,d σ' (CH H' L') G' x e s y (CH.loc _),h.g.bS p h.o,h.gd.bS p h.o2,λb a=>(h.o.grow h.g) b (m b a),λa=>?_⟩;rcases m _ a with h1|h1
 ·exact h.o2 h1
 ·have:=AA h.gd;omega
theorem _root_.Go.Vc.Sep.tP {L:Type}{C:L->Hp->Rg->Prop}{U:Hp}{F:Rg}(hC:∀i,dM (C i))(h:Sep C U F)(i j:L)(hij:i≠j)(N:Rg)(hN:∀b,b<U.size->F b->¬N b):∃G D:Rg,(∀b,G b->F b)/\(∀b,D b->F b)/\(∀b,G b->¬D b)/\C i U G/\C j U D/\(∀m,m≠i->m≠j->∃E:Rg,(∀b,E b->F b)/\(∀b,E b->¬(G b\/D b))/\C m U E) ∧
 ∀(σ':Hp) (C':L->Hp->Rg->Prop) (G' D':Rg),(∀k,k≠i->k≠j->C' k=C k)->Ext (λb=>G b\/D b) U σ'->(∀b,G' b->(G b\/D b)\/N b)->(∀b,D' b->(G b\/D b)\/N b)->(∀b,G' b->¬D' b)->C' i σ' G'->C' j σ' D'->(∀k,dM (C' k)) →
 Sep C' σ' λb=>F b/\b<U.size/\¬(G b\/D b)\/G' b\/D' b:=by
 obtain⟨ρ,h⟩:=h
 let G:Rg:=λb=>F b/\ρ b=i
 let D:Rg:=λb=>F b/\ρ b=j
 refine⟨G,D,λb a=>a.1,λb a=>a.1,λb x w=>hij (x.2.symm.trans w.2),h i,h j,λm x w=>⟨λb=>F b/\ρ b=m,λb a=>a.1,λb a d=>d.elim (λu=>x (a.2.symm.trans u.2)) λu=>w (a.2.symm.trans u.2),h m⟩,λσ' C' G' D' H e A B hd J z y=>?_⟩
 open Classical in
 refine⟨λb=>if G' b then i else if D' b then j else ρ b,λk=>?_⟩
 by_cases hki:k=i
 ·subst hki;exact(y _).mono J λb _ a=>⟨.inr (.inl a),zC a⟩
 by_cases hkj:k=j
 ·subst hkj;exact(y _).mono z λb _ a=>⟨.inr (.inr a),by show(if G' b then i else if D' b then k else ρ b)=k;rw[zB λd=>hd b d a,zC a]⟩
 ·rw[H k hki hkj];refine hC k _ _ _ _ (h k) e.1 λb a g=>?_;have s:¬(G b\/D b):=by
   rintro(d|d)
   ·exact hki (g.2.symm.trans d.2)
   ·exact hkj (g.2.symm.trans d.2)
  have p:¬G' b:=λd=>(A b d).elim s (hN b a g.1);have r:¬D' b:=λd=>(B b d).elim s (hN b a g.1);exact⟨⟨.inl ⟨g.1,a,s⟩,by show(if G' b then i else if D' b then j else ρ b)=k;rw[zB p,zB r];exact g.2⟩,e.2 b a s⟩
theorem HH.oQ (h:HH U F L H)(i j:kQ)(hij:i≠j)(N:Rg)(hN:∀b,b<U.size->F b->¬N b)(oN:jc N)(oN2:¬N 1):∃G D:Rg,(∀b,G b->F b)/\(∀b,D b->F b)/\(∀b,G b->¬D b)/\CH H L i U G/\CH H L j U D/\(∀m,m≠i->m≠j->∃E:Rg,(∀b,E b->F b)/\(∀b,E b->¬(G b\/D b))/\CH H L m U E) ∧
 ∀(σ':Hp) (H':Hw) (L':dI) (G' D':Rg),HS L' H'->(∀m,m≠i->m≠j->CH H' L' m=CH H L m)->Ext (λb=>G b\/D b) U σ'->(∀b,G' b->(G b\/D b)\/N b)->(∀b,D' b->(G b\/D b)\/N b)->(∀b,G' b->¬D' b)->CH H' L' i σ' G'->CH H' L' j σ' D' →
  Ext F U σ'/\HH σ' (λb=>F b/\b<U.size/\¬(G b\/D b)\/G' b\/D' b) L' H':=by
 obtain⟨G,D,s,u,hd,K,B,r,d⟩:=h.sep.tP CH.loc i j hij N hN;refine⟨G,D,s,u,hd,K,B,r,λσ' H' L' G' D' J C e z A w P M=>?_⟩;have x:Ext F U σ':=e.sub λb a=>a.elim (s b) (u b);have p:∀b,(F b/\b<U.size/\¬(G b\/D b)\/G' b\/D' b)->F b\/N b:=λb a=>by
  rcases a with a|a|a
  ·exact .inl a.1
  ·exact(z b a).imp (λy=>y.elim (s b) (u b)) id
  ·exact(A b a).imp (λy=>y.elim (s b) (u b)) id
 refine⟨x,J,d σ' (CH H' L') G' D' C e z A w P M CH.loc,h.g.bS x h.o,h.gd.bS x h.o2,λb a=>(p b a).elim (h.o b) (oN b),λa=>?_⟩;exact(p _ a).elim h.o2 oN2
theorem HH.mJ (h:HH U F L H):jc (λb=>U.size<=b)/\¬(U.size<=1):=⟨h.oG.sub λb a=>.inr a,λa=>h.qN (.inr a)⟩
theorem HH.ot (h:HH U F L H)(i j:kQ)(hij:i≠j):∃G D:Rg,(∀b,G b->F b)/\(∀b,D b->F b)/\(∀b,G b->¬D b)/\CH H L i U G/\CH H L j U D/\(∀m,m≠i->m≠j->∃E:Rg,(∀b,E b->F b)/\(∀b,E b->¬(G b\/D b))/\CH H L m U E) ∧
 ∀(σ':Hp) (H':Hw) (L':dI) (G' D':Rg),HS L' H'->(∀m,m≠i->m≠j->CH H' L' m=CH H L m)->Ext (λb=>G b\/D b) U σ'->(∀b,G' b->(G b\/D b)\/U.size<=b)->(∀b,D' b->(G b\/D b)\/U.size<=b)->(∀b,G' b->¬D' b)->CH H' L' i σ' G'->CH H' L' j σ' D' →
  Ext F U σ'/\HH σ' (λb=>F b/\b<U.size/\¬(G b\/D b)\/G' b\/D' b) L' H':=
 h.oQ i j hij _ (λb a _=>O) h.mJ.1 h.mJ.2
theorem HH.hd (h:HH U F L H):bY U L.p (yh L H.cf):=by obtain⟨G,b,a⟩:=h.sep.get .hd;exact a.2
theorem HH.jG (h:HH U F L H):cT L.dE 3 (gA H.tb) U F:=by
 obtain⟨G,d,a⟩:=h.sep.get .dE;exact aH.mono a λb _ a=>d b a
theorem HH.oK (h:HH U F L H):L.dE.len=H.tb.length:=by
 have:=h.jG.1;rw[Ua]at this;omega
theorem HH.m4 (h:HH U F L H):cT L.fO 1 (fK (L.ys.map (·.p))) U F:=by
 obtain⟨G,d,a⟩:=h.sep.get .fO;exact aH.mono a λb _ a=>d b a
theorem HH.m6 (h:HH U F L H):L.fO.len=H.bX.length:=by
 have:=h.m4.1;have:=h.s.ys;simp[fK]at *;omega
theorem HH.nb (h:HH U F L H):cT L.cN 3 (gV L.ts H.bQ) U F:=by
 obtain⟨G,d,a⟩:=h.sep.get .cN;exact aH.mono (bR.fX a) λb _ a=>d b a
theorem HH.lL (h:HH U F L H):L.cN.len=H.bQ.length:=by
 have:=h.nb.1;rw[Ga h.s.ts]at this;omega
theorem HH.kK (h:HH U F L H):dH U L.lm .i64 (.ag 4) H.live:=by obtain⟨G,b,a⟩:=h.sep.get .live;exact a.2
theorem HH.Tt (h:HH U F L H):dL U F L.hs H.sp:=by
 obtain⟨G,d,a⟩:=h.sep.get .sp;exact dM.mono dL.loc a λb _ a=>d b a
theorem HH.ar (h:HH U F L H){A:AR}(hk:H.bX[k]?=some A):∃Y,L.ys[k]?=some Y/\Y.hs=L.hs/\dG U F Y A (cK A Y):=by
 have g:=(cX.1 hk).1;have d:L.ys[k]?=some (L.ys[k]'(by rw[h.s.ys];exact g)):=cU _;obtain⟨G,e,a⟩:=h.sep.get (.ar k);simp only[CH,hk,d,n4]at a;exact⟨_,d,h.s.hs _ (zG d),a.mono λb _ a=>e b a⟩
theorem HH.rA (h:HH U F L H){Y:Lay}(hy:L.ys[k]?=some Y){K:Option Addr->Prop}(hK:K (some ⟨Y.p,0,none⟩)):Ix L.fO.a L.fO.len (k:Int) 1 λa=>fW a U K:=
 A3 h.m4 (by simp[hy]) hK
theorem HH.th (h:HH U F L H)(ht:t<H.bQ.length):∃x g,L.ts[t]?=some x/\H.bQ[t]?=some g:=⟨L.ts[t]'(by rw[h.s.ts];exact ht),H.bQ[t],cU _,cU _⟩
theorem wF {s:Sl}{ts:List eL}{bQ:List Th}(h:cT s 3 (gV ts bQ) U F){x:eL}{g:Th}(hx:ts[t]?=some x)(hg:bQ[t]?=some g){d:Nat}(hd:d<3){v:Value}(hv:(jA (x,g))[d]?=some v):∃b o,s.a=some ⟨b,o,none⟩/\cell U ⟨b,o+(3*t+d),none⟩=some v:=
 h.cell ((An hx hg hd).trans hv)
theorem BX {s:Sl}{ts:List eL}{bQ:List Th}(hs:cT s 3 (gV ts bQ) U F)(hl:ts.length=bQ.length){x:eL}{g:Th}(hx:ts[t]?=some x)(hg:bQ[t]?=some g){d:Nat}(hd:d<3){v:Value}(hv:(jA (x,g))[d]?=some v){K:Addr->Prop}
 (hK:∀b o,s.a=some ⟨b,o,none⟩->cell U (Addr.add ⟨b,o+3*t,none⟩ d)=some v->K ⟨b,o+3*t,none⟩):Ix s.a s.len (t:Int) 3 K:=by
 have m:=(cX.1 hg).1;have e:=hs.1;rw[Ga hl]at e;obtain⟨b,o,i,j⟩:=wF hs hx hg hd hv;rw[i];refine ix O O ?_;rw[add_lit,show o+(t:Int).toNat*3=o+3*t by omega];exact hK b o i (by rw[add_lit,show o+3*t+d=o+(3*t+d) by omega];exact j)
theorem HH.DI (h:HH U F L H){x:eL}{g:Th}(hx:L.ts[t]?=some x)(hg:H.bQ[t]?=some g){d:Nat}(hd:d<3){v:Value}(hv:(jA (x,g))[d]?=some v){K:Addr->Prop}
 (hK:∀b o,cell U (Addr.add ⟨b,o+3*t,none⟩ d)=some v->K ⟨b,o+3*t,none⟩):Ix L.cN.a L.cN.len (t:Int) 3 K:=
 BX h.nb h.s.ts hx hg hd hv λb o _ e=>hK b o e
theorem HH.tS (h:HH U F L H){x:eL}{g:Th}(hx:L.ts[t]?=some x)(hg:H.bQ[t]?=some g){K:Sl->Prop}(hK:K x.h):Ix L.cN.a L.cN.len (t:Int) 3 λa=>ju (a.add 1) U K:=
 h.DI hx hg (d:=1) O rfl λb o e=>og e hK
theorem HH.tR (h:HH U F L H){x:eL}{g:Th}(hx:L.ts[t]?=some x)(hg:H.bQ[t]?=some g){K:Value->Prop}(hK:K (mZ g.ph)):Ix L.cN.a L.cN.len (t:Int) 3 λa=>yV (a.add 2) U K:=
 h.DI hx hg (d:=2) O rfl λb o e=>⟨_,e,hK⟩
theorem HS.dV (h:HS L H){bQ:List Th}{ts:List eL}(e:ts.length=bQ.length)(e2:bQ.length=H.bQ.length):HS {L with ts:=ts} {H with bQ:=bQ}:=⟨h.ys,h.hs,e,h.a1,h.a2,by rw[e2];exact h.t1,by rw[e2];exact h.t2,h.tb⟩
theorem HS.cD (h:HS L H){A:AR}{sp:Sp}(e:A.tb=H.tb):HS L {H.cD k A with sp:=sp}:=⟨by simp[Hw.cD,h.ys],h.hs,h.ts,by simp[Hw.cD,h.a1],by simp[Hw.cD,h.a2],h.t1,h.t2,λB a=>by
 rcases yY a with h1|h1
 ·exact h.tb B h1
 ·subst h1;exact e⟩
theorem EL {A:AR}:∀j,j≠kQ.ar k->CH (H.cD k A) L j=CH H L j:=by
 intro j hj;cases j<;>try rfl
 rename_i m;have a:m≠k:=λe=>hj (by rw[e]);simp only[CH,Hw.cD,zj (Ne.symm a)]
theorem CZ {sp:Sp}:∀j,j≠kQ.sp->CH {H with sp:=sp} L j=CH H L j:=by
 intro j hj;cases j<;>first|rfl|exact absurd rfl hj
theorem NH {l:List (Int×Bk)}:∀j,j≠kQ.live->CH {H with live:=l} L j=CH H L j:=by
 intro j hj;cases j<;>first|rfl|exact absurd rfl hj
theorem HH.wR (h:HH U F L H){A:AR}(hk:H.bX[k]?=some A):∃(Y:Lay) (G:Rg),L.ys[k]?=some Y/\Y.hs=L.hs/\(∀b,G b->F b)/\dG U G Y A (cK A Y)/\∀(σ':Hp) (A':AR) (G':Rg),A'.tb=A.tb->Ext G U σ'->(∀b,G' b->Grow G U b)->dG σ' G' Y A' (cK A' Y) →
 Ext F U σ'/\HH σ' (λb=>F b/\b<U.size/\¬G b\/G' b) L (H.cD k A'):=by
 have g:=(cX.1 hk).1;have d:L.ys[k]?=some (L.ys[k]'(by rw[h.s.ys];exact g)):=cU _;generalize (L.ys[k]'(by rw[h.s.ys];exact g))=Y at d;obtain⟨G,m,j,_,a⟩:=h.lY (.ar k);simp only[CH,hk,d,n4]at j;refine⟨Y,G,d,h.s.hs _ (zG d),m,j,λσ' A' G' i e p r=>?_⟩;refine a σ' (H.cD k A') L G' (h.s.cD (sp:=H.sp) (i.trans (h.s.tb A (zG hk)))) EL e p ?_;simp only[CH,Hw.cD,d,zM g,n4];exact r
theorem HH.pt (h:HH U F L H){A:AR}(hk:H.bX[k]?=some A):∃(Y:Lay) (G D:Rg),L.ys[k]?=some Y/\Y.hs=L.hs/\W2 U G D Y A (cK A Y) H.sp/\∀(σ':Hp) (A':AR) (sp':Sp) (G' D':Rg),A'.tb=A.tb->Ext (iN G D) U σ'->Fits U G D G' D'->W2 σ' G' D' Y A' (cK A' Y) sp' →
 Ext F U σ'/\HH σ' (Grow F U) L {H.cD k A' with sp:=sp'}:=by
 have C:=(cX.1 hk).1;have i:L.ys[k]?=some (L.ys[k]'(by rw[h.s.ys];exact C)):=cU _;generalize (L.ys[k]'(by rw[h.s.ys];exact C))=Y at i;obtain⟨G,D,y,K,hd,M,z,_,w⟩:=h.ot (.ar k) .sp (by intro e;cases e);simp only[CH,hk,i,n4]at M;have z:dL U D L.hs H.sp:=z;have p:=h.s.hs _ (zG i);refine⟨Y,G,D,i,p,⟨M,by rw[p];exact z,hd,h.g,h.o.sub y,h.o.sub K⟩,λσ' A' sp' G' D' E e N J=>?_⟩;have r:∀b,G' b->(G b\/D b)\/U.size<=b:=λb x=>(N.1 b x).imp .inl id;have u:∀b,D' b->(G b\/D b)\/U.size<=b:=λb x=>.inl (.inr (N.2 b x));have P:∀m,m≠kQ.ar k->m≠kQ.sp->CH {H.cD k A' with sp:=sp'} L m=CH H L m:=λm B R=>
  (EL (H:={H with sp:=sp'}) (L:=L) (A:=A') m B).trans (CZ m R)
 have S:CH {H.cD k A' with sp:=sp'} L (.ar k) σ' G':=by
  simp only[CH,Hw.cD,i,zM C,n4];exact J.a
 have Q:CH {H.cD k A' with sp:=sp'} L .sp σ' D':=by
  show dL σ' D' L.hs sp';rw[←p];exact J.s
 obtain⟨e1,B⟩:=w σ' {H.cD k A' with sp:=sp'} L G' D' (h.s.cD (E.trans (h.s.tb A (zG hk)))) P e r u J.d S Q;refine⟨e1,h.grown B λb x j=>?_⟩;rcases j with j|j|j
 ·exact .inl j.1
 ·exact(r b j).imp (λi=>i.elim (y b) (K b)) id
 ·exact(u b j).imp (λi=>i.elim (y b) (K b)) id
theorem HH.xp (h:HH U F L H):∃G:Rg,(∀b,G b->F b)/\dL U G L.hs H.sp/\jc G/\∀(σ':Hp) (sp':Sp),Ext G U σ'->dL σ' (Grow G U) L.hs sp'->Ext F U σ'/\HH σ' (Grow F U) L {H with sp:=sp'}:=by
 obtain⟨G,g,j,_,a⟩:=h.lY .sp;refine⟨G,g,j,h.o.sub g,λσ' sp' e hs=>?_⟩;obtain⟨e1,m⟩:=a σ' {H with sp:=sp'} L (Grow G U) ⟨h.s.ys,h.s.hs,h.s.ts,h.s.a1,h.s.a2,h.s.t1,h.s.t2,h.s.tb⟩ CZ e (λb i=>i) hs;exact⟨e1,h.grown m λb i d=>by
  rcases d with d|d
  ·exact .inl d.1
  ·exact d.imp (g b) id⟩
theorem HH.r7 (h:HH U F L H):F L.lm/\∀(σ':Hp) (l:List (Int×Bk)),QB U σ' L.lm->dH σ' L.lm .i64 (.ag 4) l->Ext F U σ'/\HH σ' F L {H with live:=l}:=by
 obtain⟨G,i,a,_,d⟩:=h.lY .live;have a:jE L.lm .i64 (.ag 4) H.live U G:=a;refine⟨i _ a.1,λσ' l m j=>?_⟩;obtain⟨e1,p⟩:=d σ' {H with live:=l} L G ⟨h.s.ys,h.s.hs,h.s.ts,h.s.a1,h.s.a2,h.s.t1,h.s.t2,h.s.tb⟩ NH (m.ext.sub λb g=>by rw[g];exact a.1) (λb g=>.inl g) ⟨a.1,j⟩;exact⟨e1,p.mono (λb _ e=>by
  rcases e with e|e
  ·exact e.1
  ·exact i b e) h.o h.o2⟩
theorem HH.oA (h:HH U F L H){x:eL}{g:Th}(hx:L.ts[t]?=some x)(hg:H.bQ[t]?=some g):∃G:Rg,(∀b,G b->F b)/\eH U G x.c H.tb H.cf.dB g.ls/\∀(σ':Hp) (ls:List Li) (Y':gN) (G':Rg),Y'.p=x.c.p->Ext G U σ'->(∀b,G' b->Grow G U b)->eH σ' G' Y' H.tb H.cf.dB ls →
 Ext F U σ'/\HH σ' (λb=>F b/\b<U.size/\¬G b\/G' b) {L with ts:=L.ts.set t {x with c:=Y'}} {H with bQ:=H.bQ.set t {g with ls:=ls}}:=by
 have r:=(cX.1 hx).1;have i:=(cX.1 hg).1;obtain⟨G,A,z,_,a⟩:=h.lY (.ca t);simp only[CH,hx,hg,qx]at z;refine⟨G,A,z,λσ' ls Y' G' C e w D=>?_⟩;have y:gV (L.ts.set t {x with c:=Y'}) (H.bQ.set t {g with ls:=ls})=gV L.ts H.bQ:=by
  have E:(gV L.ts H.bQ).set (3*t+0) (.pointer (some ⟨x.c.p,0,none⟩))=gV L.ts H.bQ:=Qh (An hx hg O);rw[←E];exact(yI hx hg (d:=0) O (by simp[jA,C])).symm
 refine a σ' {H with bQ:=H.bQ.set t {g with ls:=ls}} {L with ts:=L.ts.set t {x with c:=Y'}} G' (h.s.dV (by simp[h.s.ts]) aA) (λj B=>?_) e w ?_
 ·cases j<;>try rfl
  ·simp only[CH,y]
  ·rename_i m;have u:m≠t:=λe=>B (by rw[e]);simp only[CH,zj (Ne.symm u)]
  ·rename_i m;by_cases u:m=t
   ·subst u;simp only[CH,zM r,zM i,hx,hg];rfl
   ·simp only[CH,zj (Ne.symm u)]
 ·simp only[CH,zM r,zM i,qx];exact D
theorem HH.rQ (h:HH U F L H){x:eL}{g:Th}(hx:L.ts[t]?=some x)(hg:H.bQ[t]?=some g)(N:Rg)(hN:∀b,b<U.size->F b->¬N b)(oN:jc N)(oN2:¬N 1):∃G D:Rg,(∀b,G b->F b)/\(∀b,D b->F b)/\(∀b,G b->¬D b)/\iv x.h g.bP U G/\bR L.cN 3 (gV L.ts H.bQ) U D/\(∃E:Rg,(∀b,E b->¬G b)/\(∀b,E b->¬D b)/\iz L.p (yh L H.cf) U E) ∧
 ∀(σ':Hp) (s:Sl) (bs:List Bt) (G' D':Rg),Ext (λb=>G b\/D b) U σ'->(∀b,G' b->(G b\/D b)\/N b)->(∀b,D' b->(G b\/D b)\/N b)->(∀b,G' b->¬D' b)->iv s bs σ' G'->bR L.cN 3 ((gV L.ts H.bQ).set (3*t+1) (.slice s.a s.len s.cap)) σ' D' →
  Ext F U σ'/\HH σ' (λb=>F b/\b<U.size/\¬(G b\/D b)\/G' b\/D' b) {L with ts:=L.ts.set t {x with h:=s}} {H with bQ:=H.bQ.set t {g with bP:=bs}}:=by
 have u:=(cX.1 hx).1;have i:=(cX.1 hg).1;obtain⟨G,D,Q,X,hd,P,z,r,j⟩:=h.oQ (.hn t) .cN (by intro e;cases e) N hN oN oN2;simp only[CH,hx,hg,qd]at P;have z:bR L.cN 3 (gV L.ts H.bQ) U D:=z;obtain⟨E,_,M,J⟩:=r .hd (by intro e;cases e) (by intro e;cases e);refine⟨G,D,Q,X,hd,P,z,⟨E,λb A hx=>M b A (.inl hx),λb A hx=>M b A (.inr hx),J⟩,λσ' s bs G' D' e C K y W V=>?_⟩;have B:gV (L.ts.set t {x with h:=s}) (H.bQ.set t {g with bP:=bs})=(gV L.ts H.bQ).set (3*t+1) (.slice s.a s.len s.cap):=(yI hx hg (d:=1) O (by simp[jA])).symm;refine j σ' {H with bQ:=H.bQ.set t {g with bP:=bs}} {L with ts:=L.ts.set t {x with h:=s}} G' D' (h.s.dV (by simp[h.s.ts]) aA) (λm S R=>?_) e C K y ?_ ?_
 ·cases m<;>first|rfl|exact absurd rfl R|skip
  ·rename_i m;by_cases w:m=t
   ·subst w;simp only[CH,zM u,zM i,hx,hg];rfl
   ·simp only[CH,zj (Ne.symm w)]
  ·rename_i m;have w:m≠t:=λe=>S (by rw[e]);simp only[CH,zj (Ne.symm w)]
 ·simp only[CH,zM u,zM i,qd];exact W
 ·simp only[CH,B];exact V
theorem HH.rX (h:HH U F L H){x:eL}{g:Th}(hx:L.ts[t]?=some x)(hg:H.bQ[t]?=some g)(p:Option Ph){K:aP}(hK:∀σ',Ext F U σ'->HH σ' F L {H with bQ:=H.bQ.set t {g with ph:=p}}->K σ') :
 Ix L.cN.a L.cN.len (t:Int) 3 λa=>And (iS (mZ p)) (dU (a.add 2) (mZ p) U K):=by
 have E:=(cX.1 hx).1;have u:=(cX.1 hg).1;have A:=h.lL;obtain⟨G,B,w,_,i⟩:=h.lY .cN;have w:bR L.cN 3 (gV L.ts H.bQ) U G:=w;have J:=Ga h.s.ts;obtain⟨b,y⟩:∃b,L.cN.a=some ⟨b,0,none⟩:=by
  rcases w.2 with⟨h0,_⟩|⟨b,_,_,ha,_⟩
  ·omega
  ·exact⟨b,ha⟩
 rw[y];refine ix O O ⟨uu p,?_⟩;refine w.st (j:=3*t+2) O (λN r=>by rw[y]at r;cases r;rw[add_lit,add_lit];congr 1;omega) λσ' e D=>?_;have z:gV L.ts (H.bQ.set t {g with ph:=p})=(gV L.ts H.bQ).set (3*t+2) (mZ p):=by
  have:=yI hx hg (d:=2) (v:=mZ p) (x':=x) (h':={g with ph:=p}) O (by simp[jA]);rw[this,Qh hx]
 obtain⟨e1,M⟩:=i σ' {H with bQ:=H.bQ.set t {g with ph:=p}} L G (h.s.dV (ts:=L.ts) (by simp[h.s.ts]) aA) (λj C=>by
  cases j<;>first|rfl|exact absurd rfl C|skip
  ·rename_i m;by_cases hm:t=m
   ·subst hm;simp only[CH,zM u,hx,hg];rfl
   ·simp only[CH,zj hm]
  ·rename_i m;by_cases hm:t=m
   ·subst hm;simp only[CH,zM u,hx,hg];rfl
   ·simp only[CH,zj hm]) e (λb y=>.inl y) (by simp only[CH,z];exact D)
 exact hK σ' e1 (M.mono (λb _ hx=>by
  rcases hx with hx|hx
  ·exact hx.1
  ·exact B b hx) h.o h.o2)
end Go.Ar
namespace Go.Ar
open Go Go.Vc Go.Proofs
open Go.Bu (Zj QI Zh)
variable {U:Hp}{F H:Rg}{p hs:Nat}{A:AR}{sp:Sp}{Y:Lay}{T:Nat->Hp->Rg->Prop}
end Go.Ar
namespace Go.Ar
open Go Go.Vc Go.Proofs
variable {U:Hp}{F:Rg}{L:dI}{H:Hw}{t k:Nat}
theorem VW (h:HH U F L H){R:aO}(hR:R true U):Xj.c (aW L.p) U R:=by
 refine Xj.o ?_;unfold Xj.v;have a:=h.lL;have b:=h.s.t1;refine bW.intro (cC rfl (bK (h.hd.rS rfl ?_)));rw[zJ aC];exact hR
theorem Cz (h:HH U F L H)(x:Int){R:aO}(hR:R (decide (0<=x/\x<(H.bQ.length:Int))) U):X5.c (aW L.p) x U R:=by
 refine X5.o ?_;unfold X5.v;have b:=h.lL;refine bW.intro (cP (λa=>bK (h.hd.rS rfl ?_)) λa=>?_)
 ·have:decide (x<((L.cN.len:Nat):Int))=decide (0<=x/\x<(H.bQ.length:Int)):=by rw[decide_eq_decide,b];omega
  simp only[this];exact hR
 ·rw[zN O]at hR;exact hR
theorem EB (h:HH U F L H)(t:Nat){R:aN}(hR:R ((H.own t:Nat):Int) U):Zw.c (aW L.p) (t:Int) U R:=by
 refine Zw.o ?_;unfold Zw.v;have a:=h.m6;have b:=h.s.a1;refine bK (h.hd.rS rfl (nz aC ?_));have:((t:Int).tmod ((L.fO.len:Nat):Int))=((H.own t:Nat):Int):=by rw[Qq O,a];unfold Hw.own;omega
 simp only[this];exact hR
theorem G9 (h:HH U F L H)(x:Int)(hx9:x<=9223372036854775807){R:aN}(hR:∀σ',aG U σ'->R (XU H.bX x) σ'):Yc.c (aW L.p) x U R:=by
 refine Yc.o ?_;unfold Yc.v;refine nw (cs:=[.int .i64 x]) λv hz e P=>P.uF rfl ?_;have Q:=h.bO e;by_cases hx:x<0
 ·have:=hR v e;unfold XU at this;rw[zC hx]at this;exact lF hx this
 refine fT hx (bK (Q.hd.rS rfl ?_));have hl:=h.m6;have W:=h.s.a2;refine Wl.o ?_;unfold Wl.v;refine Qc (a:=bN) (λ(z:Int) w=>∃i:Nat,z=(i:Int)/\i<=H.bX.length/\aG U w/\HH w F L H/\bY w U.size [.int .i64 x]/\∀j A,j<i->H.bX[j]?=some A->G4 A (x/256)=false) (λz _=>H.bX.length-z.toNat) ⟨0,rfl,O,e,Q,P,λj A d=>O⟩ ?_;rintro z w ⟨i,rfl,hi,G,C,u,b⟩;refine cP (λE=>?_) λK=>?_
 ·simp only at E;have N:i<H.bX.length:=by omega
  have g:H.bX[i]?=some H.bX[i]:=cU N;generalize H.bX[i]=A at g;obtain⟨Y,X,Z,M⟩:=C.ar g;refine C.rA X (pK (all := #[.pointer (some ⟨Y.p,0,none⟩),.pointer (some ⟨U.size,0,none⟩)]) (by kernel_rfl) aA ?_);refine YZ.o ?_;unfold YZ.v;refine u.uF rfl (nz aB (ar (by rw[XX O];omega) (by rw[XX O];omega) ?_));rw[XX O];refine JA M (x/256) (cO (λS=>?_) λV=>?_)
  ·have:XU H.bX x=(i:Int):=by
    unfold XU;rw[zB hx];have:H.bX.findIdx? (λA=>G4 A (x/256))=some i:=by
     obtain⟨D,rfl⟩:=cX.1 g;exact nm.2 ⟨D,S,λj d=>by rw[b j _ d (cU O)];simp⟩
    rw[this]
   have r:=hR w G;rw[this]at r;exact r
  ·exact cS (m:=i+1) O O ⟨⟨i+1,rfl,O,G,C,u,λj B d J=>by
    by_cases e:j=i
    ·subst e;rw[g]at J;cases J;exact V
    ·exact b j B O J⟩,O⟩
 ·have y:i=H.bX.length:=by simp only at K;omega
  subst y;have:XU H.bX x = -1:=by
   unfold XU;rw[zB hx];have:H.bX.findIdx? (λA=>G4 A (x/256))=none:=by
    rw[uh];intro A g;obtain⟨j,d⟩:=zQ g;exact b j A (cX.1 d).1 d
   rw[this]
  have r:=hR w G;rw[this]at r;exact r
theorem Ff (h:HH U F L H){R:Int->Int->Int->Int->Int->Hp->Prop}(hR:∀σ',aG U σ'->R (H.cf.aF:Int) (H.cf.ib:Int) (H.cf.threads:Int) (H.cf.dB:Int) (H.cf.room:Int) σ'):X0.c (aW L.p) U R:=by
 refine X0.o ?_;unfold X0.v;refine nw (cs:=[.int .i64 0,.int .i64 0,.int .i64 0,.int .i64 0,.int .i64 0]) λv r e g=>VW (h.bO e) (cB rfl ?_);have hd:=(h.bO e).hd;refine bK (hd.eZ rfl (hd.eZ rfl (hd.eZ rfl (hd.eZ rfl (hd.eZ rfl ?_)))));refine g.s1 aA λm o1 i=>i.s1 aA λu o2 b=>b.s1 aA λv3 o3 j=>j.s1 aA λs o4 b4=>b4.s1 aA λd o5 a=>?_;refine a.rI rfl (a.rI rfl (a.rI rfl (a.rI rfl (a.rI rfl (hR d ?_)))));exact((((e.only o1 (.inr (zD _))).only o2 (.inr (zD _))).only o3 (.inr (zD _))).only o4 (.inr (zD _))).only o5 (.inr (zD _))
theorem IJ (h:HH U F L H){R:Option Addr->Hp->Prop}(hR:R (some ⟨L.hs,0,none⟩) U):YF.c (aW L.p) U R:=by
 refine YF.o ?_;unfold YF.v;exact VW h (cB rfl (bK (h.hd.rP rfl hR)))
theorem Lr (h:HH U F L H)(x:Int)(hx:x<=9223372036854775807){R:Int->Int->Hp->Prop}(hR:∀σ',aG U σ'->R (if dT H.sp x=0 then H.sp.wd (x.toNat/8)else 0) (dT H.sp x) σ'):Yq.c (aW L.p) x U R:=by
 refine Yq.o ?_;unfold Yq.v;exact IJ h (JI h.Tt h.g x hx hR)
theorem NR (h:HH U F L H)(gc:Gc U)(x v:Int)(hx:x<=9223372036854775807){R:aN}(hR:∀σ',Ext F U σ'->HH σ' (Grow F U) L {H with sp:=W5 H.sp x v}->R (dT H.sp x) σ'):WN.c (aW L.p) x v U R:=by
 refine WN.o ?_;unfold WN.v;obtain⟨G,m,i,d,a⟩:=h.xp;refine IJ h (Nc i h.g gc x hx v λσ' e b=>?_);obtain⟨e1,j⟩:=a σ' _ e b;exact hR σ' e1 j
theorem LP (h:HH U F L H)(x:Int){R:Int->Int->Hp->Prop}(hR:∀σ',aG U σ'->R ((bU H.live x).elim 0 λb=>b.2.1) (if(bU H.live x).isSome then 0 else 8) σ'):Xx.c (aW L.p) x U R:=by
 refine Xx.o ?_;unfold Xx.v;refine VW h (cB rfl (bK (h.hd.rM rfl ⟨_,h.kK,?_⟩)));refine nw (cs:=[.int .i64 0,.int .i64 0,.int .i64 0,.int .i64 0]) λv s e d=>?_;refine d.s1 aA λu o1 i=>i.s1 aA λw o2 m=>m.s1 aA λv3 o3 j=>j.s1 aA λv4 o4 b4=>?_;have r:aG U v4:=(((e.only o1 (.inr (zD _))).only o2 (.inr (zD _))).only o3 (.inr (zD _))).only o4 (.inr (zD _));have a:=hR v4 r;cases hm:bU H.live x with
 | none=>
  rw[hm]at a;exact cC rfl a
 | some b=>
  rw[hm]at a;refine cB rfl (b4.rI rfl ?_);have g:((bU H.live x).getD ((0,0,0,0):Bk)).2.1=b.2.1:=by rw[hm];rfl
  rw[g];exact a
theorem VZ (h:HH U F L H)(ht:t<H.bQ.length){R:Value->Hp->Prop}(hR:R (mZ (j2 H t)) U):WZ.c (aW L.p) (t:Int) U R:=by
 refine WZ.o ?_;unfold WZ.v;obtain⟨x,g,d,a⟩:=h.th ht;refine bK (h.hd.rS rfl (h.tS d a ?_));obtain⟨G,i,b⟩:=h.sep.get (.hn t);simp only[CH,d,a,qd]at b;have e:=b.len;unfold j2 at hR;rw[a]at hR;simp only at hR;by_cases h0:g.bP=[]
 ·rw[zC h0]at hR;exact cC (by rw[e,h0];rfl) hR
 ·rw[zB h0]at hR;have:=qe.2 h0;exact cB (by simp only[l6];omega) hR
theorem BN (h:HH U F L H)(x size cls:Int)(hx9:x<=9223372036854775807){R:Value->Int->Int->Hp->Prop}(hR:∀σ',Ext F U σ'->HH σ' F L (VE H x size cls)->R .nilIface x 0 σ'):YS.c (aW L.p) x size cls U R:=by
 refine YS.o ?_;unfold YS.v;refine nw (cs:=[.int .i64 0,.int .i64 0]) λv D e a=>?_;have j:=h.cut.bO e;refine⟨λu=>aG v u,Ext.refl _ _,bK ⟨some L.lm,λu z=>by rw[add_lit,((j.bO z).hd).cell];rfl,?_⟩⟩;refine G9 j x hx9 λC e1=>⟨e1,?_⟩;have s:=j.bO e1;obtain⟨w,d⟩:=s.r7;refine⟨L.lm,_,rfl,s.kK,λm o2 r=>?_⟩;obtain⟨e2,A⟩:=d m _ o2 r;have i:bY m U.size [.int .i64 0,.int .i64 0]:=Ws o2 (e1.bT a id) (by have:=w.2;omega);refine i.s1 aA λv3 o3 B=>B.s1 aA λv4 o4 b4=>b4.rI rfl (b4.rI rfl (hR v4 ?_ ?_))
 ·exact(((aG.to (e.trans e1)).trans (e2.sub λb a=>a.1)).only o3 (.inr (zD _))).only o4 (.inr (zD _))
 ·have g:Ext (· = U.size) m v4:=o3.ext.trans o4.ext;have y:=h.xk A g (λb a=>O) (λb _ a E=>by have:=a.2;omega);exact y.mono (λb _ a=>a.1) h.o h.o2
theorem GQ (h:HH U F L H)(ht:t<H.bQ.length)(k:Nat){s:Sl}{xs:List Int}{X:Rg}(hs:cT s 1 (Wj xs) U X)(hc:s.len<=s.cap)(hxs:xs≠[])(hX:∀b,b<U.size->X b->¬F b)(oX:jc X)(oX2:¬X 1)(hlen:∀g,H.bQ[t]?=some g->g.bP.length<=1000){R:aP}
 (hR:∀σ' ts',Ext F U σ'->HH σ' (λb=>Grow F U b\/X b) {L with ts:=ts'} (QO H t k xs)->R σ'):Yu.c (aW L.p) (t:Int) (k:Int) s U R:=by
 refine Yu.o ?_;unfold Yu.v;obtain⟨x,g,r,P⟩:=h.th ht;have htl:=Ga h.s.ts;have hrl:=h.lL;have hlen:=hlen g P;obtain⟨G,D,hG,Y,hd,hB,hr,⟨E,hE1,hE2,hhd⟩,W⟩:=h.cut.rQ r P (λb=>U.size<=b\/b<U.size/\X b) (λb m hf hn=>by
  rcases hn with hn|hn
  ·omega
  ·exact hX b m hn.2 hf.1) (λb m=>m.elim (h.mJ.1 b) λm=>oX b m.2) (λm=>m.elim h.mJ.2 λm=>oX2 m.2)
 obtain⟨ps,Dn,B,N,C,hj,hne⟩:=hB;have A:∀u,Ext G U u->bY u L.p (yh L H.cf):=λu z=>((iz.loc _ _).bS hhd z λb _ m r=>hE1 b m r).2;have Q:∀u,Ext G U u->bR L.cN 3 (gV L.ts H.bQ) u D:=λu z=>aI.bS hr z λb _ m r=>hd b r m;refine⟨λu=>Ext G U u,Ext.refl _ _,bK ⟨L.cN,λu z=>by rw[add_lit,(A u z).cell];rfl,bK ⟨L.cN,λu z=>by rw[add_lit,(A u z).cell];rfl,?_⟩⟩⟩;refine BX (bR.fX hr) h.s.ts r P (d:=1) O rfl λb o ha _=>⟨x.h,λu z=>?_,?_⟩
 ·obtain⟨b',o',V,hc'⟩:=wF (bR.fX (Q u z)) r P (d:=1) O rfl;rw[ha]at V;cases V;rw[add_lit,show o+3*t+1=o+(3*t+1) by omega];exact hc'
 refine nw (cs:=[.int .i64 (k:Int),.slice s.a s.len s.cap]) λv hz e m=>⟨aG.to e,?_⟩;have K:=(dJ.loc _ _ _).bO ((dJ.loc _ _ _).cut B) e;have hBo1:=(kq.loc _ _).bO ((kq.loc _ _).cut N) e;have hs1:=aH.bO (aH.cut hs) e;have hpl:x.h.len=ps.length:=by have:=B.1;rw[KH]at this;omega
 have hpg:ps.length=g.bP.length:=N.1;refine K.app (ys:=od (k,s)) rfl rfl ?_ (λv hv=>Ha (l:=[(k,s)]) v (by simpa[fG]using hv)) ?_ ?_ mU λs' v2 hl2 e2 hr2=>?_
 ·intro j u z;rw[add_lit,zH,m.cell];exact z
 ·simp only;have:(x.h.len+1)*32<=1001*32:=l5 O O;omega
 ·simp only;omega
 have hs2:=e2.1;have eG:Ext G U v2:=(aG.to e).trans (e2.sub λb m=>m.1.1);refine⟨eG,?_⟩;obtain⟨b0,Z⟩:∃b,L.cN.a=some ⟨b,0,none⟩:=by
  rcases hr.2 with⟨h0,_⟩|⟨b,_,_,ha,_⟩
  ·omega
  ·exact⟨b,ha⟩
 rw[Z];refine ix O O ?_;refine(Q v2 eG).st (j:=3*t+1) O (λb' S=>by rw[Z]at S;cases S;rw[add_lit,add_lit];congr 1;omega) λσ' e3 hr3=>?_;have hs3:=e3.1;have e03:Ext (λb=>G b\/D b) U σ':=(eG.sub λb m=>.inl m).trans (e3.sub λb m=>.inr m);have hr4:=(dJ.loc _ _ _).bS ((dJ.loc _ _ _).cut hr2) e3 λb _ m r=>by
  rcases m.1 with h1|h1
  ·exact hd b h1.1.1 r
  ·have:=(Y b r).2;omega
 have hB4:=(kq.loc _ _).bS ((kq.loc _ _).bS hBo1 e2 λb _ m r=>r.1.2 m.1) e3 λb _ m r=>hd b (C b m.1) r;have hs4:=aH.bS (aH.bS hs1 e2 λb m r w=>hX b r.2 r.1 (hG b w.1.1).1) e3 λb _ r w=>hX b r.2 r.1 (Y b w).1;have hBt:iv s' (g.bP++[(k,xs)]) σ' (λb=>G b/\b<U.size\/b<U.size/\X b\/v.size<=b/\b<v2.size):=by
  refine⟨ps++[(k,s)],λb=>Dn b/\b<U.size\/b<U.size/\X b,?_,⟨by simp[hpg],λi p y M w=>?_⟩,λb m=>?_,hj.snoc N hne hs hxs (λb m r w=>hX b m w (hG b (C b r)).1) k,λy w=>?_⟩
  ·rw[U7];have:fG [(k,s)]=od (k,s):=by simp[fG]
   rw[this];refine(dJ.loc _ _ _).mono hr4 λq _ J=>?_;rcases J.1 with h1|h1
   ·exact⟨.inl ⟨h1.1.1,h1.2⟩,λr=>by
     rcases r with r|r
     ·exact h1.1.2 r.1
     ·exact hX q r.1 r.2 (hG q h1.1.1).1⟩
   ·exact⟨.inr (.inr ⟨h1,J.2⟩),λr=>by
     rcases r with r|r<;>omega⟩
  ·rcases kE i ps.length with hi|hi
   ·rw[zh hi]at M;rw[zh O]at w;obtain⟨a1,a2,a3⟩:=hB4.2 i p y M w;exact⟨a1,aH.mono a2 λq _ J=>.inl J,a3⟩
   ·rw[zt hi]at M;rw[zt O]at w;have hi0:i-ps.length=0:=by
     have:=(cX.1 M).1;simp at this;omega
    rw[hi0]at M;rw[show i-g.bP.length=0 by omega]at w;simp at M w;subst M;subst w;exact⟨rfl,aH.mono hs4 λq _ J=>.inr ⟨J.2,J.1⟩,hc⟩
  ·rcases m with m|m
   ·exact .inl ⟨C b m.1,m.2⟩
   ·exact .inr (.inl m)
  ·rcases zK.1 w with h1|h1
   ·exact hne y h1
   ·rw[zL]at h1;subst h1;exact hxs
 obtain⟨eF,h4⟩:=W σ' s' (g.bP++[(k,xs)]) (λb=>G b/\b<U.size\/b<U.size/\X b\/v.size<=b/\b<v2.size) D e03 (λb m=>by
  rcases m with m|m|m
  ·exact .inl (.inl m.1)
  ·exact .inr (.inr m)
  ·exact .inr (.inl O)) (λb m=>.inl (.inr m)) (λb m r=>by
  have:=(Y b r).2;rcases m with m|m|m
  ·exact hd b m.1 r
  ·exact hX b m.1 m.2 (Y b r).1
  ·omega) hBt hr3
 refine hR σ' (L.ts.set t {x with h:=s'}) (eF.sub λb m=>m.1) ?_;have e5:QO H t k xs = {H with bQ:=H.bQ.set t {g with bP:=g.bP++[(k,xs)]}}:=by
  unfold QO Hw.dV
  congr 1
  exact Ve P
 rw[e5];refine h4.mono (λb _ m=>?_) (λb (m:Grow F U b\/X b)=>m.elim (h.oG b) (oX b)) λ(m:Grow F U _\/X _)=>m.elim h.qN oX2;rcases m with m | (m|m|m)|m
 ·exact .inl (.inl m.1.1)
 ·exact .inl (.inl (hG b m.1).1)
 ·exact .inr m.2
 ·exact .inl (.inr O)
 ·exact .inl (.inl (Y b m).1)
end Go.Ar
namespace Go.Ar
open Go Go.Vc Go.Proofs
variable {U u u':Hp}{F B P:Rg}{L:dI}{H H':Hw}{t k n:Nat}{A:AR}{Y:Lay}{x:eL}{g:Th}{c:bZ}{l:Li}{cs:List Value}
structure HK (F:Rg) (U:Hp) (B:Rg) (u:Hp) (P:Rg) (L:dI) (H:Hw):Prop where
 h:HH u P L H
 e:Ext F U u
 p:∀b,P b->(F b/\b<U.size\/U.size<=b)/\¬B b/\b<u.size
 b:∀b,B b->U.size<=b/\b<u.size
 o:jc (λb=>U.size<=b)/\¬U.size<=1
theorem HK.start (h:HH U F L H):HK F U (λ_=>False) U (Cut F U) L H:=⟨h.cut,Ext.refl _ _,λb a=>⟨.inl ⟨a.1,a.2⟩,id,a.2⟩,λb a=>a.elim,h.mJ⟩
theorem HK.box (K:HK F U B u P L H)(e:aG u u')(hz:u'.size=u.size+1):HK F U (λb=>B b\/b=u.size) u' P L H:=
 ⟨K.h.bO e,K.e.trans (aG.to e),λb a=>⟨(K.p b a).1,λd=>d.elim (K.p b a).2.1 λg=>by have:=(K.p b a).2.2;omega,by have:=(K.p b a).2.2;omega⟩,λb a=>by
  have:=K.e.1;rcases a with a|a
  ·have:=K.b b a;omega
  ·omega,K.o⟩
theorem HK.fr (K:HK F U B u P L H)(e:aG u u'):HK F U B u' P L H:=
 ⟨K.h.bO e,K.e.trans (aG.to e),λb a=>⟨(K.p b a).1,(K.p b a).2.1,by have:=(K.p b a).2.2;have:=e.1;omega⟩,λb a=>by have:=K.b b a;have:=e.1;omega,K.o⟩
theorem HK.own (K:HK F U B u P L H)(o:QB u u' n)(hn:B n):HK F U B u' P L H:=by
 have s:=K.b n hn;have r:=o.1;have e:Ext (· = n) u u':=o.ext;have m:∀b,b<u.size->P b->¬(b=n):=λb _ a j=>(K.p b a).2.1 (j▸hn);have d:jc (λb=>b=n)/\¬(1=n):=⟨K.o.1.sub λb g=>O,λg=>K.o.2 O⟩;exact⟨K.h.bS e m d.1 d.2,K.e.dW e λb (i:b=n)=>.inr O,λb a=>⟨(K.p b a).1,(K.p b a).2.1,by have:=(K.p b a).2.2;omega⟩,λb a=>by have:=K.b b a;omega,K.o⟩
theorem HK.cV (K:HK F U B u P L H)(e:Ext P u u')(hb:bY u n cs)(hn:B n):bY u' n cs:=e.bT hb λa=>(K.p n a).2.1 hn
theorem HK.sG (K:HK F U B u P L H){Q:Rg}{L':dI}(e:Ext P u u')(h:HH u' Q L' H')(hq:∀b,b<u'.size->Q b->P b\/u.size<=b\/(F b/\b<U.size\/U.size<=b)/\¬B b):HK F U B u' (Cut Q u') L' H':=by
 have g:=e.1;have i:=K.e.1;refine⟨h.cut,K.e.dW e λb a=>(K.p b a).1.imp (λh=>h.1) id,λb a=>⟨?_,λd=>?_,a.2⟩,λb a=>by have:=K.b b a;omega,K.o⟩
 ·rcases hq b a.2 a.1 with h1|h1|h1
  ·exact(K.p b h1).1
  ·exact .inr O
  ·exact h1.1
 ·rcases hq b a.2 a.1 with h1|h1|h1
  ·exact(K.p b h1).2.1 d
  ·have:=K.b b d;omega
  ·exact h1.2 d
theorem HK.to (K:HK F U B u P L H){Q:Rg}{L':dI}(e:Ext P u u')(h:HH u' Q L' H')(hq:∀b,b<u'.size->Q b->P b\/u.size<=b):HK F U B u' (Cut Q u') L' H':=K.sG e h λb a d=>(hq b a d).imp id .inl
theorem HK.fin (K:HK F U B u P L H){L0:dI}{H0:Hw}(h0:HH U F L0 H0):HH u (Grow F U) L H:=h0.grown K.h λb _ a=>(K.p b a).1.imp (λh=>h.1) id
def Fr (A' A:AR):Prop:=A'.tb=A.tb/\A'.room=A.room/\A'.cM=A.cM
theorem Fr.cK {A' A:AR}(h:Fr A' A)(Y:Lay):Go.Ar.cK A' Y=Go.Ar.cK A Y:=by
 funext k;unfold Go.Ar.cK;rw[h.1,h.2.1,h.2.2]
theorem En (A:AR)(k m:Int):Fr (YA A k m) A:=by
 unfold YA;split<;>exact⟨rfl,rfl,rfl⟩
theorem EX (A:AR)(k:Int)(xs:List Int):Fr (ZC A k xs) A:=⟨(Uk A k xs).1,(Uk A k xs).2.1,(Uk A k xs).2.2.1⟩
theorem Ew (A:AR)(sp:Sp)(m a no:Nat):Fr (cZ A sp m a no).2.1 A:=⟨(Gb A sp m a no).1,(Gb A sp m a no).2.2.2.1,(Gb A sp m a no).2.2.1⟩
theorem Dg (A:AR)(x:Int):Fr (QD A x) A:=by
 unfold QD;split<;>exact⟨rfl,rfl,rfl⟩
theorem Dk (A:AR)(sp:Sp)(k:Int):Fr (cL A sp k).1 A:=by
 unfold cL;split
 ·split
  ·rename_i c ss h1 h2;have h:=Ew A sp c.aF 1 (k.toNat+1);generalize cZ A sp c.aF 1 (k.toNat+1)=r at h;obtain⟨o,A',a⟩:=r;cases o with
   | none=>exact h
   | some x=>
    simp only;split<;>exact h
  ·exact⟨rfl,rfl,rfl⟩
 ·exact⟨rfl,rfl,rfl⟩
theorem Ik (A:AR)(sp:Sp)(m a:Int):Fr (cA A sp m a).1 A:=by
 unfold cA;split
 ·have h:=Ew A sp m.toNat a.toNat 41;generalize cZ A sp m.toNat a.toNat 41=r at h;obtain⟨o,A',b⟩:=r;cases o<;>exact h
 ·exact⟨rfl,rfl,rfl⟩
theorem I5 (A:AR)(k:Int):(ZG A k).tb=A.tb:=by unfold ZG;split<;>rfl
theorem Ry (A:AR)(k:Int)(xs:List Int):(Ke A k xs).tb=A.tb:=by unfold Ke;split<;>rfl
theorem HH.mL (h:HH U F L H)(hk:H.bX[k]?=some A)(hy:L.ys[k]?=some Y):∃G:Rg,(∀b,G b->F b)/\dG U G Y A (cK A Y)/\∀(σ':Hp) (A':AR) (Q:Rg),A'.tb=A.tb->Ext G U σ'->(∀b,Q b->G b\/U.size<=b)->dG σ' (λb=>Grow G U b/\¬Q b) Y A' (cK A' Y) →
 Ext F U σ'/\HH σ' (λb=>Grow F U b/\¬Q b) L (H.cD k A'):=by
 obtain⟨Y',G,d,_,j,s,g⟩:=h.wR hk;rw[hy]at d;cases d;refine⟨G,j,s,λσ' A' Q i e r m=>?_⟩;obtain⟨e1,u⟩:=g σ' A' _ i e (λb a=>a.1) m;refine⟨e1,u.mono (λb _ a=>?_) (h.oG.sub λb a=>a.1) λa=>h.qN a.1⟩;rcases a with a|a
 ·exact⟨.inl a.1,λp=>by
   rcases r b p with h2|h2
   ·exact a.2.2 h2
   ·have:=a.2.1;omega⟩
 ·exact⟨a.1.imp (j b) id,a.2⟩
theorem dG.wW {T:Nat->Hp->Rg->Prop}{G Q:Rg}(h:dG U G Y A T)(hq:∀b,¬Q b):dG U (λb=>G b/\¬Q b) Y A T:=h.mono λb _ a=>⟨a,hq b⟩
theorem HH.mn (h:HH U F L H)(hk:H.bX[k]?=some A)(hy:L.ys[k]?=some Y):∃G:Rg,(∀b,G b->F b)/\dG U G Y A (cK A Y)/\∀(σ':Hp) (A':AR),A'.tb=A.tb->Ext G U σ'->dG σ' (Grow G U) Y A' (cK A' Y) →
 Ext F U σ'/\HH σ' (Grow F U) L (H.cD k A'):=by
 obtain⟨G,i,j,a⟩:=h.mL hk hy;refine⟨G,i,j,λσ' A' g e m=>?_⟩;obtain⟨e1,p⟩:=a σ' A' (λ_=>False) g e (λb d=>d.elim) (m.wW λ_=>id);exact⟨e1,p.mono (λb _ d=>d.1) h.oG h.qN⟩
theorem GF (h:HH U F L H)(hk:H.bX[k]?=some A)(hy:L.ys[k]?=some Y)(c:Int){R:Sl->Int->Hp->Prop}
 (hR:∀s σ' (Q:Rg),Ext F U σ'->(∀b,Q b->F b)->cT s 1 (Wj (Yy A c)) σ' Q->s.len<=s.cap->HH σ' (λb=>Grow F U b/\¬Q b) L (H.cD k (ZG A c))->R s (Z6 A c) σ') :
 WB.c (aW Y.p) c U R:=by
 obtain⟨G,m,r,g⟩:=h.mL hk hy;refine GG r c λs σ' e i j d u=>?_;obtain⟨e1,w⟩:=g σ' (ZG A c) (kP s) (I5 A c) e (λb a=>.inl (i b a)) (u.mono λb _ a=>⟨.inl a.1,a.2⟩);exact hR s σ' (kP s) e1 (λb a=>m b (i b a)) j d w
theorem PJ (h:HH U F L H)(hk:H.bX[k]?=some A)(hy:L.ys[k]?=some Y)(c m:Int){R:Sl->Int->Hp->Prop}
 (hR:∀s σ' (Q:Rg),Ext F U σ'->(∀b,Q b->U.size<=b)->bR s 1 (ints (Yj A c m)) σ' Q->HH σ' (λb=>Grow F U b/\¬Q b) L (H.cD k (YA A c m))->R s (QC A c m) σ') :
 WD.c (aW Y.p) c m U R:=by
 obtain⟨G,w,j,d⟩:=h.mL hk hy;refine Mj j c m λs σ' e i r=>?_;have g:cK (YA A c m) Y=cK A Y:=(En A c m).cK Y;obtain⟨e1,u⟩:=d σ' (YA A c m) (λb=>U.size<=b) (En A c m).1 e (λb a=>.inr a) (by rw[g];exact r.mono λb _ a=>⟨.inl a.1,by have:=a.2;omega⟩);exact hR s σ' _ e1 (λb a=>a) i u
theorem LB (h:HH U F L H)(hk:H.bX[k]?=some A)(hy:L.ys[k]?=some Y)(c:Int){sl:Sl}{xs:List Int}{X:Rg}(hs:cT sl 1 (Wj xs) U X)(hi:∀x∈xs,iG x){R:Bool->Int->Hp->Prop}
 (hR:∀σ',Ext F U σ'->HH σ' (Grow F U) L (H.cD k (Ke A c xs))->R (Vn A c xs) (He A c xs) σ'):WH.c (aW Y.p) c sl U R:=by
 obtain⟨G,i,b,a⟩:=h.mn hk hy;refine Jx b c hs hi λσ' e d=>?_;obtain⟨e1,g⟩:=a σ' _ (Ry A c xs) e d;exact hR σ' e1 g
theorem Oo (h:HH U F L H)(hk:H.bX[k]?=some A)(hy:L.ys[k]?=some Y)(c:Int){sl:Sl}{xs:List Int}{X:Rg}(hs:cT sl 1 (Wj xs) U X)(hX:∀b,b<U.size->X b->¬F b)(hi:∀x∈xs,iG x)(hl:xs.length<=1000000)(hcap:sl.len<=sl.cap){R:aN}
 (hR:∀σ',Ext F U σ'->HH σ' (Grow F U) L (H.cD k (ZC A c xs))->R (QU A c xs) σ'):WQ.c (aW Y.p) c sl U R:=by
 obtain⟨G,g,m,a⟩:=h.mn hk hy;refine Ja m c hi hl hcap (.inl ⟨X,hs,λb r j i=>hX b r j (g b i)⟩) λσ' e s=>?_;have d:cK (ZC A c xs) Y=cK A Y:=(EX A c xs).cK Y;obtain⟨e1,u⟩:=a σ' _ (EX A c xs).1 e (by rw[d];exact s);exact hR σ' e1 u
theorem Jl (h:HH U F L H)(hk:H.bX[k]?=some A)(hy:L.ys[k]?=some Y)(x:Int)(hf:∀r∈A.runs,r.1<=1000000){R:aN}
 (hR:∀σ',Ext F U σ'->HH σ' (Grow F U) L (H.cD k (QD A x))->R (K0 A x) σ'):WO.c (aW Y.p) x U R:=by
 obtain⟨G,j,d,a⟩:=h.mn hk hy;refine O6 d x hf λσ' e g=>?_;have b:cK (QD A x) Y=cK A Y:=(Dg A x).cK Y;obtain⟨e1,i⟩:=a σ' _ (Dg A x).1 e (by rw[b];exact g);exact hR σ' e1 i
theorem Jg (h:HH U F L H)(hk:H.bX[k]?=some A)(hy:L.ys[k]?=some Y)(c:Int){R:aN}
 (hR:∀σ',Ext F U σ'->HH σ' (Grow F U) L {H.cD k (cL A H.sp c).1 with sp:=(cL A H.sp c).2}->R (KT A H.sp c) σ'):XY.c (aW Y.p) c U R:=by
 obtain⟨Y',G,D,a,_,j,b⟩:=h.pt hk;rw[hy]at a;cases a;refine Mq j c λσ' G' D' g e i=>?_;have d:cK (cL A H.sp c).1 Y=cK A Y:=(Dk A H.sp c).cK Y;obtain⟨e1,m⟩:=b σ' _ _ G' D' (Dk A H.sp c).1 e g (by rw[d];exact i);exact hR σ' e1 m
theorem Tz (h:HH U F L H)(hk:H.bX[k]?=some A)(hy:L.ys[k]?=some Y)(m a:Int){R:Int->Int->Hp->Prop}
 (hR:∀σ',Ext F U σ'->HH σ' (Grow F U) L {H.cD k (cA A H.sp m a).1 with sp:=(cA A H.sp m a).2}->R ((Z5 A H.sp m a:Nat):Int) (Qx A H.sp m a) σ'):WP.c (aW Y.p) m a U R:=by
 obtain⟨Y',G,D,b,_,r,d⟩:=h.pt hk;rw[hy]at b;cases b;refine Ox r m a λσ' G' D' i e j=>?_;have g:cK (cA A H.sp m a).1 Y=cK A Y:=(Ik A H.sp m a).cK Y;obtain⟨e1,s⟩:=d σ' _ _ G' D' (Ik A H.sp m a).1 e i (by rw[g];exact j);exact hR σ' e1 s
def Hw.dS (H:Hw)(t:Nat)(g:Th)(ls:List Li):Hw:={H with bQ:=H.bQ.set t {g with ls:=ls}}
theorem HH.ld (h:HH U F L H)(hx:L.ts[t]?=some x)(hg:H.bQ[t]?=some g):∃G:Rg,(∀b,G b->F b)/\eH U G x.c H.tb H.cf.dB g.ls/\∀(σ':Hp) (ls:List Li) (Y':gN) (Q:Rg),Y'.p=x.c.p->Ext G U σ'->(∀b,Q b->U.size<=b)->eH σ' (λb=>Grow G U b/\¬Q b) Y' H.tb H.cf.dB ls →
 Ext F U σ'/\HH σ' (λb=>Grow F U b/\¬Q b) {L with ts:=L.ts.set t {x with c:=Y'}} (H.dS t g ls):=by
 obtain⟨G,i,m,d⟩:=h.oA hx hg;refine⟨G,i,m,λσ' ls Y' Q r e j s=>?_⟩;obtain⟨e1,w⟩:=d σ' ls Y' _ r e (λb a=>a.1) s;refine⟨e1,w.mono (λb _ a=>?_) (h.oG.sub λb a=>a.1) λa=>h.qN a.1⟩;rcases a with a|a
 ·exact⟨.inl a.1,λu=>by have:=a.2.1;have:=j b u;omega⟩
 ·exact⟨a.1.imp (i b) id,a.2⟩
theorem HH.kT (h:HH U F L H)(hx:L.ts[t]?=some x)(hg:H.bQ[t]?=some g):∃G:Rg,(∀b,G b->F b)/\eH U G x.c H.tb H.cf.dB g.ls/\∀(σ':Hp) (ls:List Li) (Y':gN),Y'.p=x.c.p->Ext G U σ'->eH σ' (Grow G U) Y' H.tb H.cf.dB ls →
 Ext F U σ'/\HH σ' (Grow F U) {L with ts:=L.ts.set t {x with c:=Y'}} (H.dS t g ls):=by
 obtain⟨G,i,j,d⟩:=h.ld hx hg;refine⟨G,i,j,λσ' ls Y' m e r=>?_⟩;obtain⟨e1,s⟩:=d σ' ls Y' (λ_=>False) m e (λb a=>a.elim) (r.mono λb _ a=>⟨a,id⟩);exact⟨e1,s.mono (λb _ a=>a.1) h.oG h.qN⟩
theorem R6 (h:HH U F L H)(hx:L.ts[t]?=some x)(hg:H.bQ[t]?=some g)(hc:H.tb[k]?=some c)(hl:g.ls[k]?=some l){R:Int->Int->Hp->Prop}
 (hR:∀σ' ts',Ext F U σ'->HH σ' (Grow F U) {L with ts:=ts'} (H.dS t g (g.ls.set k (Kh c l).2))->R ((Kh c l).1.getD 0) (if(Kh c l).1.isSome then 0 else 4) σ'):X3.c (aW x.c.p) (k:Int) U R:=by
 obtain⟨G,m,i,a⟩:=h.kT hx hg;refine kU i hc hl λσ' Y' e b d=>?_;obtain⟨e1,j⟩:=a σ' _ Y' b e d;exact hR σ' _ e1 j
theorem MT (h:HH U F L H)(hx:L.ts[t]?=some x)(hg:H.bQ[t]?=some g)(hc:H.tb[k]?=some c)(hl:g.ls[k]?=some l){R:Int->Int->Hp->Prop}
 (hR:∀σ' ts',Ext F U σ'->HH σ' (Grow F U) {L with ts:=ts'} H->R ((oM c l:Nat):Int) 0 σ'):Yi.c (aW x.c.p) (k:Int) U R:=by
 obtain⟨G,m,j,a⟩:=h.kT hx hg;refine Pr j hc hl λσ' Y' e d i=>?_;obtain⟨e1,b⟩:=a σ' _ Y' d e i;have e2:H.dS t g g.ls=H:=by
  unfold Hw.dS;rw[Qh hg]
 rw[e2]at b;exact hR σ' _ e1 b
theorem I9 (h:HH U F L H)(hx:L.ts[t]?=some x)(hg:H.bQ[t]?=some g)(hc:H.tb[k]?=some c)(hl:g.ls[k]?=some l){sl:Sl}{xs:List Int}{X:Rg}(hs:cT sl 1 (Wj xs) U X)(hX:∀q,X q->¬F q)(hfit:l.os.length+xs.length<=256){R:aN}
 (hR:∀σ' ts',Ext F U σ'->HH σ' (Grow F U) {L with ts:=ts'} (H.dS t g (g.ls.set k (eC xs.reverse l)))->R 0 σ'):Ya.c (aW x.c.p) (k:Int) sl U R:=by
 obtain⟨G,b,j,a⟩:=h.kT hx hg;refine S6 j hc hl hs (λq m hg=>hX q m (b q hg)) hfit λσ' Y' e d i=>?_;obtain⟨e1,r⟩:=a σ' _ Y' d e i;exact hR σ' _ e1 r
theorem Nb (h:HH U F L H)(hx:L.ts[t]?=some x)(hg:H.bQ[t]?=some g)(hc:H.tb[k]?=some c)(hl:g.ls[k]?=some l)(y:Int){R:Sl->Int->Hp->Prop}
 (hR:∀σ' ts' s e (Q:Rg),Ext F U σ'->(∀q,Q q->U.size<=q)->bR s 1 (Wj (dK c y l).1) σ' Q->HH σ' (λb=>Grow F U b/\¬Q b) {L with ts:=ts'} (H.dS t g (g.ls.set k (dK c y l).2))->R s e σ'):YE.c (aW x.c.p) (k:Int) y U R:=by
 obtain⟨G,z,u,a⟩:=h.ld hx hg;refine OM u hc hl y λσ' Y' s r Q e j _ d i m=>?_;obtain⟨e1,w⟩:=a σ' _ Y' Q j e d m;exact hR σ' _ s r Q e1 d i w
theorem PH (h:HH U F L H)(hx:L.ts[t]?=some x)(hg:H.bQ[t]?=some g){R:aO}(hR:∀σ',aG U σ'->R (decide (H.cf.dB<Q3 H.tb g.ls)) σ'):Yb.c (aW x.c.p) U R:=by
 obtain⟨G,d,b,a⟩:=h.kT hx hg;exact RR b hR
theorem N5 (hso:GC)(h:HH U F L H)(hx:L.ts[t]?=some x)(hg:H.bQ[t]?=some g){R:Sl->Hp->Prop}
 (hR:∀σ' s (Q:Rg),Ext F U σ'->(∀q,Q q->U.size<=q)->iv s (Kg ZP H.tb g.ls) σ' Q->HH σ' (λb=>Grow F U b/\¬Q b) L (H.dS t g (Kc ZP H.tb g.ls))->R s σ'):XE.c (aW x.c.p) U R:=by
 obtain⟨G,u,r,a⟩:=h.ld hx hg;refine NT hso r λσ' s Q e d m j=>?_;obtain⟨e1,i⟩:=a σ' _ x.c Q rfl e d m;rw[show L.ts.set t {x with c:=x.c}=L.ts from Qh hx]at i;exact hR σ' s Q e1 d j i
theorem Pu (hso:GC)(h:HH U F L H)(hx:L.ts[t]?=some x)(hg:H.bQ[t]?=some g){R:Sl->Hp->Prop}
 (hR:∀σ' s (Q:Rg),Ext F U σ'->(∀q,Q q->U.size<=q)->iv s (Kg KU H.tb g.ls) σ' Q->HH σ' (λb=>Grow F U b/\¬Q b) L (H.dS t g (Kc KU H.tb g.ls))->R s σ'):W0.c (aW x.c.p) U R:=by
 obtain⟨G,u,r,a⟩:=h.ld hx hg;refine Ny hso r λσ' s Q e d m j=>?_;obtain⟨e1,i⟩:=a σ' _ x.c Q rfl e d m;rw[show L.ts.set t {x with c:=x.c}=L.ts from Qh hx]at i;exact hR σ' s Q e1 d j i
def m5 (S:aP)(L:dI)(tb:List bZ):Prop:=∀m,S m->∃(P:Rg) (ts:List eL) (H:Hw),HH m P {L with ts:=ts} H/\H.tb=tb
theorem m5.dE {S:aP}{tb:List bZ}(hS:m5 S L tb){K:Sl->Prop}(hK:K L.dE):gG S .s (Addr.add ⟨L.p,0,none⟩ 0) K:=⟨L.dE,λm a=>by obtain⟨_,_,_,h,_⟩:=hS m a;rw[add_lit,h.hd.cell];rfl,hK⟩
theorem m5.fO {S:aP}{tb:List bZ}(hS:m5 S L tb){K:Sl->Prop}(hK:K L.fO):gG S .s (Addr.add ⟨L.p,0,none⟩ 7) K:=⟨L.fO,λm a=>by obtain⟨_,_,_,h,_⟩:=hS m a;rw[add_lit,h.hd.cell];rfl,hK⟩
theorem m5.rA {S:aP}{tb:List bZ}(hS:m5 S L tb)(h:HH U F L H)(hy:L.ys[k]?=some Y){K:Option Addr->Prop}(hK:K (some ⟨Y.p,0,none⟩)):Ix L.fO.a L.fO.len (k:Int) 1 λa=>gG S .p a K:=by
 have j:(fK (L.ys.map (·.p)))[k]?=some (.pointer (some ⟨Y.p,0,none⟩)):=by simp[fK,hy]
 obtain⟨b,o,i,_⟩:=h.m4.cell j;have w:=(cX.1 hy).1;have r:=h.m6;have:=h.s.ys;rw[i];refine ix O O ⟨_,λm u=>?_,hK⟩;obtain⟨_,_,_,e,_⟩:=hS m u;obtain⟨x,y,d,g⟩:=e.m4.cell j;rw[i]at d;cases d;rw[add_lit,show o+(k:Int).toNat*1=o+k by omega];exact g
theorem m5.rC {S:aP}(hS:m5 S L H.tb)(h:HH U F L H)(hc:H.tb[k]?=some c){K:Int->Prop}(hK:K (c.size:Int)):Ix L.dE.a L.dE.len (k:Int) 3 λa=>gG S bN (a.add 0) K:=by
 have p:(gA H.tb)[3*k+0]?=some (.int .i64 (c.size:Int)):=(GR hc).1;obtain⟨b,o,r,_⟩:=h.jG.cell p;have w:=(cX.1 hc).1;have s:=h.oK;rw[r];refine ix O O ⟨_,λm u=>?_,hK⟩;obtain⟨_,_,_,e,g⟩:=hS m u;rw[←g]at p;obtain⟨x,y,d,j⟩:=e.jG.cell p;have d:L.dE.a=_:=d;rw[r]at d;cases d;rw[add_lit,add_lit,show o+(k:Int).toNat*3+0=o+(3*k+0) by omega];exact j
end Go.Ar
namespace Go.Ar
open Go Go.Vc Go.Proofs
variable {U u u':Hp}{F B P Q:Rg}{L:dI}{H H':Hw}{t k n pb:Nat}{A:AR}{Y:Lay}{x:eL}{g:Th}{c:bZ}{l:Li}{cs:List Value}{parts:List (List Int)}{xs:List Int}
theorem HK.Cm (K:HK F U B u P L H)(e:Ext B u u'){B':Rg}(hB:∀b,B' b->B b\/u.size<=b/\b<u'.size):HK F U B' u' P L H:=by
 have r:=e.1;have m:=K.e.1;have i:jc B/\¬B 1:=⟨K.o.1.sub λb g=>(K.b b g).1,λg=>K.o.2 (K.b _ g).1⟩;refine⟨K.h.bS e (λb _ a d=>(K.p b a).2.1 d) i.1 i.2,K.e.dW e λb j=>.inr (K.b b j).1,λb a=>⟨(K.p b a).1,λg=>?_,by have:=(K.p b a).2.2;omega⟩,λb a=>?_,K.o⟩
 ·rcases hB b g with d|d
  ·exact(K.p b a).2.1 d
  ·have:=(K.p b a).2.2;omega
 ·rcases hB b a with d|d
  ·have:=K.b b d;omega
  ·omega
def sV (s:Sl):Value:=.slice s.a s.len s.cap
def mB (pb:Nat)(parts:List (List Int)):Hp->Rg->Prop:=λu Q=>∃(ps:List Sl) (Qs:Nat->Rg),ps.length=parts.length/\Q pb/\bY u pb (ps.map sV)/\(∀j b,Qs j b->Q b/\b≠pb)/\(∀j j' b,Qs j b->Qs j' b->j=j') ∧
 ∀j s xs,ps[j]?=some s->parts[j]?=some xs->dJ s 1 (Wj xs) u (Qs j)
theorem mB.loc (pb:Nat)(parts:List (List Int)):dM (mB pb parts):=by
 rintro U H F G ⟨C,Qs,E,A,m,g,y,B⟩ w i;have p:=i pb m.lt A;obtain⟨e,D⟩:=m;refine⟨C,λj b=>Qs j b/\b<U.size,E,p.1,⟨e,p.2.trans D⟩,λj b d=>⟨(i b d.2 (g j b d.1).1).1,(g j b d.1).2⟩,λj x b a u=>y j x b a.1 u.1,λj s z a b=>(dJ.loc _ _ _) _ _ _ _ (B j s z a b) w λb d r=>⟨⟨r,d⟩,(i b d (g j b r).1).2⟩⟩
theorem mB.add (h:mB pb parts u Q){a m e1 e2:Nat}(hm:m=parts.length)(ha:parts[a]?=some xs)(y:Int)(hl:xs.length<=1000000){K:aP}(hK:∀u',Ext Q u u'->mB pb (parts.set a (xs++[y])) u' (Grow Q u)->K u') :
 Ix (some ⟨pb,0,none⟩) m (a:Int) 1 λa1=>ju a1 u λt35=>Nw (.cells #[.int .i64 y] e1 (0,0)) u λn37 v4=>App t35 1 8 e2 [.int .i64 0] ⟨some n37,1,1⟩ v4 λt38 v5=>Ix (some ⟨pb,0,none⟩) m (a:Int) 1 λa39=>dU a39 (.slice t38.a t38.len t38.cap) v5 λv6=>K v6:=by
 obtain⟨B,Qs,Z,N,J,A,S,R⟩:=h;have H:=(cX.1 ha).1;have r:B[a]?=some (B[a]' O):=cU _;generalize (B[a]' O)=s at r;have i:=R a s xs r ha;have hsl:s.len=xs.length:=by have:=i.1;simp[Wj]at this;omega
 refine ix O O ?_;rw[add_lit,show 0+(a:Int).toNat*1=a by omega];refine J.vd (a:=s.a) (n:=s.len) (c:=s.cap) (by simp[r,sV]) ?_;refine nw (cs:=[.int .i64 y]) λv4 hz e d=>?_;have p:=(dJ.loc _ _ _).bO ((dJ.loc _ _ _).cut i) e;have M:=e.bT J id;refine p.app (x:=⟨some ⟨u.size,0,none⟩,1,1⟩) (ys:=[.int .i64 y]) rfl rfl ?_ (by simp[dO]) ?_ ?_ mU λV v5 X D F=>?_
 ·intro j w hw;rw[add_lit,zH,d.cell];exact hw
 ·simp only;omega
 ·simp only;omega
 have U:=D.1;have G:bY v5 pb (B.map sV):=D.bT M λz=>(A a pb z.1).2 rfl;refine ix O O ?_;rw[add_lit,show 0+(a:Int).toNat*1=a by omega];refine G.s0 aE λu' P g=>?_;have hz6:=P.1;have L:Ext (· = pb) v5 u':=P.ext;have Y:Ext Q u u':=((aG.to e).trans (D.sub λb d=>(A a b d.1).1)).trans (L.sub λb d=>by rw[d];exact N);have W:=J.lt;refine hK u' Y ⟨B.set a V,λj b=>Qs j b/\b<u.size\/j=a/\v4.size<=b/\b<v5.size,by simp[Z],.inl N,?_,λj b d=>?_,λj j' b d g=>?_,λj s2 ys C E=>?_⟩
 ·rw[xe];exact g
 ·rcases d with d|d
  ·exact⟨.inl (A j b d.1).1,(A j b d.1).2⟩
  ·exact⟨.inr O,O⟩
 ·rcases d with d|d<;>rcases g with g|g
  ·exact S j j' b d.1 g.1
  ·omega
  ·omega
  ·omega
 ·by_cases hja:j=a
  ·subst hja;rw[zM O]at C;rw[zM H]at E;cases C;cases E;have:=(dJ.loc _ _ _).bS ((dJ.loc _ _ _).cut F) L λb _ d z=>by
    rcases d.1 with h7|h7
    ·exact(A j b h7.1).2 z
    ·omega
   have e7:Wj (xs++[y])=Wj xs++[.int .i64 y]:=by simp[Wj]
   rw[e7];refine(dJ.loc _ _ _).mono this λb _ d=>?_;rcases d.1 with h7|h7
   ·exact .inl h7
   ·exact .inr ⟨rfl,h7,d.2⟩
  ·rw[zj (Ne.symm hja)]at C E;have:=(dJ.loc _ _ _).cut (R j s2 ys C E);have:=(dJ.loc _ _ _).bS ((dJ.loc _ _ _).bS ((dJ.loc _ _ _).bO this e) D λb _ d z=>hja (S j a b d.1 z.1)) L λb _ d z=>(A j b d.1).2 z;exact(dJ.loc _ _ _).mono this λb _ d=>.inl d
theorem mB.get (h:mB pb parts u Q){a m:Nat}(hm:m=parts.length)(ha:parts[a]?=some xs){K:Sl->Prop}(hK:∀s,dJ s 1 (Wj xs) u Q->s.len=xs.length->K s):Ix (some ⟨pb,0,none⟩) m (a:Int) 1 λa1=>ju a1 u K:=by
 obtain⟨g,Qs,z,x,i,w,y,p⟩:=h;have r:=(cX.1 ha).1;have e:g[a]?=some (g[a]' O):=cU _;generalize (g[a]' O)=s at e;have d:=p a s xs e ha;refine ix O O ?_;rw[add_lit,show 0+(a:Int).toNat*1=a by omega];refine i.vd (a:=s.a) (n:=s.len) (c:=s.cap) (by simp[e,sV]) (hK s ((dJ.loc _ _ _).mono d λb _ j=>(w a b j).1) ?_);have:=d.1;simp[Wj]at this;omega
theorem Cy {bX:List AR}{x:Int}(h:0<=XU bX x):(XU bX x).toNat<bX.length/\XU bX x=((XU bX x).toNat:Int):=by
 refine⟨?_,O⟩;unfold XU at *;split at h
 ·omega
 ·rename_i hx;rw[zB hx];split at h
  ·rename_i i hi;have:=(List.findIdx?_eq_some_iff_findIdx_eq.1 hi).1;simp only[dD];exact this
  ·omega
theorem JB {bX:List AR}{x:Int}{xs:List Int}(h:0<=XU bX x):((List.range bX.length).map (ZO bX xs)).set (XU bX x).toNat (ZO bX xs (XU bX x).toNat++[x])=(List.range bX.length).map (ZO bX (xs++[x])):=by
 have a:=Cy h;apply zr;intro j;by_cases hj:j<bX.length
 ·by_cases e:(XU bX x).toNat=j
  ·subst e;rw[zM (by simpa using hj)];simp only[zg,nM hj,zZ,ZO,uB]
   congr 2
   rw[tG (by rw[←a.2];simp)];rfl
  ·rw[zj e];simp only[zg,nM hj,zZ,ZO,uB];have:List.filter (λy=>XU bX y==(j:Int)) [x]=[]:=by
    rw[sr (by simp only[zT];omega)];rfl
   rw[this,kI]
 ·rw[zW aE,zW aE]
theorem KY {K:aO}{body:(Bool->Hp->Prop)->Prop}(P:aO)(h1:∀r w,P r w->K r w)(h2:∀J:Bool->Hp->Prop,(∀r w,P r w->J r w)->body J):bW K body:=bW.intro (h2 K h1)
theorem yX {K:eR [.b]}{body:eR [.b]->Prop}(P:aO)(h1:∀r w,P r w->K r w)(h2:∀J:eR [.b],(∀r w,P r w->J r w)->body J):Jn [.b] K body:=Jn.intro (h2 K h1)
theorem uq {K:eR []}{body:eR []->Prop}(P:aP)(h1:∀w,P w->K w)(h2:∀J:eR [],(∀w,P w->J w)->body J):Jn [] K body:=Jn.intro (h2 K h1)
theorem Vj {H:Hw}{k:Nat}{part:Nat->List Int}(j:Nat):Vh H k part (List.range (j+1))=(match (Vh H k part (List.range j)).bX[j]? with
 | some A=>if part j=[]then Vh H k part (List.range j)else(Vh H k part (List.range j)).cD j (ZC A (k:Int) (part j))
 | none=>Vh H k part (List.range j)):=by
 unfold Vh;rw[ox,wU];rfl
theorem Rb {H:Hw}{k:Nat}{part:Nat->List Int}(j:Nat):(Vh H k part (List.range j)).bX.length=H.bX.length:=by
 induction j with
 | zero=>rfl
 | succ j ih=>
  rw[Vj];split
  ·split
   ·exact ih
   ·simp[Hw.cD,ih]
  ·exact ih
theorem Jm {H:Hw}{k:Nat}{part:Nat->List Int}(j:Nat):(Vh H k part (List.range j)).bQ=H.bQ:=by
 induction j with
 | zero=>rfl
 | succ j ih=>
  rw[Vj];split
  ·split<;>exact ih
  ·exact ih
theorem AU (H:Hw)(own k:Nat)(xs:List Int):(HU H own k xs).bQ=H.bQ:=by
 unfold HU;split
 ·split
  ·rfl
  ·rw[Jm];split<;>rfl
 ·rfl
def Bd (F:Rg)(U:Hp)(L:dI)(H:Hw)(pb:Nat)(parts:List (List Int))(cs:List Value)(w:Hp):Prop:=∃Q P:Rg,HK F U (λb=>b=U.size\/Q b) w P L H/\mB pb parts w Q/\bY w U.size cs/\∀b,Q b->b≠U.size
theorem Lo (h:HH U F L H){own:Nat}(ho:own<H.bX.length)(k:Nat){sl:Sl}{xs:List Int}{X:Rg}(hs:cT sl 1 (Wj xs) U X)(hX:∀b,b<U.size->X b->¬F b)(hcap:sl.len<=sl.cap)(hx:∀x∈xs,iG x/\0<=XU H.bX x)(hl:xs.length<=1000000){R:aP}
 (hR:∀σ',Ext F U σ'->HH σ' (Grow F U) L (HU H own k xs)->R σ'):Zv.c (aW L.p) (own:Int) (k:Int) sl U R:=by
 refine Zv.o ?_;unfold Zv.v;have hsl:sl.len=xs.length:=by have:=hs.1;simp[Wj]at this;omega
 have ha2:=h.s.a2;have hal:=h.m6;have hs1:∀u,Ext F U u->cT sl 1 (Wj xs) u (λb=>X b/\b<U.size):=λu eu=>aH.bS (aH.cut hs) eu λb _ hx hf=>hX b hx.2 hx.1 hf;refine nw (cs:=[.int .i64 (k:Int),.slice sl.a sl.len sl.cap]) λv hz e d=>?_;have K1:=(HK.start h).box e hz;refine bK (K1.h.hd.rS rfl ?_);simp only;refine mk (n:=L.fO.len) O O λv1 hz1 e1 hb1=>?_;have K2:=K1.box e1 hz1;have hb2:=e1.bT d id;have W:mB v.size ((List.range H.bX.length).map (ZO H.bX [])) v1 (λb=>b=v.size):=by
  refine⟨List.replicate H.bX.length ⟨none,0,0⟩,λ_ _=>False,by simp,rfl,?_,λj b d=>d.elim,λj j' b d=>d.elim,λj s ys g h2=>?_⟩
  ·have:(List.replicate L.fO.len [Value.slice none 0 0]).flatten=(List.replicate H.bX.length (⟨none,0,0⟩:Sl)).map sV:=by
    rw[hal];simp[sV]
   rw[←this];exact hb1
  ·simp only[zg,oT]at h2;obtain⟨a,_,rfl⟩:=h2;simp only[mH]at g;split at g
   ·cases g;exact dJ.nil _ _ _ _
   ·cases g
 have ad:∀ys:List Int,L.fO.len=((List.range H.bX.length).map (ZO H.bX ys)).length:=λys=>by simp[hal]
 refine hb2.rS rfl ?_;refine Qc (a:=bN) (λ(z:Int) w=>∃i:Nat,z=(i:Int)/\i<=xs.length/\Bd F U L H v.size ((List.range H.bX.length).map (ZO H.bX (xs.take i))) [.int .i64 (k:Int),.slice sl.a sl.len sl.cap] w) (λz _=>xs.length-z.toNat)
  ⟨0,rfl,O,λb=>b=v.size,_,⟨K2.h,K2.e,λb d=>⟨(K2.p b d).1,λhx=>(K2.p b d).2.1 (hx.imp .inr id),(K2.p b d).2.2⟩,λb d=>K2.b b (d.imp .inr id),K2.o⟩,W,hb2,λb d=>O⟩ ?_
 rintro z w ⟨i,rfl,hi,Q,P,K,W,C,hQ⟩;refine cP (λE=>?_) λhge=>?_
 ·simp only at E;have hi':i<xs.length:=by omega
  have aa:xs[i]?=some xs[i]:=cU hi';generalize xs[i]=y at aa;have hy:=hx y (zG aa);refine(hs1 w K.e).mI aa (G9 K.h y hy.1 λZ e1=>?_);have E:=Cy hy.2;rw[E.2];have hP1:mB v.size _ Z (λb=>Q b/\b<w.size):=(mB.loc _ _).bO ((mB.loc _ _).cut W) e1;have hpart:((List.range H.bX.length).map (ZO H.bX (xs.take i)))[(XU H.bX y).toNat]?=some (ZO H.bX (xs.take i) (XU H.bX y).toNat):=by
   simp only[zg,nM E.1,zZ]
  have hpl1:(ZO H.bX (xs.take i) (XU H.bX y).toNat).length<=1000000:=by
   have:=rh (λx=>XU H.bX x==(((XU H.bX y).toNat:Nat):Int)) (xs.take i);simp only[ZO];rw[za]at this;omega
  refine hP1.add (ad _) hpart y hpl1 λw2 e2 hP2=>?_;rw[JB hy.2]at hP2;have ht:xs.take i++[y]=xs.take (i+1):=by rw[kN,aa];rfl
  rw[ht]at hP2;have hz1:=e1.1;have hz2:=e2.1;refine cS (m:=i+1) O O ⟨⟨i+1,rfl,O,λb=>(Q b/\b<w.size)\/Z.size<=b/\b<w2.size,P,(K.fr e1).Cm (e2.sub λb d=>.inr d.1) λb d=>?_,(mB.loc _ _).mono hP2 λb d V=>?_,?_,λb d=>?_⟩,O⟩
  ·rcases d with d|d|d
   ·exact .inl (.inl d)
   ·exact .inl (.inr d.1)
   ·exact .inr d
  ·rcases V with V|V
   ·exact .inl V
   ·exact .inr ⟨V,d⟩
  ·exact e2.bT (e1.bT C id) λhx=>hQ _ hx.1 rfl
  ·have:=(K.b U.size (.inl rfl)).2;rcases d with d|d
   ·exact hQ b d.1
   ·omega
 ·have hii:i=xs.length:=by simp only at hge;omega
  subst hii;rw[l0]at W;obtain⟨A,hA⟩:∃A,H.bX[own]?=some A:=⟨_,cU ho⟩;obtain⟨Y,hY,_,_⟩:=h.ar hA;have D:HU H own k xs=(if(ZO H.bX xs own).length=xs.length/\Vn A (k:Int) xs=true then H.cD own (Ke A (k:Int) xs)
   else Vh (if(ZO H.bX xs own).length=xs.length then H.cD own (Ke A (k:Int) xs)else H) k (ZO H.bX xs) (List.range H.bX.length)):=by
   unfold HU;rw[hA]
  have hown:((List.range H.bX.length).map (ZO H.bX xs))[own]?=some (ZO H.bX xs own):=by
   simp only[zg,nM ho,zZ]
  refine uq (λw=>¬((ZO H.bX xs own).length=xs.length/\Vn A (k:Int) xs=true)/\Bd F U L (if(ZO H.bX xs own).length=xs.length then H.cD own (Ke A (k:Int) xs)else H) v.size ((List.range H.bX.length).map (ZO H.bX xs)) [.int .i64 (k:Int),.slice sl.a sl.len sl.cap] w) (λw hw=>?_) λJ hJ=>?_
  ·obtain⟨hno,hw⟩:=hw;rw[zB hno]at D;generalize hH1:(if(ZO H.bX xs own).length=xs.length then H.cD own (Ke A (k:Int) xs)else H)=H1 at hw D
   have hH1l:H1.bX.length=H.bX.length:=by
    rw[←hH1];split
    ·simp[Hw.cD]
    ·rfl
   refine Qc (a:=bN) (λ(z:Int) w=>∃j:Nat,z=(j:Int)/\j<=H.bX.length/\Bd F U L (Vh H1 k (ZO H.bX xs) (List.range j)) v.size ((List.range H.bX.length).map (ZO H.bX xs)) [.int .i64 (k:Int),.slice sl.a sl.len sl.cap] w) (λz _=>H.bX.length-z.toNat) ⟨0,rfl,O,hw⟩ ?_;rintro z w ⟨j,rfl,hj,Q,P,K,W,C,hQ⟩;refine cP (λE=>?_) λhge=>?_
   ·simp only at E;have hj':j<H.bX.length:=by omega
    have hpj:((List.range H.bX.length).map (ZO H.bX xs))[j]?=some (ZO H.bX xs j):=by
     simp only[zg,nM hj',zZ]
    refine W.get (ad _) hpj λs M S=>?_;have hfl:=Rb (H:=H1) (k:=k) (part:=ZO H.bX xs) j;obtain⟨B,hB⟩:∃B,(Vh H1 k (ZO H.bX xs) (List.range j)).bX[j]?=some B:=⟨_,cU O⟩;have G:=Vj (H:=H1) (k:=k) (part:=ZO H.bX xs) j;rw[hB]at G;simp only at G;refine cP (λhpos=>?_) λhz0=>?_
    ·have N:ZO H.bX xs j≠[]:=λe=>by rw[e]at S;simp at S;omega
     rw[zB N]at G;obtain⟨Y,hY,_,_⟩:=K.h.ar hB;refine bK (K.h.hd.rS rfl (K.h.rA hY (C.rI rfl ?_)));refine Oo K.h hB hY (k:Int) (dJ.fX M) (λb _ V hp=>(K.p b hp).2.1 (.inr V)) (λx hx'=>(hx x (zI.1 hx').1).1) ?_ (dJ.cap M) λZ e1 g=>?_
     ·have:=rh (λx=>XU H.bX x==(j:Int)) xs;simp only[ZO];omega
     ·have hz1:=e1.1;rw[←G]at g;refine cS (m:=j+1) O O ⟨⟨j+1,rfl,O,Q,_,K.to e1 g λb _ d=>d,(mB.loc _ _).bS W e1 λb _ V hp=>(K.p b hp).2.1 (.inr V),K.cV e1 C (.inl rfl),hQ⟩,O⟩
    ·have N:ZO H.bX xs j=[]:=A9 O;rw[zC N]at G;refine cS (m:=j+1) O O ⟨⟨j+1,rfl,O,Q,P,by rw[G];exact K,W,C,hQ⟩,O⟩
   ·have hjj:j=H.bX.length:=by simp only at hge;omega
    subst hjj;rw[D]at hR;exact hR w K.e (K.fin h)
  ·refine W.get (ad _) hown λs M S=>C.rS rfl ?_;refine cO (λheq=>?_) λN=>?_
   ·have ab:(ZO H.bX xs own).length=xs.length:=by simp only[zT]at heq;omega
    rw[zC ab]at D hJ;have hS:m5 (λu=>(∃P' H',HH u P' L H'/\H'.tb=H.tb)/\bY u U.size [.int .i64 (k:Int),.slice sl.a sl.len sl.cap]) L H.tb:=λm hm=>by
     obtain⟨⟨P',H',g,h2⟩,_⟩:=hm;exact⟨P',L.ts,H',g,h2⟩
    refine⟨λu=>(∃P' H',HH u P' L H'/\H'.tb=H.tb)/\bY u U.size [.int .i64 (k:Int),.slice sl.a sl.len sl.cap],⟨⟨_,_,K.h,rfl⟩,C⟩,bK (hS.fO (hS.rA K.h hY ?_))⟩;refine⟨(k:Int),λm hm=>by rw[add_lit,hm.2.cell];rfl,⟨sl,λm hm=>by rw[add_lit,hm.2.cell];rfl,?_⟩⟩;refine LB K.h hA hY (k:Int) (hs1 w K.e) (λx hx'=>(hx x hx').1) λZ e1 g=>?_;have K1:=K.to e1 g λb _ d=>d;refine⟨⟨⟨_,_,g,rfl⟩,K.cV e1 C (.inl rfl)⟩,?_⟩;have fin:∀r,r=Vn A (k:Int) xs->((r=true->R Z)/\(r=false->J Z)):=λr hr=>by
     refine⟨λhr1=>?_,λhr1=>hJ Z ⟨λhx=>Bool.noConfusion ((hr1.symm.trans hr).trans hx.2),Q,_,K1,(mB.loc _ _).bS W e1 λb _ V hp=>(K.p b hp).2.1 (.inr V),K.cV e1 C (.inl rfl),hQ⟩⟩;rw[zC ⟨ab,by rw[←hr,hr1]⟩]at D;rw[D]at hR;exact hR Z K1.e (K1.fin h)
    refine KY (λr w=>w=Z/\r=Vn A (k:Int) xs) (λr w' ⟨hw,hr⟩=>?_) λJ3 hJ3=>?_
    ·subst hw;exact cO (λg=>(fin r hr).1 g) λg=>(fin r hr).2 g
    ·refine cO (λg=>hJ3 _ _ ⟨rfl,?_⟩) λg=>hJ3 _ _ ⟨rfl,g.symm⟩;have:He A (k:Int) xs=0:=by
      unfold Vn at g;simp only[zF,zU]at g;exact g.1
     rw[this,g];rfl
   ·have ac:¬(ZO H.bX xs own).length=xs.length:=by
     simp only[l6]at N;omega
    rw[zB ac]at hJ;exact hJ w ⟨λhx=>ac hx.1,Q,P,K,W,C,hQ⟩
theorem gJ {w:Hp}(K:HK F U B w P L H)(hB:B n){p q:Int}(hb:bY w n [.int .i64 p,.int .i64 q]){x y:Int}{K':Int->Int->Hp->Prop}(hK:∀w',HK F U B w' P L H->K' x y w') :
 dU (Addr.add ⟨n,0,none⟩ 0) (.int .i64 x) w λv3=>dU (Addr.add ⟨n,0,none⟩ 1) (.int .i64 y) v3 λv4=>gE .i64 (Addr.add ⟨n,0,none⟩ 0) v4 λres=>gE .i64 (Addr.add ⟨n,0,none⟩ 1) v4 λpC=>K' res pC v4:=
 hb.s1 aA λv3 o3 a=>a.s1 aA λv4 o4 b4=>b4.rI rfl (b4.rI rfl (hK v4 ((K.own o3 hB).own o4 hB)))
theorem O3 (h:HH U F L H)(ht:t<H.bQ.length)(x:Int)(hx:iG x)(hr:bU H.live x=none->∀A∈H.bX,iI A)(hlen:∀g,H.bQ[t]?=some g->g.bP.length<=1000)(h0:∀b,bU H.live x=some b->0<=x){R:Value->Int->Int->Hp->Prop}
 (hR:∀σ' ts',Ext F U σ'->HH σ' (Grow F U) {L with ts:=ts'} (U6 H t x).1->R (mZ (U6 H t x).2.1) (U6 H t x).2.2.1 (U6 H t x).2.2.2 σ'):Zs.c (aW L.p) (t:Int) x U R:=by
 refine Zs.o ?_;unfold Zs.v;refine nw (cs:=[.int .i64 0,.int .i64 0]) λv hz e hb=>?_;have K1:=(HK.start h).box e hz;refine bK (K1.h.hd.rM rfl ⟨_,K1.h.kK,?_⟩);refine nw (cs:=[.int .i64 0,.int .i64 0,.int .i64 0,.int .i64 0]) λv1 hz1 e1 hb1=>?_;have K2:=K1.box e1 hz1;have hbv:=e1.bT hb id;have m:U.size≠v.size:=by omega
 refine hb1.s1 aA λv2 o2 b2=>b2.s1 aA λv3 o3 b3=>b3.s1 aA λv4 o4 b4=>b4.s1 aA λv5 o5 b5=>?_;have K5:=(((K2.own o2 (.inr rfl)).own o3 (.inr rfl)).own o4 (.inr rfl)).own o5 (.inr rfl);have D:=Ws o5 (Ws o4 (Ws o3 (Ws o2 hbv m) m) m) m;have hL:L = {L with ts:=L.ts}:=rfl;cases hm:bU H.live x with
 | none=>
  have hno:U6 H t x=(H,none,0,lZ H x):=by unfold U6;rw[hm]
  rw[hno]at hR;simp only at hR;refine cC rfl ?_;refine uq (λw=>lZ H x=8/\aG v5 w) (λw ⟨h8,ew⟩=>?_) λJ N=>?_
  ·rw[h8]at hR;exact gJ (n:=U.size) (K5.fr ew) (.inl (.inr rfl)) (ew.bT D id) λC K'=>hR C L.ts K'.e (K'.fin h)
  ·refine G9 K5.h x hx λv9 S=>?_;have K9:=K5.fr S;have hb9:=S.bT D id;refine cP (λac=>?_) λhlt=>N v9 ⟨zB O,S⟩;have M:=Cy ac;obtain⟨A,hA⟩:∃A,H.bX[(XU H.bX x).toNat]?=some A:=⟨_,cU M.1⟩;obtain⟨Y,hY,_,hAY⟩:=K9.h.ar hA;have a:lZ H x=(match U4 A x with
    | some (k,y)=>if 0<=k/\(y:Int)=x then(9:Int)else 8
    | none=>8):=by unfold lZ;rw[zC ac,hA];rfl
   rw[M.2];refine bK (K9.h.hd.rS rfl (K9.h.rA hY ?_));refine PA hAY (hr hm A (zG hA)) x hx (λz k y d hf=>?_) λz d hf=>?_
   ·rw[hf]at a;simp only at a;rw[a]at hR N;have K10:=K9.fr d;have aa:=d.bT hb9 id;refine KY (λr w=>w=z/\r=decide (0<=k)) (λr w ⟨K,i⟩=>?_) λJ1 G=>?_
    ·subst K;subst i;refine KY (λr w2=>w2=w/\r=decide (0<=k/\(y:Int)=x)) (λr w2 ⟨K,i⟩=>?_) λJ2 P=>?_
     ·subst i;rw[K];refine cP (λE=>?_) λE=>?_
      ·rw[zC E]at hR;exact gJ (n:=U.size) K10 (.inl (.inr rfl)) aa λC K'=>hR C L.ts K'.e (K'.fin h)
      ·exact N w ⟨zB E,S.trans d⟩
     ·refine cP (λE=>P _ _ ⟨rfl,?_⟩) λE=>P _ _ ⟨rfl,?_⟩
      ·by_cases hyx:(y:Int)=x
       ·rw[zJ (⟨E,hyx⟩:0<=k/\(y:Int)=x),zT.2 hyx]
       ·rw[zN (λhx=>hyx hx.2),l6.2 hyx]
      ·rw[zN (λhx=>E hx.1)]
    ·exact cC rfl (G _ _ ⟨rfl,rfl⟩)
   ·rw[hf]at a;simp only at a;rw[a]at N;refine KY (λr w=>w=z/\r=false) (λr w ⟨K,i⟩=>?_) λJ1 G=>cB rfl (G _ _ ⟨rfl,rfl⟩);subst K;subst i;exact bW.intro (cB rfl (cB rfl (N w ⟨rfl,S.trans d⟩)))
 | some b=>
  have hb0:=h0 b hm;have hfd:U6 H t x=(if b.2.2.1<0 then({H with live:=cR H.live x},some (.dC (x/256) b.2.2.2),0,0)
   else(QO {H with live:=cR H.live x} t b.2.2.1.toNat [x],some (.put b.2.2.1.toNat x),0,0)):=by unfold U6;rw[hm]
  rw[hfd]at hR;have hgb:(bU H.live x).getD ((0,0,0,0):Bk)=b:=by rw[hm];rfl
  rw[hgb]at b5;refine cB rfl ?_;refine bK (K5.h.hd.rM rfl ?_);obtain⟨hF,X⟩:=K5.h.r7;refine⟨_,K5.h.kK,λv6 o6 _ hm6=>?_⟩;obtain⟨e6,h6⟩:=X v6 _ (o6 _ rfl) hm6;have K6:=K5.to e6 h6 λb _ hb=>.inl hb;have Z:=K5.cV e6 D (.inl (.inr rfl));have s:=K5.cV e6 b5 (.inr rfl);refine s.rI rfl (cP (λab=>?_) λhnn=>?_)
  ·have B:b.2.2.1<0:=ab;rw[zC B]at hR;refine nz aB (ar (by rw[XX O];omega) (by rw[XX O];unfold iG at hx;omega) (s.rI rfl ?_));rw[XX O];exact gJ (n:=U.size) K6 (.inl (.inr rfl)) Z λC K'=>hR C L.ts K'.e (K'.fin h)
  ·have V:¬b.2.2.1<0:=hnn;rw[zB V]at hR;refine s.rI rfl (nw (cs:=[.int .i64 x]) λv7 hz7 e7 hb7=>?_);have K7:=K6.box e7 hz7;have Q:=e7.bT Z id;have hc7:=e7.bT s id;have W:b.2.2.1=((b.2.2.1.toNat:Nat):Int):=by omega
   have hs7:cT ⟨some ⟨v6.size,0,none⟩,1,1⟩ 1 (Wj [x]) v7 (· = v6.size):=hb7.fX (o:=0) rfl rfl λj hj=>by rw[zH];rfl
   have hz6:=K6.e.1;rw[W];refine GQ K7.h (t:=t) ht b.2.2.1.toNat hs7 (zD _) aA (λq _ u hp=>(K7.p q hp).2.1 (.inr u)) (K7.o.1.sub λq u=>O) (λu=>K7.o.2 O) hlen λv8 ts8 e8 h8=>?_;have K8:=(K6.fr e7).sG e8 h8 λq hql u=>by
    rcases u with u|u
    ·exact u.imp id .inl
    ·refine .inr (.inr ⟨.inr O,λhB=>?_⟩);have:=(K6.b q hB).2;omega
   have hb8:=K7.cV e8 Q (.inl (.inl (.inr rfl)));have hc8:=K7.cV e8 hc7 (.inl (.inr rfl));refine hc8.rI (x:=((b.2.2.1.toNat:Nat):Int)) (by rw[←W];rfl) ?_;exact gJ (n:=U.size) K8 (.inl (.inr rfl)) hb8 λC K'=>hR C ts8 K'.e (K'.fin h)
end Go.Ar
namespace Go.Ar
open Go Go.Vc Go.Proofs
variable {U u u':Hp}{F B P Q:Rg}{L:dI}{H H':Hw}{t k n pb:Nat}{A:AR}{Y:Lay}{x:eL}{g:Th}{c:bZ}{l:Li}{cs:List Value}
theorem rK {t' t:TypeId}{w:Value}{A B:Prop}(hne:t'≠t)(h:B):∃is:Bool,kc (.iface t' w) t [] [] is/\If is A B:=⟨false,⟨rfl,.inr ⟨_,_,rfl,hne⟩⟩,cB rfl h⟩
theorem lh {t' t:TypeId}{w:Value}{A B:Int->Prop}(hne:t'≠t)(h:B 0):∃x:Int,∃is:Bool,kc (.iface t' w) t [.int .i64 x] [.int .i64 0] is/\If is (A x) (B x):=⟨0,false,⟨rfl,.inr ⟨_,_,rfl,hne⟩⟩,cB rfl h⟩
theorem jd {t' t:TypeId}{w:Value}{A B:Int->Int->Prop}(hne:t'≠t)(h:B 0 0):∃x:Int,∃y:Int,∃is:Bool,kc (.iface t' w) t [.int .i64 x,.int .i64 y] [.int .i64 0,.int .i64 0] is/\If is (A x y) (B x y):=⟨0,0,false,⟨rfl,.inr ⟨_,_,rfl,hne⟩⟩,cB rfl h⟩
theorem AB {t:TypeId}{A B:Prop}(h:A):∃is:Bool,kc (.iface t (.agg #[])) t [] [] is/\If is A B:=⟨true,rfl,cC rfl h⟩
theorem Bw {t:TypeId}{a:Int}{A B:Int->Prop}(h:A a):∃x:Int,∃is:Bool,kc (.iface t (.agg #[.int .i64 a])) t [.int .i64 x] [.int .i64 0] is/\If is (A x) (B x):=⟨a,true,rfl,cC rfl h⟩
theorem xj {t:TypeId}{a b:Int}{A B:Int->Int->Prop}(h:A a b):∃x:Int,∃y:Int,∃is:Bool,kc (.iface t (.agg #[.int .i64 a,.int .i64 b])) t [.int .i64 x,.int .i64 y] [.int .i64 0,.int .i64 0] is/\If is (A x y) (B x y):=⟨a,b,true,rfl,cC rfl h⟩
theorem HH.tc (h:HH u P L H)(hx:L.ts[t]?=some x)(hg:H.bQ[t]?=some g){b o:Nat}(ha:L.cN.a=some ⟨b,o,none⟩){d:Nat}(hd:d<3){v:Value}(hv:(jA (x,g))[d]?=some v):cell u (Addr.add ⟨b,o+3*t,none⟩ d)=some v:=by
 obtain⟨j,m,e,i⟩:=wF h.nb hx hg hd hv;rw[ha]at e;cases e;rw[add_lit,show o+3*t+d=o+(3*t+d) by omega];exact i
theorem HH.vR (h:HH u P L H)(hP:∀b,P b->b<u.size)(hx:L.ts[t]?=some x)(hg:H.bQ[t]?=some g)(N:Rg)(hN:∀b,b<u.size->P b->¬N b)(oN:jc N)(oN2:¬N 1) :
 ∃G D:Rg,(∀b,G b->P b)/\(∀b,D b->P b)/\(∀b,G b->¬D b)/\iv x.h g.bP u G/\(∀u1,Ext G u u1->cT L.cN 3 (gV L.ts H.bQ) u1 D) ∧
 ∀(u1:Hp) (s:Sl) (bs:List Bt) (G':Rg),Ext G u u1->(∀b,G' b->G b\/N b)->iv s bs u1 G'->∀{b o:Nat} (ha:L.cN.a=some ⟨b,o,none⟩) {K:aP},
  (∀u2,Ext D u1 u2->HH u2 (λb=>P b/\¬G b\/G' b/\b<u1.size) {L with ts:=L.ts.set t {x with h:=s}} {H with bQ:=H.bQ.set t {g with bP:=bs}}->K u2) →
  dU (Addr.add ⟨b,o+3*t,none⟩ 1) (.slice s.a s.len s.cap) u1 K:=by
 have W:=h.lL;have S:=Ga h.s.ts;have U:=(cX.1 hg).1;obtain⟨G,D,z,y,hd,J,E,_,r⟩:=h.rQ hx hg N hN oN oN2;have p:∀u1,Ext G u u1->bR L.cN 3 (gV L.ts H.bQ) u1 D:=λu1 e=>aI.bS E e λb _ d hx=>hd b hx d;refine⟨G,D,z,y,hd,J,λu1 e=>bR.fX (p u1 e),λu1 s bs G' e i C b o ha K M=>?_⟩;have Q:o=0:=by
  rcases E.2 with⟨h0,_⟩|⟨F,_,_,ha',_⟩
  ·omega
  ·rw[ha]at ha';cases ha';rfl
 subst Q;have m:∀b,G' b->¬D b:=λb d hx=>by
  rcases i b d with h1|h1
  ·exact hd b h1 hx
  ·exact hN b (hP b (y b hx)) (y b hx) h1
 refine(p u1 e).st (j:=3*t+1) O (λF w=>by rw[ha]at w;cases w;rw[add_lit];congr 1;omega) λu2 e2 A=>?_;have B:=(iv.loc _ _).bS ((iv.loc _ _).cut C) e2 λb _ d hx=>m b d.1 hx;obtain⟨V,R⟩:=r u2 s bs (Cut G' u1) D ((e.sub λb d=>.inl d).trans (e2.sub λb d=>.inr d)) (λb d=>(i b d.1).imp .inl id) (λb d=>.inl (.inr d)) (λb d=>m b d.1) B A;refine M u2 e2 (R.mono (λb _ d=>?_) (λb (d:P b/\¬G b\/G' b/\b<u1.size)=>?_) λ(d:P _/\¬G _\/G' _/\_<u1.size)=>?_)
 ·rcases d with d|d|d
  ·exact .inl ⟨d.1,λhx=>d.2.2 (.inl hx)⟩
  ·exact .inr d
  ·exact .inl ⟨y b d,λhx=>hd b hx d⟩
 ·rcases d with d|d
  ·exact h.o b d.1
  ·exact(i b d.1).elim (λhx=>h.o b (z b hx)) (oN b)
 ·rcases d with d|d
  ·exact h.o2 d.1
  ·exact(i _ d.1).elim (λhx=>h.o2 (z _ hx)) oN2
theorem iv.mc {s:Sl}{G:Rg}{xs:List Int}{r:List Bt}(h:iv s ((k,xs)::r) u G):∃(so:Sl) (ps:List (Nat×Sl)) (D:Rg),dJ s 2 (fG ((k,so)::ps)) u (λb=>G b/\¬D b)/\cT so 1 (Wj xs) u (λb=>D b/\kP so b)/\so.len<=so.cap/\kq ps r u (λb=>D b/\¬kP so b)/\(∀b,D b->G b)/\uA ps/\(∀x∈r,x.2≠[])/\xs≠[]:=by
 obtain⟨ps,D,d,j,K,C,g⟩:=h;cases ps with
 | nil=>have:=j.1;simp at this
 | cons p ps=>
  obtain⟨L,so⟩:=p;obtain⟨e1,y,z⟩:=j.2 0 (L,so) (k,xs) rfl rfl;simp only at e1 y z;subst e1;have e:=r5.1 C;refine⟨so,ps,D,d,y.lS,z,⟨by have:=j.1;simpa using this,λi p x w m=>?_⟩,K,e.2,λx m=>g x (mC _ m),g _ oh⟩;obtain⟨M,J,E⟩:=j.2 (i+1) p x (by simpa using w) (by simpa using m);refine⟨M,aH.mono J.lS λb _ A=>⟨A.1,?_⟩,E⟩;rintro⟨a,h1,h2⟩;obtain⟨F,B,H⟩:=A.2;exact e.1 p (zG w) a F h1 B (h2.trans H.symm)
theorem iv.lJ {s:Sl}{G:Rg}{b:Bt}{r:List Bt}(h:iv s (b::r) u G):iv ⟨if s.cap=1 then s.a else s.a.map (·.add (1*2)),s.len-1,s.cap-1⟩ r u G:=by
 have i:=h.len;obtain⟨k,A⟩:=b;obtain⟨x,w,D,d,z,B,j,m,g,e,y⟩:=h.mc;exact⟨w,D,d.from (lo:=1) (by simp at i;omega),(kq.loc _ _).mono j λb _ p=>p.1,m,g,e⟩
theorem IL {s so:Sl}{ps:List (Nat×Sl)}{G:Rg}(h:cT s 2 (fG ((k,so)::ps)) u G){K:Addr->Prop}(hK:∀a,cell u (Addr.add a 0)=some (.int .i64 (k:Int))->cell u (Addr.add a 1)=some (.slice so.a so.len so.cap)->K a):Ix s.a s.len 0 2 K:=by
 obtain⟨b,o,i,m⟩:=h.cell (j:=0) (v:=.int .i64 (k:Int)) rfl;obtain⟨p,r,d,e⟩:=h.cell (j:=1) (v:=.slice so.a so.len so.cap) rfl;have g:=h.1;rw[KH]at g;simp only[zX]at g;rw[i]at d;cases d;rw[i];refine ix O O ?_;rw[add_lit];exact hK _ (by rw[add_lit];exact m) (by rw[add_lit];exact e)
theorem iv.app {s s2:Sl}{G Q:Rg}{bs bs2:List Bt}{e:Nat}(h:iv s bs u G)(h2:iv s2 bs2 u Q)(hd:∀b,G b->¬Q b)(hl:bs.length+bs2.length<=1000){K:Sl->Hp->Prop}
 (hK:∀s' u',Ext G u u'->iv s' (bs++bs2) u' (λb=>G b\/Q b\/u.size<=b)->K s' u'):App s 2 32 e [.int .i64 0,.slice none 0 0] s2 u K:=by
 have l1:=h.len;have l2:=h2.len;obtain⟨Z,D,w,H,X,E,A⟩:=h;obtain⟨F,D2,z,m,r,P,y⟩:=h2;by_cases h0:s2.len=0
 ·have Y:bs2=[]:=A9 O;subst Y;refine w.ub h0 (by
   have:s.len*32<=1000*32:=l5 (by simp at hl;omega) O;omega) (by simp at hl;omega) λR=>hK _ u (Ext.refl _ _) ?_
  rw[kI];exact⟨Z,D,(dJ.loc _ _ _).mono R λb _ d=>⟨.inl d.1,d.2⟩,H,λb d=>.inl (X b d),E,A⟩
 ·have e1:(s.len+s2.len)*32<=1000*32:=l5 O O;refine((dJ.loc _ _ _).cut w).app (ys:=fG F) rfl (by rw[KH];have:=m.1;omega) z.fX.rd Ha O O O λs' u' _ L R=>hK s' u' (L.sub λb d=>d.1.1) ?_;have hz:=L.1;have W:=H.1;refine⟨Z++F,λb=>D b/\b<u.size\/D2 b/\b<u.size,?_,⟨by simp[H.1,m.1],λi p x C g=>?_⟩,λb d=>?_,pY.2 ⟨E,P,λp C q hq a a' U S e3=>?_⟩,λx g=>(zK.1 g).elim (A x) (y x)⟩
  ·rw[U7];refine(dJ.loc _ _ _).mono R λb _ d=>?_;rcases d with d|d
   ·exact⟨.inl d.1.1,λg=>g.elim (λg=>d.1.2 g.1) λg=>hd b d.1.1 (r b g.1)⟩
   ·exact⟨.inr (.inr d),λg=>by rcases g with g|g<;>omega⟩
  ·rcases kE i Z.length with B|B
   ·rw[zh B]at C;rw[zh O]at g;obtain⟨N,V,M⟩:=H.2 i p x C g;exact⟨N,aH.mono (aH.bS (aH.cut V) L λb _ d g=>g.1.2 d.1) λb _ d=>.inl d,M⟩
   ·rw[zt B]at C;rw[zt O,←W]at g;obtain⟨N,V,M⟩:=m.2 _ p x C g;exact⟨N,aH.mono (aH.bS (aH.cut V) L λb _ d g=>hd b g.1.1 (r b d.1)) λb _ d=>.inr d,M⟩
  ·rcases d with d|d
   ·exact .inl (X b d.1)
   ·exact .inr (.inl (r b d.1))
  ·obtain⟨i,B⟩:=zQ C;obtain⟨j,E⟩:=zQ hq;have hil:=(cX.1 B).1;have hjl:=(cX.1 E).1;have hy:bs[i]?=some (bs[i]' O):=cU _;have J:bs2[j]?=some (bs2[j]'(by have:=m.1;omega)):=cU _;have b1:=(H.2 i p _ B hy).2.1.bT (by simpa[Wj]using A _ (zG hy)) ⟨a,U,rfl⟩;have b2:=(m.2 j q _ E J).2.1.bT (by simpa[Wj]using y _ (zG J)) ⟨a',S,rfl⟩;rw[e3]at b1;exact hd _ (X _ b1.1) (r _ b2.1)
theorem HK.vT (K:HK F U B u P L H){B':Rg}(h1:∀b,B' b->U.size<=b/\b<u.size/\¬P b):HK F U (λb=>B b\/B' b) u P L H:=
 ⟨K.h,K.e,λb a=>⟨(K.p b a).1,λg=>g.elim (K.p b a).2.1 λd=>(h1 b d).2.2 a,(K.p b a).2.2⟩,λb a=>a.elim (K.b b) λd=>⟨(h1 b d).1,(h1 b d).2.1⟩,K.o⟩
theorem Zz (hg:H.bQ[t]?=some g)(f:Th->Th):H.dV t f = {H with bQ:=H.bQ.set t (f g)}:=by
 unfold Hw.dV;rw[Ve hg]
theorem Gw (hg:H.bQ[t]?=some g):H.jW t=g:=by unfold Hw.jW;rw[zP,hg];rfl
theorem Ud (hc:H.tb[k]?=some c):H.cls k=c:=by unfold Hw.cls;rw[zP,hc];rfl
theorem yq (hl:g.ls[k]?=some l):g.li k=l:=by unfold Th.li;rw[zP,hl];rfl
theorem Bh (ha:H.bX[H.own t]?=some A):H.eD t=A:=by unfold Hw.eD;rw[zP,ha];rfl
theorem jN (h:HS L H)(t:Nat):H.own t<H.bX.length:=uP _ (by have:=h.a1;omega)
theorem HH.Ai (h:HH u P L H)(hx:L.ts[t]?=some x)(hg:H.bQ[t]?=some g):g.ls.length=H.tb.length:=by
 obtain⟨G,_,a,_⟩:=h.oA hx hg;exact a.len
theorem DE (ha:H.bX[k]?=some A):H.cD k A=H:=by unfold Hw.cD;rw[Qh ha]
theorem Nk (l:List Nat):ints l=Wj (l.map λ(x:Nat)=>(x:Int)):=by simp[ints,Wj]
theorem CO (f:bZ->Li->List Int×Li)(tb:List bZ)(ls:List Li):(Kg f tb ls).length<=tb.length:=by
 unfold Kg;exact zY (List.length_filterMap_le _ _) aA
theorem HH.qG (h:HH u P L H):H.tb.length<=40:=by
 obtain⟨x,g,d,b⟩:=h.th (t:=0) h.s.t1;obtain⟨G,_,a,_⟩:=h.oA d b;exact a.nr
theorem Ti {s:Sl}{b o:Nat}(ha:s.a=some ⟨b,o,none⟩)(hl:0<s.len){K:Addr->Prop}(hK:K ⟨b,o+0,none⟩):Ix s.a s.len 0 1 K:=by
 rw[ha];exact ix (wZ _) O (by rw[add_lit];exact hK)
theorem MO {s:Sl}{ps:List (Nat×Sl)}{G:Rg}(h:cT s 2 (fG ps) U G)(hl:s.len<=1000000){R:Sl->Hp->Prop}(hR:∀s' σ',s'.len=s.len->aG U σ'->bR s' 2 (fG ps) σ' (λb=>U.size<=b)->R s' σ'):Wq.c s U R:=by
 refine Wq.o ?_;unfold Wq.v;exact DM h O rfl Ha O hl hR
def uS (H:Hw)(t:Nat):Ph->Prop
 | .take k=>k<H.tb.length/\∀y l,Kh (H.cls k) ((H.jW t).li k)=(some y,l)->iG y
 | .cI k _=>k<H.tb.length/\(Z6 (H.eD t) (k:Int)=0->Yy (H.eD t) (k:Int)≠[])
 | .cJ _ _=>True
 | .grow _ _=>True
 | .fill=>∃k x xs r,(H.jW t).bP=(k,x::xs)::r/\k<H.tb.length/\iG x/\((H.jW t).li k).os.length+xs.length<=256
 | .eJ m=>Z5 (H.eD t) H.sp (m:Int) 1<=1000000
 | .find x=>iG x/\(bU H.live x=none->∀A∈H.bX,iI A)/\∀b,bU H.live x=some b->0<=x
 | .put k _=>k<H.tb.length/\(H.jW t).bP≠[]
 | .back=>∃k xs r,(H.jW t).bP=(k,xs)::r/\(∀x∈xs,iG x/\0<=XU H.bX x)/\xs.length<=1000000
 | .dC _ a=>0<=a/\a.toNat<H.bX.length/\∀A∈H.bX,∀r∈A.runs,r.1<=1000000
 | .drain=>True
def Ju (U:Hp)(F:Rg)(L:dI)(o:tD)(R:Value->Int->Int->Hp->Prop):Prop:=∀σ' ts',Ext F U σ'->HH σ' (Grow F U) {L with ts:=ts'} o.1->R (mZ o.2.1) o.2.2.1 o.2.2.2 σ'
set_option maxRecDepth 8000 in
theorem L8 (hso:GC)(h:HH U F L H)(ht:t<H.bQ.length)(p:Ph)(hp:uS H t p)(hlen:∀g,H.bQ[t]?=some g->g.bP.length<=900){R:Value->Int->Int->Hp->Prop}(hR:Ju U F L (Wt H t p) R) :
 Zp.c (aW L.p) (t:Int) (mZ (some p)) U R:=by
 refine Zp.o ?_;unfold Zp.v;have hlen':∀g,H.bQ[t]?=some g->g.bP.length<=1000:=λg hg=>by have:=hlen g hg;omega
 refine nw (cs:=[.int .i64 0,.int .i64 0]) λv hz e i=>?_;have K1:=(HK.start h).box e hz;obtain⟨x,g,E,hg⟩:=h.th ht;have hlen:=hlen g hg;have htg:=Gw hg;have hol:=jN h.s t;obtain⟨A,hA⟩:∃A,H.bX[H.own t]?=some A:=⟨_,cU hol⟩;have hAe:=Bh hA;obtain⟨Y,hY,_,_⟩:=h.ar hA;refine bK (K1.h.hd.rS rfl ?_);refine BX K1.h.nb K1.h.s.ts E hg (d:=0) O rfl λtb0 to0 ha _=>?_;have hS1:m5 (λu=>u=v) L H.tb:=λm hm=>by cases hm;exact⟨_,L.ts,H,K1.h,rfl⟩
 refine⟨λu=>u=v,rfl,bK (hS1.fO (EB K1.h t ⟨rfl,K1.h.rA hY ⟨rfl,?_⟩⟩))⟩;refine uq (λw=>∃P ts',HK F U (λb=>False\/b=U.size) w P {L with ts:=ts'} (Wt H t p).1/\bY w U.size [.int .i64 0,.int .i64 0]/\(Wt H t p).2=(none,0,0)) (λw ⟨P,ts',K,hbw,X⟩=>?_) λJ hJ=>?_
 ·refine gJ (n:=U.size) K (.inr rfl) hbw λw' K'=>?_;have:=hR w' ts' K'.e (K'.fin h);rw[X]at this;exact this
 cases p with
 | take k=>
  obtain⟨hk,hy9⟩:k<H.tb.length/\∀y l,Kh (H.cls k) ((H.jW t).li k)=(some y,l)->iG y:=hp;obtain⟨c,hc⟩:∃c,H.tb[k]?=some c:=⟨_,cU hk⟩;have hll:=h.Ai E hg;obtain⟨l,hl⟩:∃l,g.ls[k]?=some l:=⟨_,cU (by rw[hll];exact hk)⟩;have hce:=Ud hc;have hle:=yq hl;rw[hce,htg,hle]at hy9;refine Bw (nw (cs:=[.int .i64 0]) λv5 M Z N=>?_);have K5:=K1.box Z M;refine N.s0 aA λv6 o6 hb6=>?_;have K6:=K5.own o6 (.inr rfl);have C:=Ws o6 (Z.bT i id) O;refine⟨λu=>u=v6,rfl,bK ⟨some ⟨x.c.p,0,none⟩,λu V=>by cases V;exact K6.h.tc E hg ha O rfl,⟨(k:Int),λu V=>by cases V;rw[add_lit,hb6.cell];rfl,?_⟩⟩⟩;refine R6 K6.h E hg hc hl λv7 ts7 W h7=>?_;have K7:=K6.to W h7 λb _ i=>i;have hb7:=K6.cV W hb6 (.inr rfl);have B:=K6.cV W C (.inl (.inr rfl));cases htk:Kh c l with
  | mk o l'=>
  rw[htk]at h7 K7;cases o with
  | some y=>
   have X:Wt H t (.take k)=(VE (H.dS t g (g.ls.set k l')) y (c.size:Int) (k:Int),none,y,0):=by
    simp only[Wt,hce,htg,hle,htk,Zz hg];rfl
   rw[X]at hR;have hS2:m5 (λu=>(∃P ts H',HH u P {L with ts:=ts} H'/\H'.tb=H.tb)/\bY u v.size [.int .i64 (k:Int)]) L H.tb:=λm hm=>hm.1;refine cC rfl ⟨λu=>(∃P ts H',HH u P {L with ts:=ts} H'/\H'.tb=H.tb)/\bY u v.size [.int .i64 (k:Int)],⟨⟨_,_,_,K7.h,rfl⟩,hb7⟩,bK (hS2.dE ⟨(k:Int),λu V=>by rw[add_lit,V.2.cell];rfl,?_⟩)⟩;refine m5.rC (L:={L with ts:=ts7}) (H:=H.dS t g (g.ls.set k l')) hS2 K7.h hc ⟨(k:Int),λu V=>by rw[add_lit,V.2.cell];rfl,?_⟩;refine BN K7.h y (c.size:Int) (k:Int) (hy9 y l' htk) λv8 e8 h8=>?_;have K8:=K7.to e8 h8 λb _ i=>.inl i;refine⟨⟨⟨_,_,_,h8,rfl⟩,K7.cV e8 hb7 (.inr rfl)⟩,?_⟩;exact gJ (n:=U.size) K8 (.inl (.inr rfl)) (K7.cV e8 B (.inl (.inr rfl))) λw' K'=>hR w' ts7 K'.e (K'.fin h)
  | none=>
   have X:Wt H t (.take k)=(H.dS t g (g.ls.set k l'),some (.cI k (oM c l')),0,0):=by
    simp only[Wt,hce,htg,hle,htk,Zz hg];rfl
   rw[X]at hR;have htlt:=(cX.1 hg).1;have hklt:=(cX.1 hl).1;have hg7:(H.dS t g (g.ls.set k l')).bQ[t]?=some {g with ls:=g.ls.set k l'}:=by simp[Hw.dS,htlt]
   obtain⟨x7,g7,hx7,_⟩:=K7.h.th (t:=t) (by simp[Hw.dS,htlt]);have hl7:({g with ls:=g.ls.set k l'}:Th).ls[k]?=some l':=by simp[hklt]
   refine cB rfl ⟨λu=>u=v7,rfl,bK ⟨some ⟨x7.c.p,0,none⟩,λu V=>by cases V;exact K7.h.tc hx7 hg7 ha O rfl,⟨(k:Int),λu V=>by cases V;rw[add_lit,hb7.cell];rfl,?_⟩⟩⟩;refine MT K7.h hx7 hg7 hc hl7 λv8 ts8 e8 h8=>?_;have K8:=K7.to e8 h8 λb _ i=>i;refine(K7.cV e8 hb7 (.inr rfl)).rI rfl ?_;exact gJ (n:=U.size) K8 (.inl (.inr rfl)) (K7.cV e8 B (.inl (.inr rfl))) λw' K'=>hR w' ts8 K'.e (K'.fin h)
 | cI k w=>
  obtain⟨hk,hne0⟩:k<H.tb.length/\(Z6 (H.eD t) (k:Int)=0->Yy (H.eD t) (k:Int)≠[]):=hp;rw[hAe]at hne0;obtain⟨c,hc⟩:∃c,H.tb[k]?=some c:=⟨_,cU hk⟩;have hce:=Ud hc;refine lh aB (xj (nw (cs:=[.int .i64 0,.int .i64 0]) λv5 M Z N=>?_));have K5:=K1.box Z M;refine N.s1 aA λv5b o5 b5=>b5.s1 aA λv6 o6 b6=>?_;have K6:=(K5.own o5 (.inr rfl)).own o6 (.inr rfl);have S:U.size≠v.size:=by omega
  have C:=Ws o6 (Ws o5 (Z.bT i id) S) S;refine uq (λu=>(∃P',HK F U (λb=>(False\/b=U.size)\/b=v.size) u P' L H)/\bY u U.size [.int .i64 0,.int .i64 0]/\bY u v.size [.int .i64 (k:Int),.int .i64 (w:Int)]/\Wt H t (.cI k w)=(H,some (.cJ k w),0,0)) (λu ⟨⟨P',K⟩,hbw,hbx,X⟩=>?_) λJ1 hJ1=>?_
  ·rw[X]at hR;exact hbx.rI rfl (hbx.rI rfl (gJ (n:=U.size) K (.inl (.inr rfl)) hbw λw' K'=>hR w' L.ts K'.e (K'.fin h)))
  ·refine b6.rI rfl (bK (K6.h.hd.rS rfl (b6.rI rfl (sW K6.h.jG hc (d:=2) O ?_))));simp only[zB (show ¬(2=0) by omega),zB (show ¬(2=1) by omega)];refine cO (λheq=>b6.rI rfl ?_) λhne'=>hJ1 v6 ⟨⟨_,K6⟩,C,b6,?_⟩
   ·have heq':w=c.batch:=by simp only[zT]at heq;omega
    refine GF K6.h hA hY (k:Int) λs v7 Q W hQ hs7 hcap h7=>?_;have K7:=K6.to W h7 λb _ i=>i.1;have b7:=K6.cV W b6 (.inr rfl);have B:=K6.cV W C (.inl (.inr rfl));refine cO (λh0=>b7.rI rfl ?_) λhn0=>?_
    ·have h0':Z6 A (k:Int)=0:=by simpa using h0
     have X:Wt H t (.cI k w)=(QO (H.cD (H.own t) (ZG A (k:Int))) t k (Yy A (k:Int)),some .fill,0,0):=by
      simp only[Wt,hce,hAe,heq',h0',zS]
     rw[X]at hR;refine GQ K7.h (t:=t) ht k hs7 hcap (hne0 h0') (λb _ z E=>E.1.2 z) (K6.h.o.sub hQ) (λz=>K6.h.o2 (hQ _ z)) hlen' λv8 ts8 e8 h8=>?_;have K8:=K7.sG e8 h8 λb i z=>by
      rcases z with z|z
      ·exact z.imp id .inl
      ·exact .inr (.inr ⟨(K6.p b (hQ b z)).1,(K6.p b (hQ b z)).2.1⟩)
     exact gJ (n:=U.size) K8 (.inl (.inr rfl)) (K7.cV e8 B (.inl (.inr rfl))) λw' K'=>hR w' ts8 K'.e (K'.fin h)
    ·have hn0':Z6 A (k:Int)≠0:=by simpa using hn0
     have hsame:ZG A (k:Int)=A:=by unfold ZG;rw[zB hn0']
     rw[hsame,DE hA]at K7;refine hJ1 v7 ⟨⟨_,K7⟩,B,b7,?_⟩;simp only[Wt,hce,hAe,heq',zB hn0',zS]
   ·have hne2:w≠c.batch:=λe=>by rw[e]at hne';simp at hne'
    simp only[Wt,hce,zB hne2]
 | cJ k w=>
  refine lh aB (jd aB (xj (nw (cs:=[.int .i64 0,.int .i64 0]) λv5 M Z N=>?_)));have K5:=K1.box Z M;refine N.s1 aA λv5b o5 b5=>b5.s1 aA λv6 o6 b6=>?_;have K6:=(K5.own o5 (.inr rfl)).own o6 (.inr rfl);have S:U.size≠v.size:=by omega
  have C:=Ws o6 (Ws o5 (Z.bT i id) S) S;refine b6.rI rfl (b6.rI rfl (PJ K6.h hA hY (k:Int) (w:Int) λs v7 Q W hQ hs7 h7=>?_));have K7:=K6.to W h7 λb _ i=>i.1;have b7:=K6.cV W b6 (.inr rfl);have B:=K6.cV W C (.inl (.inr rfl));have hsl:s.len=(Yj A (k:Int) (w:Int)).length:=by have:=hs7.1;simp[ints]at this;omega
  by_cases hemp:Yj A (k:Int) (w:Int)=[]
  ·have X:Wt H t (.cJ k w)=(H.cD (H.own t) (YA A (k:Int) (w:Int)),some (.grow k w),0,0):=by
    simp only[Wt,hAe,zC hemp]
   rw[X]at hR;refine fT (by rw[hsl,hemp];simp) (b7.rI rfl (b7.rI rfl ?_));exact gJ (n:=U.size) K7 (.inl (.inr rfl)) B λw' K'=>hR w' L.ts K'.e (K'.fin h)
  ·have X:Wt H t (.cJ k w)=(QO (H.cD (H.own t) (YA A (k:Int) (w:Int))) t k ((Yj A (k:Int) (w:Int)).map λ(x:Nat)=>(x:Int)),some .fill,0,0):=by
    simp only[Wt,hAe,zB hemp]
   rw[X]at hR;have hpos:=qe.2 hemp;refine lF (by rw[hsl];omega) (b7.rI rfl ?_);have hs7':=bR.fX hs7;rw[Nk]at hs7';have hz6:=K6.e.1;refine GQ K7.h (t:=t) ht k hs7' (bR.q8 hs7) (by simpa using hemp) (λb _ z E=>E.1.2 z) (K6.o.1.sub λb i=>by have:=hQ b i;omega) (λz=>K6.o.2 (by have:=hQ _ z;omega)) hlen' λv8 ts8 e8 h8=>?_;have K8:=K7.sG e8 h8 λb i z=>by
    rcases z with z|z
    ·exact z.imp id .inl
    ·have:=hQ b z;exact .inr (.inr ⟨.inr O,λhB=>by have:=(K6.b b hB).2;omega⟩)
   exact gJ (n:=U.size) K8 (.inl (.inr rfl)) (K7.cV e8 B (.inl (.inr rfl))) λw' K'=>hR w' ts8 K'.e (K'.fin h)
 | grow k w=>
  refine lh aB (jd aB (jd aB (xj (nw (cs:=[.int .i64 0,.int .i64 0]) λv5 M Z N=>?_))));have K5:=K1.box Z M;refine N.s1 aA λv5b o5 b5=>b5.s1 aA λv6 o6 b6=>?_;have K6:=(K5.own o5 (.inr rfl)).own o6 (.inr rfl);have S:U.size≠v.size:=by omega
  have C:=Ws o6 (Ws o5 (Z.bT i id) S) S;refine b6.rI rfl (Jg K6.h hA hY (k:Int) λv7 W h7=>?_);have K7:=K6.to W h7 λb _ i=>i;have b7:=K6.cV W b6 (.inr rfl);have B:=K6.cV W C (.inl (.inr rfl));refine cO (λhn0=>?_) λh0=>?_
  ·have hn0':KT A H.sp (k:Int)≠0:=by simpa using hn0
   have X:Wt H t (.grow k w)=({H.cD (H.own t) (cL A H.sp (k:Int)).1 with sp:=(cL A H.sp (k:Int)).2},none,0,KT A H.sp (k:Int)):=by
    simp only[Wt,hAe,zB hn0']
   rw[X]at hR;exact gJ (n:=U.size) K7 (.inl (.inr rfl)) B λw' K'=>hR w' L.ts K'.e (K'.fin h)
  ·have h0':KT A H.sp (k:Int)=0:=by simpa using h0
   have X:Wt H t (.grow k w)=({H.cD (H.own t) (cL A H.sp (k:Int)).1 with sp:=(cL A H.sp (k:Int)).2},some (.cJ k w),0,0):=by
    simp only[Wt,hAe,zC h0']
   rw[X]at hR;refine b7.rI rfl (b7.rI rfl ?_);exact gJ (n:=U.size) K7 (.inl (.inr rfl)) B λw' K'=>hR w' L.ts K'.e (K'.fin h)
 | fill=>
  obtain⟨k,y,ys,r,hh,hk,hy9,hfit⟩:∃k x xs r,(H.jW t).bP=(k,x::xs)::r/\k<H.tb.length/\iG x/\((H.jW t).li k).os.length+xs.length<=256:=hp;rw[htg]at hh hfit;obtain⟨c,hc⟩:∃c,H.tb[k]?=some c:=⟨_,cU hk⟩;have hll:=h.Ai E hg;obtain⟨l,hl⟩:∃l,g.ls[k]?=some l:=⟨_,cU (by rw[hll];exact hk)⟩;have hce:=Ud hc;have hle:=yq hl;rw[hle]at hfit;refine lh aB (jd aB (jd aB (jd aB (AB (nw (cs:=[]) λv5 M Z N=>?_)))));have K5:=K1.box Z M;have hbv5:=Z.bT i id;obtain⟨G,D,hG,hD,hd,aa,hr,hput⟩:=K5.h.vR (λb i=>(K5.p b i).2.2) E hg (λ_=>False) (λb _ _ z=>z) (K5.o.1.sub λb i=>i.elim) (λz=>z);rw[hh]at aa;obtain⟨so,ps,Dn,hrow,hso1,hcap,hBr,hDn,hj,S,hxne⟩:=aa.mc;have hz5':=K5.e.1;have hsol:so.len=ys.length+1:=by have:=hso1.1;simp[Wj]at this;omega
  refine bK (og (K5.h.tc E hg ha (d:=1) O rfl) (IL (dJ.fX hrow) λa ha0 ha1=>nR ha0 (og ha1 ?_)));refine nw (cs:=[.int .i64 0,.slice none 0 0]) λv43 hz43 e43 hb43=>hb43.s1 aA λv44 o44 b44=>b44.s1 aA λv45 o45 b45=>?_;have e45:aG v5 v45:=(e43.only o44 (.inr (zD _))).only o45 (.inr (zD _));have hz45:v5.size<v45.size:=b45.lt;refine bK (hput v45 ⟨none,0,0⟩ [] (λ_=>False) (aG.to e45) (λb i=>i.elim) (iv.nil _ _ _) ha λv46 e46 h46=>?_);have hz46:=e46.1;have e546:Ext _ v5 v46:=(aG.to e45).trans (e46.sub hD);have K46:=K5.to e546 h46 λb _ z=>by
   rcases z with z|z
   ·exact .inl z.1
   ·exact z.1.elim
  have hbv46:=K5.cV e546 hbv5 (.inl (.inr rfl));have b46:bY v46 v5.size _:=e46.bT b45 λE=>by have:=(K5.p _ (hD _ E)).2.2;omega
  have K46b:=K46.vT (B':=λb=>b=v5.size) λb i=>⟨O,O,λE=>by
   subst i;rcases E.1 with h1|h1
   ·have:=(K5.p _ h1.1).2.2;omega
   ·exact h1.1⟩
  have hso46:=aH.bS (aH.bO (aH.cut hso1) e45) e46 λb _ i E=>hd b (hDn b i.1.1) E;have hXn:∀b,(Dn b/\kP so b)/\b<v5.size->¬Cut (λb=>(Cut F U b/\¬G b)\/False/\b<v45.size) v46 b:=λb i E=>by
   rcases E.1 with h1|h1
   ·exact h1.2 (hDn b i.1.1)
   ·exact h1.1
  have hg46:({H with bQ:=H.bQ.set t {g with bP:=[]}}:Hw).bQ[t]?=some {g with bP:=[]}:=by simp[ht]
  have hx46:(L.ts.set t {x with h:=⟨none,0,0⟩})[t]?=some {x with h:=⟨none,0,0⟩}:=zM (cX.1 E).1;refine bK (uR (K46b.h.tc hx46 hg46 ha (d:=0) O rfl) (b46.rI rfl (b46.rS (a:=so.a) (n:=so.len) (c:=so.cap) rfl (iQ (lo:=1) (by show 1<=so.len;omega) hcap (zD _) ?_))));have hsub:=cT.sub hso46 (lo:=1) (hi:=so.len) (mx:=so.cap) O (zD _) hcap;have hsx:((Wj (y::ys)).drop (1*1)).take ((so.len-1)*1)=Wj ys:=by
   rw[mW (by simp[Wj];omega)];rfl
  rw[hsx]at hsub;have hl46:({g with bP:=[]}:Th).ls[k]?=some l:=hl;refine I9 K46b.h hx46 hg46 hc hl46 hsub hXn hfit λv47 ts47 e47 h47=>?_;have K47:=K46b.to e47 h47 λb _ i=>i;have hso47:=aH.bS hso46 e47 λb _ i E=>hXn b i E;have b47:=K46b.cV e47 b46 (.inr rfl);have hbv47:=K46b.cV e47 hbv46 (.inl (.inl (.inr rfl)));have X:Wt H t .fill=(VE {H with bQ:=H.bQ.set t {g with ls:=g.ls.set k (eC ys.reverse l),bP:=[]}} y (c.size:Int) (k:Int),none,y,0):=by
   simp only[Wt,htg,hh,Zz hg,hle,hce]
  rw[X]at hR;obtain⟨b0,o0,ha0',hc0⟩:=hso47.cell (j:=0) (v:=.int .i64 y) rfl;have hS4:m5 (λu=>((∃P ts H',HH u P {L with ts:=ts} H'/\H'.tb=H.tb)/\bY u v5.size [.int .i64 (k:Int),.slice so.a so.len so.cap])/\cell u ⟨b0,o0+0,none⟩=some (.int .i64 y)) L H.tb:=λm hm=>hm.1.1;refine⟨λu=>((∃P ts H',HH u P {L with ts:=ts} H'/\H'.tb=H.tb)/\bY u v5.size [.int .i64 (k:Int),.slice so.a so.len so.cap])/\cell u ⟨b0,o0+0,none⟩=some (.int .i64 y),⟨⟨⟨_,_,_,K47.h,rfl⟩,b47⟩,hc0⟩,⟨so,λu V=>by rw[add_lit,V.1.2.cell];rfl,?_⟩⟩;refine Ti ha0' O ⟨y,λu V=>V.2,bK (hS4.dE ⟨(k:Int),λu V=>by rw[add_lit,V.1.2.cell];rfl,?_⟩)⟩;refine m5.rC (L:={L with ts:=ts47}) (H:=Hw.dS {H with bQ:=H.bQ.set t {g with bP:=[]}} t {g with bP:=[]} (g.ls.set k (eC ys.reverse l))) hS4 K47.h hc ⟨(k:Int),λu V=>by rw[add_lit,V.1.2.cell];rfl,?_⟩;refine BN K47.h y (c.size:Int) (k:Int) hy9 λv48 e48 h48=>?_;have K48:=K47.to e48 h48 λb _ i=>.inl i;have hz4747:=e47.1;have hso48:=aH.bS hso47 e48 λb _ i E=>by
   rcases E.1 with h1|h1
   ·exact hXn b i h1
   ·have:=i.2;omega
  refine⟨⟨⟨⟨_,_,_,h48,rfl⟩,K47.cV e48 b47 (.inr rfl)⟩,?_⟩,?_⟩
  ·obtain⟨b1,o1,ha1',hc1⟩:=hso48.cell (j:=0) (v:=.int .i64 y) rfl;rw[ha0']at ha1';cases ha1';exact hc1
  ·have K49:=K48;simp only[Hw.dS,nH]at K49;exact gJ (n:=U.size) K49 (.inl (.inl (.inr rfl))) (K47.cV e48 hbv47 (.inl (.inl (.inr rfl)))) λw' K'=>hR w' ts47 K'.e (K'.fin h)
 | eJ m=>
  have hp:Z5 (H.eD t) H.sp (m:Int) 1<=1000000:=hp;rw[hAe]at hp;refine lh aB (jd aB (jd aB (jd aB (rK aB (Bw (nw (cs:=[.int .i64 0]) λv5 M Z N=>?_))))));have K5:=K1.box Z M;refine N.s0 aA λv6 o6 b6=>?_;have K6:=K5.own o6 (.inr rfl);have C:=Ws o6 (Z.bT i id) O;refine b6.rI rfl (Tz K6.h hA hY (m:Int) 1 λv7 W h7=>?_);have K7:=K6.to W h7 λb _ i=>i;have b7:=K6.cV W b6 (.inr rfl);have B:=K6.cV W C (.inl (.inr rfl));refine cO (λhn0=>?_) λh0=>?_
  ·have hn0':Qx A H.sp (m:Int) 1≠0:=by simpa using hn0
   have X:Wt H t (.eJ m)=({H.cD (H.own t) (cA A H.sp (m:Int) 1).1 with sp:=(cA A H.sp (m:Int) 1).2},none,0,Qx A H.sp (m:Int) 1):=by
    simp only[Wt,hAe,zB hn0']
   rw[X]at hR;exact gJ (n:=U.size) K7 (.inl (.inr rfl)) B λw' K'=>hR w' L.ts K'.e (K'.fin h)
  ·have h0':Qx A H.sp (m:Int) 1=0:=by simpa using h0
   have hm:m<=64:=by
    unfold Qx at h0';split at h0'
    ·rename_i hpo;simp only[Ks,zF,zU]at hpo;omega
    ·omega
   have X:Wt H t (.eJ m)=(VE {H.cD (H.own t) (cA A H.sp (m:Int) 1).1 with sp:=(cA A H.sp (m:Int) 1).2} ((Z5 A H.sp (m:Int) 1*256:Nat):Int) ((m*256:Nat):Int) (-1),none,((Z5 A H.sp (m:Int) 1*256:Nat):Int),0):=by
    simp only[Wt,hAe,zC h0']
   rw[X]at hR;refine cS (m:=Z5 A H.sp (m:Int) 1*256) O O (b7.rI rfl (cS (m:=m*256) O O ?_));refine BN K7.h _ _ _ O λv8 e8 h8=>?_;have K8:=K7.to e8 h8 λb _ i=>.inl i;exact gJ (n:=U.size) K8 (.inl (.inr rfl)) (K7.cV e8 B (.inl (.inr rfl))) λw' K'=>hR w' L.ts K'.e (K'.fin h)
 | find x=>
  obtain⟨hx9,hro,hlv⟩:iG x/\(bU H.live x=none->∀A∈H.bX,iI A)/\∀b,bU H.live x=some b->0<=x:=hp;refine lh aB (jd aB (jd aB (jd aB (rK aB (lh aB (Bw (nw (cs:=[.int .i64 0]) λv5 M Z N=>?_)))))));have K5:=K1.box Z M;refine N.s0 aA λv6 o6 b6=>?_;have K6:=K5.own o6 (.inr rfl);have C:=Ws o6 (Z.bT i id) O;refine b6.rI rfl (O3 K6.h ht x hx9 hro hlen' hlv λv7 ts7 W h7=>?_);have K7:=K6.to W h7 λb _ i=>i;have B:=K6.cV W C (.inl (.inr rfl));exact gJ (n:=U.size) K7 (.inl (.inr rfl)) B λw' K'=>hR w' ts7 K'.e (K'.fin h)
 | put k y=>
  obtain⟨hk,hne0⟩:k<H.tb.length/\(H.jW t).bP≠[]:=hp;rw[htg]at hne0;obtain⟨c,hc⟩:∃c,H.tb[k]?=some c:=⟨_,cU hk⟩;have hll:=h.Ai E hg;obtain⟨l,hl⟩:∃l,g.ls[k]?=some l:=⟨_,cU (by rw[hll];exact hk)⟩;have hce:=Ud hc;have hle:=yq hl;refine lh aB (jd aB (jd aB (jd aB (rK aB (lh aB (lh aB (xj (nw (cs:=[.int .i64 0,.int .i64 0]) λv5 M Z N=>?_))))))));have K5:=K1.box Z M;refine N.s1 aA λv5b o5 b5=>b5.s1 aA λv6 o6 b6=>?_;have K6:=(K5.own o5 (.inr rfl)).own o6 (.inr rfl);have S:U.size≠v.size:=by omega
  have C:=Ws o6 (Ws o5 (Z.bT i id) S) S;generalize hgg:(if(dK c y l).1=[]then({g with ls:=g.ls.set k (dK c y l).2}:Th)else{g with ls:=g.ls.set k (dK c y l).2,bP:=g.bP++[(k,(dK c y l).1)]})=g2
  have hg2n:g2.bP≠[]/\g2.bP.length<=901:=by
   rw[←hgg];split
   ·exact⟨hne0,by simp;omega⟩
   ·exact⟨by simp,by simp;omega⟩
  refine uq (λw=>∃P ts',HK F U (λb=>(False\/b=U.size)\/b=v.size) w P {L with ts:=ts'} {H with bQ:=H.bQ.set t g2}/\bY w U.size [.int .i64 0,.int .i64 0]) (λw ⟨P,ts2,K,hbw⟩=>?_) λJ2 hJ2=>?_
  ·have hg3:({H with bQ:=H.bQ.set t g2}:Hw).bQ[t]?=some g2:=by simp[ht]
   obtain⟨x2,_,hx2,_⟩:=K.h.th (t:=t) (by simpa using ht);obtain⟨G,D,hG,hD,hd,aa,hr,hput⟩:=K.h.vR (λb i=>(K.p b i).2.2) hx2 hg3 (λ_=>False) (λb _ _ z=>z) (K.o.1.sub λb i=>i.elim) (λz=>z);have hbl:=aa.len;have hbc:=aa.cap;obtain⟨b0,r0,hbr⟩:∃b r,g2.bP=b::r:=by
    cases hh:g2.bP with
    | nil=>exact absurd hh hg2n.1
    | cons b r=>exact⟨b,r,rfl⟩
   have tJ:g2.bP.drop 1=r0:=by rw[hbr];rfl
   rw[hbr]at aa;have hpos:1<=x2.h.len:=by rw[hbl,hbr];simp
   refine bK (og (K.h.tc hx2 hg3 ha (d:=1) O rfl) ?_);refine iQ (lo:=1) hpos hbc (zD _) ?_;refine bK (hput w _ _ G (Ext.refl _ _) (λb i=>.inl i) aa.lJ ha λw1 e1 h1=>?_);have e1':=e1.sub hD;have K1b:=K.to e1' h1 λb _ z=>by
    rcases z with z|z
    ·exact .inl z.1
    ·exact .inl (hG b z.1)
   have hbw1:=K.cV e1' hbw (.inl (.inr rfl));have K3:=K1b;simp only[nH]at K3;generalize hg3':({g2 with bP:=r0}:Th)=g3 at K3;have hl3:g3.bP=r0/\g3.ls=g2.ls:=by rw[←hg3'];exact⟨rfl,rfl⟩
   have hr0:r0.length<=900:=by have:=hg2n.2;rw[hbr]at this;simp at this;omega
   have hg3e:({H with bQ:=H.bQ.set t g3}:Hw).bQ[t]?=some g3:=by simp[ht]
   have hpe:iw H t k y=(if H.cf.dB<Q3 H.tb g3.ls then{H with bQ:=H.bQ.set t {g3 with ls:=Kc KU H.tb g3.ls,bP:=g3.bP++Kg KU H.tb g3.ls}}else{H with bQ:=H.bQ.set t g3}):=by
    have e2:(if(dK c y l).1=[]then H.dV t λh=>h.gT k (dK c y l).2 else QO (H.dV t λh=>h.gT k (dK c y l).2) t k (dK c y l).1) = {H with bQ:=H.bQ.set t g2}:=by
     rw[←hgg];split
     ·rw[Zz hg];rfl
     ·rw[Zz hg];unfold QO Hw.dV;simp only;rw[Ve (t:=g.gT k (dK c y l).2) (by simp[ht]),nH];rfl
    have e3:({H with bQ:=H.bQ.set t g2}:Hw).dV t (λh=>{h with bP:=h.bP.drop 1}) = {H with bQ:=H.bQ.set t g3}:=by
     rw[Zz hg3];simp only[nH,tJ,hg3']
    unfold iw;simp only[hce,htg,hle,e2,e3,Gw hg3e,Zz hg3e,nH]
   have hx3:(ts2.set t {x2 with h:=⟨if x2.h.cap=1 then x2.h.a else x2.h.a.map (·.add (1*2)),x2.h.len-1,x2.h.cap-1⟩})[t]?=some {x2 with h:=⟨if x2.h.cap=1 then x2.h.a else x2.h.a.map (·.add (1*2)),x2.h.len-1,x2.h.cap-1⟩}:=zM (cX.1 hx2).1
   generalize hx3':({x2 with h:=⟨if x2.h.cap=1 then x2.h.a else x2.h.a.map (·.add (1*2)),x2.h.len-1,x2.h.cap-1⟩}:eL)=x3 at hx3 K3
   generalize ts2.set t x3=ts3 at hx3 K3;refine uq (λw=>∃P ts',HK F U (λb=>(False\/b=U.size)\/b=v.size) w P {L with ts:=ts'} (iw H t k y)/\bY w U.size [.int .i64 0,.int .i64 0]) (λw ⟨P,ts',K,hbw⟩=>?_) λJ3 hJ3=>?_
   ·have X:Wt H t (.put k y)=(iw H t k y,j2 (iw H t k y) t,0,0):=rfl;rw[X]at hR;refine VZ K.h (t:=t) ?_ ?_
    ·rw[hpe];split<;>simpa using ht
    ·exact gJ (n:=U.size) K (.inl (.inr rfl)) hbw λw' K'=>hR w' ts' K'.e (K'.fin h)
   ·refine bK (uR (K3.h.tc hx3 hg3e ha (d:=0) O rfl) ?_);refine PH K3.h hx3 hg3e λv10 e10=>?_;have K10:=K3.fr e10;have hbw10:=e10.bT hbw1 id;refine cP (λhov=>?_) λhno=>hJ3 v10 ⟨_,ts3,by rw[hpe,zB hno];exact K10,hbw10⟩;refine⟨λu=>cell u (Addr.add ⟨tb0,to0+3*t,none⟩ 1)=some (.slice x3.h.a x3.h.len x3.h.cap)/\cell u (Addr.add ⟨tb0,to0+3*t,none⟩ 0)=some (.pointer (some ⟨x3.c.p,0,none⟩)),⟨K10.h.tc hx3 hg3e ha (d:=1) O rfl,K10.h.tc hx3 hg3e ha (d:=0) O rfl⟩,bK ⟨x3.h,λu V=>V.1,bK ⟨some ⟨x3.c.p,0,none⟩,λu V=>V.2,?_⟩⟩⟩;refine Pu hso K10.h hx3 hg3e λv11 s Q e11 hQ hB h11=>?_;have K11:=K10.to e11 h11 λb _ i=>i.1;have hbw11:=K10.cV e11 hbw10 (.inl (.inr rfl));have hg11:(Hw.dS {H with bQ:=H.bQ.set t g3} t g3 (Kc KU H.tb g3.ls)).bQ[t]?=some {g3 with ls:=Kc KU H.tb g3.ls}:=by simp[Hw.dS,ht]
    refine⟨⟨K11.h.tc hx3 hg11 ha (d:=1) O rfl,K11.h.tc hx3 hg11 ha (d:=0) O rfl⟩,?_⟩;have hz0:=K10.e.1;obtain⟨G,D,hG,hD,hd,aa,hr,hput⟩:=K11.h.vR (λb i=>i.2) hx3 hg11 (λb=>Q b\/v11.size<=b) (λb i hP z=>z.elim (λz=>hP.1.2 z) λz=>O) (K10.o.1.sub λb i=>i.elim (λi=>by have:=hQ b i;omega) λi=>by have:=K11.e.1;omega) (λz=>K10.o.2 (z.elim (λi=>by have:=hQ _ i;omega) λi=>by have:=K11.e.1;omega));refine iv.app aa hB (λb hg z=>(hG b hg).1.2 z) ?_ λs' v12 e12 hB12=>?_
    ·have:=CO KU H.tb g3.ls;have:H.tb.length<=40:=K3.h.qG;simp only[hl3.1];omega
    have hcell:∀{d:Nat} {w:Value},d<3->(jA (x3,({g3 with ls:=Kc KU H.tb g3.ls}:Th)))[d]?=some w->cell v12 (Addr.add ⟨tb0,to0+3*t,none⟩ d)=some w:=λhd3 hv=>by
     obtain⟨b',o',ha',hc'⟩:=wF (hr v12 e12) hx3 hg11 hd3 hv;rw[ha]at ha';cases ha';rw[add_lit,vv];exact hc'
    refine⟨⟨hcell (d:=1) O rfl,hcell (d:=0) O rfl⟩,bK (hput v12 s' _ _ e12 (λb i=>i.imp id id) hB12 ha λv13 e13 h13=>?_)⟩;have e13':=(e12.sub hG).trans (e13.sub hD);have K13:=K11.sG e13' h13 λb i z=>by
     rcases z with z|z
     ·exact .inl z.1
     ·rcases z.1 with h1|h1|h1
      ·exact .inl (hG b h1)
      ·have:=hQ b h1;exact .inr (.inr ⟨.inr O,λhB=>by have:=(K10.b b hB).2;omega⟩)
      ·exact .inr (.inl h1)
    have hbw13:=K11.cV e13' hbw11 (.inl (.inr rfl));have K14:=K13;simp only[Hw.dS,nH]at K14;have hpe':=hpe;rw[zC hov]at hpe';rw[hpe']at hJ3;exact hJ3 v13 ⟨_,_,K14,hbw13⟩
  ·refine⟨λu=>u=v6,rfl,bK ⟨some ⟨x.c.p,0,none⟩,λu V=>by cases V;exact K6.h.tc E hg ha (d:=0) O rfl,⟨(k:Int),λu V=>by cases V;rw[add_lit,b6.cell];rfl,⟨y,λu V=>by cases V;rw[add_lit,b6.cell];rfl,?_⟩⟩⟩⟩;refine Nb K6.h E hg hc hl y λv7 ts7 s ee Q W hQ hs7 h7=>?_;have K7:=K6.to W h7 λb _ i=>i.1;have b7:=K6.cV W b6 (.inr rfl);have B:=K6.cV W C (.inl (.inr rfl));have hsl:s.len=(dK c y l).1.length:=by have:=hs7.1;simp[Wj]at this;omega
   by_cases hemp:(dK c y l).1=[]
   ·rw[zC hemp]at hgg;rw[←hgg]at hJ2;exact fT (by rw[hsl,hemp];simp) (hJ2 v7 ⟨_,ts7,K7,B⟩)
   ·rw[zB hemp]at hgg;have hpos:=qe.2 hemp;have hz6:=K6.e.1;refine lF (by rw[hsl];omega) (b7.rI rfl ?_);refine GQ K7.h (t:=t) (by simpa[Hw.dS]using ht) k (bR.fX hs7) (bR.q8 hs7) hemp (λb _ z E=>E.1.2 z) (K6.o.1.sub λb i=>by have:=hQ b i;omega) (λz=>K6.o.2 (by have:=hQ _ z;omega)) (λg' hg'=>?_) λv8 ts8 e8 h8=>?_
    ·have:(H.dS t g (g.ls.set k (dK c y l).2)).bQ[t]?=some {g with ls:=g.ls.set k (dK c y l).2}:=by simp[Hw.dS,ht]
     rw[this]at hg';cases hg';simp only;omega
    ·have K8:=K7.sG e8 h8 λb i z=>by
      rcases z with z|z
      ·exact z.imp id .inl
      ·have:=hQ b z;exact .inr (.inr ⟨.inr O,λhB=>by have:=(K6.b b hB).2;omega⟩)
     have e9:QO (H.dS t g (g.ls.set k (dK c y l).2)) t k (dK c y l).1 = {H with bQ:=H.bQ.set t g2}:=by
      rw[←hgg];unfold QO Hw.dV Hw.dS;simp only;rw[Ve (t:={g with ls:=g.ls.set k (dK c y l).2}) (by simp[ht]),nH]
     rw[e9]at K8;exact hJ2 v8 ⟨_,ts8,K8,K7.cV e8 B (.inl (.inr rfl))⟩
 | back=>
  obtain⟨k,xs,r,hh,hxs,hxl⟩:∃k xs r,(H.jW t).bP=(k,xs)::r/\(∀x∈xs,iG x/\0<=XU H.bX x)/\xs.length<=1000000:=hp;rw[htg]at hh;refine lh aB (jd aB (jd aB (jd aB (rK aB (lh aB (lh aB (jd aB (AB (nw (cs:=[]) λv5 M Z N=>?_)))))))));have K5:=K1.box Z M;have hbv5:=Z.bT i id;obtain⟨G,D,hG,hD,hd,aa,hr,hput⟩:=K5.h.vR (λb i=>(K5.p b i).2.2) E hg (λb=>v5.size<=b) (λb i _ z=>O) K5.h.mJ.1 K5.h.mJ.2;have hbl:=aa.len;have hbc:=aa.cap;rw[hh]at aa;obtain⟨so,ps,Dn,hrow,hso1,hcap,hBr,hDn,hj,S,hxne⟩:=aa.mc;have hz5':=K5.e.1;refine bK (og (K5.h.tc E hg ha (d:=1) O rfl) (IL (dJ.fX hrow) λa ha0 ha1=>nR ha0 (og ha1 ?_)));refine nw (cs:=[.int .i64 0,.slice none 0 0]) λv81 hz81 e81 hb81=>hb81.s1 aA λv82 o82 b82=>b82.s1 aA λv83 o83 b83=>?_;have e83:aG v5 v83:=(e81.only o82 (.inr (zD _))).only o83 (.inr (zD _));have hz83:v5.size<v83.size:=b83.lt;have hcell:∀{u1:Hp},Ext G v5 u1->∀{d:Nat} {w:Value},d<3->(jA (x,g))[d]?=some w->cell u1 (Addr.add ⟨tb0,to0+3*t,none⟩ d)=some w:=λhe _ _ hd3 hv=>by
   obtain⟨b',o',ha',hc'⟩:=wF (hr _ he) E hg hd3 hv;rw[ha]at ha';cases ha';rw[add_lit,vv];exact hc'
  refine bK (og (hcell (aG.to e83) (d:=1) (w:=.slice x.h.a x.h.len x.h.cap) O rfl) ?_);have hpos:1<=x.h.len:=by rw[hbl,hh];simp
  refine iQ (lo:=1) hpos hbc (zD _) ?_;have hrow':=aH.bO (aH.cut (dJ.fX (hrow.from (lo:=1) hpos))) e83;have tJ:(fG ((k,so)::ps)).drop (1*2)=fG ps:=rfl;rw[tJ]at hrow';refine MO hrow' aC λs' v84 hs'l e84 hs'=>?_;have hBt':iv s' r v84 (λb=>Dn b/\¬kP so b/\b<v5.size\/v83.size<=b):=by
   refine⟨ps,λb=>Dn b/\¬kP so b/\b<v5.size,(dJ.loc _ _ _).mono hs'.o λb _ i=>⟨.inr i,λE=>O⟩,(kq.loc _ _).bO ((kq.loc _ _).bO ((kq.loc _ _).mono ((kq.loc _ _).cut hBr) λb _ i=>⟨i.1.1,i.1.2,i.2⟩) e83) e84,λb i=>.inl i,hj,S⟩
  have e584:aG v5 v84:=e83.trans e84;refine bK (hput v84 s' r _ (aG.to e584) (λb i=>i.elim (λi=>.inl (hDn b i.1)) λi=>.inr O) hBt' ha λv85 e85 h85=>?_);have hz84:=e84.1;have hz85:=e85.1;have e585:Ext _ v5 v85:=(aG.to e584).trans (e85.sub hD);have K85:=K5.to e585 h85 λb _ z=>by
   rcases z with z|z
   ·exact .inl z.1
   ·rcases z.1 with h1|h1
    ·exact .inl (hG b (hDn b h1.1))
    ·exact .inr O
  have hbv85:=K5.cV e585 hbv5 (.inl (.inr rfl));have b85:bY v85 v5.size _:=e85.bT (e84.bT b83 id) λE=>by have:=(K5.p _ (hD _ E)).2.2;omega
  have K85b:=K85.vT (B':=λb=>b=v5.size) λb i=>⟨O,O,λE=>by
   subst i;rcases E.1 with h1|h1
   ·have:=(K5.p _ h1.1).2.2;omega
   ·rcases h1.1 with h2|h2<;>omega⟩
  have hso5:=aH.bS (aH.bO (aH.cut hso1) e584) e85 λb _ i E=>hd b (hDn b i.1.1) E;have X:Wt H t .back=(HU {H with bQ:=H.bQ.set t {g with bP:=r}} (H.own t) k xs,j2 (HU {H with bQ:=H.bQ.set t {g with bP:=r}} (H.own t) k xs) t,0,0):=by
   simp only[Wt,htg,hh,Zz hg]
  rw[X]at hR;refine⟨λu=>u=v85,rfl,⟨(k:Int),λu V=>by cases V;rw[add_lit,b85.cell];rfl,⟨so,λu V=>by cases V;rw[add_lit,b85.cell];rfl,?_⟩⟩⟩;refine EB K85b.h t ⟨rfl,Lo K85b.h hol k hso5 (λb _ i E=>?_) hcap hxs hxl λv87 e87 h87=>?_⟩
  ·rcases E.1 with h1|h1
   ·exact h1.2 (hDn b i.1.1)
   ·rcases h1.1 with h2|h2
    ·exact h2.2.1 i.1.2
    ·have:=i.2;omega
  have K87:=K85b.to e87 h87 λb _ i=>i;have hbl7:(HU {H with bQ:=H.bQ.set t {g with bP:=r}} (H.own t) k xs).bQ.length=H.bQ.length:=by
   rw[AU];simp
  refine VZ K87.h (t:=t) (by rw[hbl7];exact ht) ?_;exact gJ (n:=U.size) K87 (.inl (.inl (.inr rfl))) (K85b.cV e87 hbv85 (.inl (.inl (.inr rfl)))) λw' K'=>hR w' _ K'.e (K'.fin h)
 | dC s a=>
  obtain⟨ha0,hal,hru⟩:0<=a/\a.toNat<H.bX.length/\∀A∈H.bX,∀r∈A.runs,r.1<=1000000:=hp;obtain⟨A2,hA2⟩:∃A,H.bX[a.toNat]?=some A:=⟨_,cU hal⟩;have hae:a=((a.toNat:Nat):Int):=by omega
  refine lh aB (jd aB (jd aB (jd aB (rK aB (lh aB (lh aB (jd aB (rK aB (xj (nw (cs:=[.int .i64 0,.int .i64 0]) λv5 M Z N=>?_))))))))));have K5:=K1.box Z M;refine N.s1 aA λv5b o5 b5=>b5.s1 aA λv6 o6 b6=>?_;have K6:=(K5.own o5 (.inr rfl)).own o6 (.inr rfl);have S:U.size≠v.size:=by omega
  have C:=Ws o6 (Ws o5 (Z.bT i id) S) S;obtain⟨Y2,hY2,_,_⟩:=K6.h.ar hA2;refine bK (K6.h.hd.rS rfl (b6.rI (x:=((a.toNat:Nat):Int)) (by rw[←hae];rfl) (K6.h.rA hY2 (b6.rI rfl ?_))));refine Jl K6.h hA2 hY2 s (hru A2 (zG hA2)) λv7 W h7=>?_;have K7:=K6.to W h7 λb _ i=>i;have B:=K6.cV W C (.inl (.inr rfl));have X:Wt H t (.dC s a)=(H.cD a.toNat (QD A2 s),none,0,0):=by
   simp only[Wt,hA2]
  refine hJ v7 ⟨_,L.ts,⟨?_,K7.e,λb i=>⟨(K7.p b i).1,λE=>(K7.p b i).2.1 (.inl E),(K7.p b i).2.2⟩,λb i=>K7.b b (.inl i),K7.o⟩,B,by rw[X]⟩;rw[X];exact K7.h
 | drain=>
  refine lh aB (jd aB (jd aB (jd aB (rK aB (lh aB (lh aB (jd aB (rK aB (jd aB (AB (nw (cs:=[]) λv5 M Z N=>?_)))))))))));have K5:=K1.box Z M;have hbv5:=Z.bT i id;refine bK (uR (K5.h.tc E hg ha (d:=0) O rfl) ?_);refine N5 hso K5.h E hg λv7 s Q W hQ hB h7=>?_;have K7:=K5.to W h7 λb _ i=>i.1;have B:=K5.cV W hbv5 (.inl (.inr rfl));have hz0:=K5.e.1;have hg7:(H.dS t g (Kc ZP H.tb g.ls)).bQ[t]?=some {g with ls:=Kc ZP H.tb g.ls}:=by simp[Hw.dS,ht]
  obtain⟨G,D,hG,hD,hd,aa,hr,hput⟩:=K7.h.vR (λb i=>i.2) E hg7 Q (λb _ i z=>i.1.2 z) (K5.o.1.sub λb i=>by have:=hQ b i;omega) (λz=>K5.o.2 (by have:=hQ _ z;omega));refine bK (hput v7 s _ Q (Ext.refl _ _) (λb i=>.inr i) hB ha λv8 e8 h8=>?_);have e8':=e8.sub hD;have K8:=K7.sG e8' h8 λb _ z=>by
   rcases z with z|z
   ·exact .inl z.1
   ·have:=hQ b z.1;exact .inr (.inr ⟨.inr O,λhB=>by have:=(K5.b b hB).2;omega⟩)
  have hbv8:=K7.cV e8' B (.inl (.inr rfl));have X:Wt H t .drain=({H with bQ:=H.bQ.set t {g with ls:=Kc ZP H.tb g.ls,bP:=Kg ZP H.tb g.ls}},j2 {H with bQ:=H.bQ.set t {g with ls:=Kc ZP H.tb g.ls,bP:=Kg ZP H.tb g.ls}} t,0,0):=by
   simp only[Wt,Zz hg]
  have K9:=K8;simp only[Hw.dS,nH]at K9;rw[X]at hR;refine VZ K9.h (t:=t) (by simpa using ht) ?_;exact gJ (n:=U.size) K9 (.inl (.inr rfl)) hbv8 λw' K'=>hR w' _ K'.e (K'.fin h)
def eO (H:Hw)(t:Nat)(p:Option Ph):Hw:=H.dV t λh=>{h with ph:=p}
theorem Vz (H:Hw)(t:Nat)(f:Th->Th):(H.dV t f).bQ.length=H.bQ.length:=by simp[Hw.dV]
theorem R4 (H:Hw)(t k:Nat)(x:Int):(iw H t k x).bQ.length=H.bQ.length:=by
 unfold iw;simp only;split<;>split<;>simp[Vz,QO]
theorem C9 (H:Hw)(t:Nat)(p:Ph):(Wt H t p).1.bQ.length=H.bQ.length:=by
 cases p with
 | take k=>simp only[Wt];split<;>simp[VE,Vz]
 | cI k w=>
  simp only[Wt];split
  ·split<;>simp[QO,Vz,Hw.cD]
  ·rfl
 | cJ k w=>simp only[Wt];split<;>simp[QO,Vz,Hw.cD]
 | grow k w=>simp only[Wt];split<;>simp[Hw.cD]
 | fill=>simp only[Wt];split<;>simp[VE,Vz]
 | eJ m=>simp only[Wt];split<;>simp[VE,Hw.cD]
 | find x=>
  simp only[Wt,U6];split
  ·rfl
  ·split<;>simp[QO,Vz]
 | put k x=>exact R4 H t k x
 | back=>simp only[Wt];split<;>simp[AU,Vz]
 | dC s a=>simp only[Wt];split<;>simp[Hw.cD]
 | drain=>simp[Wt,Vz]
def uL (H:Hw)(t:Nat)(p:Ph):Prop:=uS H t p/\∀g,H.bQ[t]?=some g->g.bP.length<=900
def QE (H:Hw)(t:Nat)(p:Ph):Hw:=eO (Wt H t p).1 t (Wt H t p).2.1
theorem Ls (hso:GC)(h:HH U F L H)(hg:H.bQ[t]?=some g){p:Ph}(hp:g.ph=some p)(hok:uL H t p){R:Bool->Int->Int->Int->Hp->Prop}
 (hR:∀σ' ts',Ext F U σ'->HH σ' (Grow F U) {L with ts:=ts'} (QE H t p)->R (Wt H t p).2.1.isNone (Wt H t p).2.2.1 (Wt H t p).2.2.2 0 σ'):Y6.c (aW L.p) (t:Int) U R:=by
 refine Y6.o ?_;unfold Y6.v;have G:=(cX.1 hg).1;refine nw (cs:=[.int .i64 0,.int .i64 0]) λv V e s=>?_;have K1:=(HK.start h).box e V;obtain⟨x,g',Q,z⟩:=h.th G;rw[hg]at z;cases z;refine VW K1.h (cB rfl (Cz K1.h (t:Int) (cB (by rw[zJ O];rfl) ?_)));refine bK (K1.h.hd.rS rfl (K1.h.tR Q hg ?_));rw[hp];refine⟨uu _,cB (by rw[wa];rfl) (bK (K1.h.hd.rS rfl (K1.h.tR Q hg ?_)))⟩;rw[hp];refine L8 hso K1.h G p hok.1 hok.2 λv9 C P h9=>?_;have K9:=K1.to P h9 λb _ s=>s;have w:=K1.cV P s (.inr rfl);refine nw (cs:=[.int .i64 0,.int .i64 0]) λW r j m=>?_;have K10:=K9.box j r;refine m.s1 aA λS u J=>J.s1 aA λZ B N=>?_;have K12:=(K10.own u (.inr rfl)).own B (.inr rfl);have y:U.size≠v9.size:=by have:=(K9.b U.size (.inr rfl)).2;omega
 have d:=Ws B (Ws u (j.bT w id) y) y;have E:t<(Wt H t p).1.bQ.length:=by rw[C9];exact G
 obtain⟨x9,X,D,A⟩:=K12.h.th E;have M:QE H t p = {(Wt H t p).1 with bQ:=(Wt H t p).1.bQ.set t {X with ph:=(Wt H t p).2.1}}:=Zz A _;refine bK (K12.h.hd.rS rfl (K12.h.rX D A (Wt H t p).2.1 λv13 i K=>?_));have K13:=K12.to i K λb _ s=>.inl s;have a:=K12.cV i N (.inr rfl);rw[←M]at K13;refine⟨uu _,a.rI rfl (a.rI rfl ?_)⟩;refine gJ (n:=U.size) K13 (.inl (.inr rfl)) (K12.cV i d (.inl (.inr rfl))) λY K'=>?_;rw[wa];exact hR Y C K'.e (K'.fin h)
theorem Cv {p:Nat->Prop}(h:∃n,p n):∃n,p n/\∀m,p m->n<=m:=by
 obtain⟨n,d⟩:=h
 induction n using Nat.strongRecOn with
 | _ n ih=>
  by_cases hm:∃m,m<n/\p m
  ·obtain⟨m,b,a⟩:=hm;exact ih m b a
  ·exact⟨n,d,λm a=>Nat.le_of_not_lt λb=>hm ⟨m,b,a⟩⟩
theorem TE {start:eR []->Prop}{round:eR []->eR []}(Inv:Nat->Hp->Prop)(h0:start λh=>∃n,Inv n h)(hr:∀n h,Inv n h->∀J:Hp->Prop,(∀m h',m<n->Inv m h'->J h')->round J h):XW [] start round:=by
 classical
 refine Eg (λh=>∃n,Inv n h) (λh=>if hx:∃n,Inv n h then(Cv hx).choose else 0) h0 λh d=>?_
 have e:=(Cv d).choose_spec;refine hr _ h e.1 _ λm h' g b=>⟨⟨m,b⟩,?_⟩;have a:∃n,Inv n h':=⟨m,b⟩;rw[dif_pos a,dif_pos d];exact Ah ((Cv a).choose_spec.2 m b) g
inductive iE:Nat->Hw->Nat->Ph->Hw->Int->Int->Prop
 | done {H:Hw} {t:Nat} {p:Ph}:uL H t p->(Wt H t p).2.1=none->iE 1 H t p (QE H t p) (Wt H t p).2.2.1 (Wt H t p).2.2.2
 | next {n:Nat} {H:Hw} {t:Nat} {p p':Ph} {H':Hw} {a e:Int}:uL H t p->(Wt H t p).2.1=some p'->iE n (QE H t p) t p' H' a e->iE (n+1) H t p H' a e
theorem E5 {p:Ph}(ht:t<H.bQ.length):∃g,(QE H t p).bQ[t]?=some g/\g.ph=(Wt H t p).2.1:=by
 have a:t<(Wt H t p).1.bQ.length:=by rw[C9];exact ht
 exact⟨{(Wt H t p).1.bQ[t]with ph:=(Wt H t p).2.1},by simp[QE,eO,Hw.dV,uf,cU a],rfl⟩
end Go.Ar
namespace Go.Ar
open Go Go.Vc Go.Proofs
open Go.Bu (eV)
variable {U:Hp}{F:Rg}
def UR (size align:Int):Bool:=decide (1<=size)&&(decide (1<=align)&&(decide (align<=256)&&eV align))
def gP (tb:List bZ)(size align:Int):Option Nat:=tb.findIdx? λc=>decide (size<=(c.size:Int))&&((c.size:Int)%align==0)
theorem Sk (n:Int)(h1:1<=n)(h2:n<=256){R:aN}(hR:∀p:Int,(p != n) = !eV n->R p U):Qg.c n U R:=by
 refine Qg.o ?_;unfold Qg.v;refine VO (a:=bN) (bb:=bN) (λ(p q:Int) w=>w=U/\(p=0/\q=1\/∃k:Nat,k<=8/\p=((2^k:Nat):Int)/\q=((2^(k+1):Nat):Int)/\p<=n)) (λp q _=>1000-q.toNat) ⟨rfl,.inl ⟨rfl,rfl⟩⟩ ?_;rintro(p:Int) (q:Int) w ⟨rfl,hpq⟩;refine cP (λb=>?_) λg=>?_
 ·rcases hpq with⟨rfl,rfl⟩|⟨k,hk,rfl,rfl,hp⟩
  ·exact cS (m:=2) O O ⟨⟨rfl,.inr ⟨0,O,by simp,by simp,O⟩⟩,by simp⟩
  ·have s:k<=7:=by
    apply Classical.byContradiction;intro hc;have:2^9<=2^(k+1):=oF aB O;omega
   have r:=kJ (k+1);exact cS (m:=2^(k+1+1)) (by rw[mj 2 (k+1)];omega) (by rw[mj 2 (k+1)];omega) ⟨⟨rfl,.inr ⟨k+1,O,rfl,rfl,b⟩⟩,by rw[mj 2 (k+1)];omega⟩
 ·rcases hpq with⟨rfl,rfl⟩|⟨k,hk,rfl,rfl,hp⟩
  ·omega
  ·refine hR _ ?_;by_cases e:((2^k:Nat):Int)=n
   ·have:eV n=true:=by
     unfold eV;rw[kf];exact⟨k,zd.2 O,by simp[←e]⟩
    rw[this,e];simp
   ·have:eV n=false:=by
     unfold eV;rw[mg];intro j hj he;have d:n=((2^j:Nat):Int):=by simpa using he
     rcases pR j k with h3|h3|h3
     ·have:2^(j+1)<=2^k:=oF aB h3;rw[mj]at this;have:=kJ j;omega
     ·subst h3;exact e d.symm
     ·have:2^(k+1)<=2^j:=oF aB h3;omega
    rw[this];simpa using e
theorem LN {s:Sl}{xs:List (Int×Int×Int)}(ha:ig U s xs)(hv:Qp xs=true)(size align:Int){R:Int->Int->Hp->Prop}
 (hR:∀σ',aG U σ'->R (if UR size align then((gP (xs.map Z9) size align).getD 0:Nat)else 0) (if UR size align then(if(gP (xs.map Z9) size align).isSome then 0 else 4)else 1) σ'):Qd.c s size align U R:=by
 refine Qd.o ?_;unfold Qd.v;refine nw (cs:=[.int .i64 size]) λv hz e hb=>nw (cs:=[.int .i64 align]) λv1 N e1 Z=>?_;have Q:=e1.bT hb id;refine GW (Z0 ha (e.trans e1)) λu e2=>?_;rw[hv];have G:=e2.bT Q id;have y:=e2.bT Z id;have x:=(e.trans e1).trans e2;refine cB rfl ?_;have key:∀r,r = !UR size align->(If r (R 0 1 u) (Wm.c s ⟨203,#[],#[.pointer (some ⟨U.size,0,none⟩),.pointer (some ⟨v.size,0,none⟩)]⟩ u λk v4=>If (decide (k<0)) (R 0 4 v4) (R k 0 v4))):=by
  intro r b;cases hok:UR size align with
  | false=>
   rw[hok]at b;have:=hR u x;rw[hok]at this;exact cC (by rw[b];rfl) this
  | true=>
   rw[hok]at b;refine cB (by rw[b];rfl) ?_;have K:=hok;simp only[UR,zF,zU]at K;refine Wm.o ?_;unfold Wm.v;have hlen:=ha.1;have hxl:=((Qk xs).1 hv).2.1;refine Qc (a:=bN) (λ(z:Int) w=>∃i:Nat,z=(i:Int)/\i<=xs.length/\aG u w/\∀j c,j<i->(xs.map Z9)[j]?=some c->(decide (size<=(c.size:Int))&&((c.size:Int)%align==0))=false) (λz _=>xs.length-z.toNat) ⟨0,rfl,O,Ext.refl _ _,λj c h=>O⟩ ?_;rintro(z:Int) w ⟨i,rfl,hi,ew,hno⟩;refine cP (λhlt=>?_) λab=>?_
   ·have ac:i<xs.length:=by omega
    have B:(xs.map Z9)[i]?=some (Z9 xs[i]):=by simp[ac]
    generalize Z9 xs[i]=c at B;have F:=Z0 ha (x.trans ew);obtain⟨hx,hcok⟩:=Hx F hv B;refine xz F hx ?_;refine pK (all := #[.agg #[.int .i64 (c.size:Int),.int .i64 (c.aF:Int),.int .i64 (c.batch:Int)],.pointer (some ⟨U.size,0,none⟩),.pointer (some ⟨v.size,0,none⟩)]) (by kernel_rfl) aA ?_;refine ZZ.o ?_;unfold ZZ.v;refine nw (cs:=[.int .i64 (c.size:Int),.int .i64 (c.aF:Int),.int .i64 (c.batch:Int)]) λE N e1 H=>?_;have P:=e1.bT (ew.bT G id) id;have X:=e1.bT (ew.bT y id) id;have C:=ew.trans e1;have go:∀r,r=(decide (size<=(c.size:Int))&&((c.size:Int)%align==0))->If r (If (decide ((i:Int)<0)) (R 0 4 E) (R (i:Int) 0 E)) (Ar .i64 ((i:Int)+1) λL=>(∃i:Nat,L=(i:Int)/\i<=xs.length/\aG u E/\∀j c,j<i->(xs.map Z9)[j]?=some c->(decide (size<=(c.size:Int))&&((c.size:Int)%align==0))=false)/\xs.length-L.toNat<xs.length-(i:Int).toNat):=by
     intro r b;refine cO (λW=>fT O ?_) λh0=>?_
     ·have V:gP (xs.map Z9) size align=some i:=by
       obtain⟨S,rfl⟩:=cX.1 B;exact nm.2 ⟨S,by rw[←b];exact W,λj D=>by rw[hno j _ D (cU O)];simp⟩
      have:=hR E (x.trans C);rw[hok,V]at this;exact this
     ·exact cS (m:=i+1) O O ⟨⟨i+1,rfl,O,C,λj d D hd=>by
       by_cases e:j=i
       ·subst e;rw[B]at hd;cases hd;rw[←b];exact h0
       ·exact hno j d O hd⟩,O⟩
    refine H.rI rfl (P.uF rfl ?_);refine KY (λr w=>w=E/\r=(decide (size<=(c.size:Int))&&((c.size:Int)%align==0))) (λr w ⟨M,b⟩=>by subst M;exact go r b) λJ A=>?_;refine cP (λab=>H.rI rfl (X.uF rfl (nz O (A _ _ ⟨rfl,?_⟩)))) λhlt2=>A _ _ ⟨rfl,?_⟩
    ·rw[Qq O,zJ (by omega:size<=(c.size:Int)),qA]
    ·rw[zN O,uz]
   ·have V:gP (xs.map Z9) size align=none:=by
     unfold gP;rw[uh];intro c B;obtain⟨j,D⟩:=zQ B;have:=(cX.1 D).1;simp at this;exact hno j c O D
    have:=hR w (x.trans ew);rw[hok,V]at this;exact lF aB this
 refine yX (λr w=>w=u/\r = !UR size align) (λr w ⟨M,b⟩=>by subst M;exact key r b) λJ A=>?_;have aa:∀m,m=u->cell m ⟨U.size,0,none⟩=some (.int .i64 size):=λm Y=>by rw[Y,G.cell];rfl
 have g:∀m,m=u->cell m ⟨v.size,0,none⟩=some (.int .i64 align):=λm Y=>by rw[Y,y.cell];rfl
 refine⟨λm=>m=u,rfl,⟨size,aa,?_⟩⟩;refine cP (λW=>A _ _ ⟨rfl,?_⟩) λW=>⟨align,g,cP (λh2=>A _ _ ⟨rfl,?_⟩) λh2=>⟨align,g,cP (λh3=>A _ _ ⟨rfl,?_⟩) λh3=>⟨align,g,⟨align,g,?_⟩⟩⟩⟩
 ·simp only[UR,zN (by omega:¬1<=size),uz,wD]
 ·simp only[UR,zN (by omega:¬1<=align),uz,tH,wD]
 ·simp only[UR,zN (by omega:¬align<=256),uz,tH,wD]
 ·refine Sk align O O λp hp=>⟨rfl,A _ _ ⟨rfl,?_⟩⟩;rw[hp];simp only[UR,zJ (by omega:1<=size),zJ (by omega:1<=align),zJ (by omega:align<=256),qA]
end Go.Ar
namespace Go.Ar
open Go Go.Vc Go.Proofs
variable {U u u':Hp}{F B P Q:Rg}{L:dI}{H H':Hw}{t k n pb:Nat}{A:AR}{Y:Lay}{x:eL}{g:Th}{c:bZ}{l:Li}{cs:List Value}
def mi (c:bZ):Int×Int×Int:=((c.size:Int),(c.aF:Int),(c.batch:Int))
theorem MU (tb:List bZ):(tb.map mi).map Z9=tb:=by
 rw[lx]
 conv=>rhs;rw[←uM tb]
 apply kh;intro c _;rfl
theorem Ns {s:Sl}{tb:List bZ}(h:cT s 3 (gA tb) U F):ig U s (tb.map mi):=by
 have p:=h.1;rw[Ua]at p;refine⟨by simp;omega,λi x y z g=>?_⟩;rw[zg,oT]at g;obtain⟨c,u,j⟩:=g;obtain⟨B,C,r⟩:=GR u;simp only[mi,Prod.mk.injEq]at j;obtain⟨rfl,rfl,rfl⟩:=j;obtain⟨b,o,d,e⟩:=h.cell B;obtain⟨m,w,a,D⟩:=h.cell C;rw[d]at a;cases a;obtain⟨m,w,a,A⟩:=h.cell r;rw[d]at a;cases a;exact⟨b,o,d,Kr e,by rw[show o+i*3=o+3*i by omega];exact e,by rw[show o+i*3+1=o+(3*i+1) by omega];exact D,by rw[show o+i*3+2=o+(3*i+2) by omega];exact A⟩
def mr (tb:List bZ):Prop:=Qp (tb.map mi)=true
def iM (tb:List bZ)(kind size align addr:Int):Option Ph:=
 if kind=0 then(if 1<=size/\size<=16384 then(if UR size align then(match gP tb size align with
  | some k=>some (.take k)
  | none=>some (.eJ ((size+255).toNat/256)))else none)else none)
 else if kind=1 then some (.find addr)else if kind=2 then some .drain else none
theorem MN (h:HH U F L H)(hv:mr H.tb)(kind size align addr:Int){R:Value->Hp->Prop}(hR:∀σ',aG U σ'->R (mZ (iM H.tb kind size align addr)) σ'):Yl.c (aW L.p) kind size align addr U R:=by
 refine Yl.o ?_;unfold Yl.v;refine nw (cs:=[.int .i64 kind,.int .i64 size,.int .i64 align,.int .i64 addr]) λv M e u=>u.rI rfl ?_;have B:=h.bO e;have a:=hR v e;refine cO (λA=>?_) λA=>?_
 ·have g:kind=0:=by simpa using A
  have D:iM H.tb kind size align addr=(if 1<=size/\size<=16384 then(if UR size align then(match gP H.tb size align with
   | some k=>some (.take k)
   | none=>some (.eJ ((size+255).toNat/256)))else none)else none):=by unfold iM;rw[zC g]
  rw[D]at hR a;refine u.rI rfl (KY (λr w=>w=v/\r = !decide (1<=size/\size<=16384)) (λr w ⟨E,y⟩=>?_) λJ C=>?_)
  ·subst E;by_cases hs:1<=size/\size<=16384
   ·rw[zC hs]at hR;rw[zJ hs]at y;refine cB (by rw[y];rfl) ⟨λm=>m=w,rfl,bK ⟨L.dE,λm x=>by rw[x,add_lit,B.hd.cell];rfl,⟨size,λm x=>by rw[x,add_lit,u.cell];rfl,⟨align,λm x=>by rw[x,add_lit,u.cell];rfl,?_⟩⟩⟩⟩;refine LN (Ns B.jG) hv size align λG e2=>?_;rw[MU];have z:=e2.bT u id;have b:=hR G (e.trans e2);cases hok:UR size align with
    | false=>
     rw[hok]at b;exact cB rfl (cB rfl b)
    | true=>
     rw[hok]at b;simp only[zS]at b ⊢;cases hcl:gP H.tb size align with
     | some k=>rw[hcl]at b;exact cC rfl b
     | none=>
      rw[hcl]at b;refine cB rfl (cC rfl (z.rI rfl (ar O O (ar O O (nz aB (ar (by rw[XX O];omega) (by rw[XX O];omega) ?_))))));rw[XX O];have:(size+256-1)/256=(((size+255).toNat/256:Nat):Int):=by omega
      rw[this];exact b
   ·rw[zB hs]at a;rw[zN hs]at y;exact cC (by rw[y];rfl) a
  ·refine cP (λK=>C _ _ ⟨rfl,?_⟩) λK=>u.rI rfl (C _ _ ⟨rfl,?_⟩)
   ·rw[zN O];rfl
   ·by_cases h2:size>16384
    ·rw[zJ h2,zN O];rfl
    ·rw[zN h2,zJ O];rfl
 ·have g:kind≠0:=by simpa using A
  refine cO (λs=>u.rI rfl ?_) λs=>?_
  ·have d:kind=1:=by simpa using s
   unfold iM at a;rw[zB g,zC d]at a;exact a
  ·have d:kind≠1:=by simpa using s
   refine cO (λj=>?_) λj=>?_
   ·have i:kind=2:=by simpa using j
    unfold iM at a;rw[zB g,zB d,zC i]at a;exact a
   ·have i:kind≠2:=by simpa using j
    unfold iM at a;rw[zB g,zB d,zB i]at a;exact a
def Kv (H:Hw)(thread kind size align addr:Int):Int ⊕ (Nat×Ph):=
 if 0<=thread/\thread<(H.bQ.length:Int)then(match H.bQ[thread.toNat]? with
  | some g=>(if g.ph=none then(match iM H.tb kind size align addr with
   | some p=>.inr (thread.toNat,p)
   | none=>.inl 1)else .inl 5)
  | none=>.inl 1)else .inl 1
theorem OC (h:HH U F L H)(hv:mr H.tb)(thread kind size align addr:Int){R:aN}(h0:∀e,Kv H thread kind size align addr=.inl e->e≠0->∀σ',Ext F U σ'->HH σ' (Grow F U) L H->R e σ')
 (h1:∀t p,Kv H thread kind size align addr=.inr (t,p)->thread=(t:Int)->t<H.bQ.length->∀σ',Ext F U σ'->HH σ' (Grow F U) L (eO H t (some p))->R 0 σ'):Y3.c (aW L.p) thread kind size align addr U R:=by
 refine Y3.o ?_;unfold Y3.v;refine nw (cs:=[.int .i64 kind,.int .i64 size,.int .i64 align,.int .i64 addr]) λv s e d=>?_;have K1:=(HK.start h).box e s;refine VW K1.h (cB rfl (Cz K1.h thread ?_));by_cases hth:0<=thread/\thread<(H.bQ.length:Int)
 ·obtain⟨t,rfl⟩:∃t:Nat,thread=(t:Int):=⟨thread.toNat,O⟩;have m:t<H.bQ.length:=by omega
  obtain⟨x,g,j,i⟩:=h.th m;have a:Kv H (t:Int) kind size align addr=(if g.ph=none then(match iM H.tb kind size align addr with
   | some p=>.inr (t,p)
   | none=>.inl 1)else .inl 5):=by
   unfold Kv;rw[zC hth,dD,i]
  refine cB (by rw[zJ hth];rfl) (bK (K1.h.hd.rS rfl (K1.h.tR j i ⟨uu _,?_⟩)));cases hp:g.ph with
  | some p=>
   rw[hp,zB aA]at a;exact cC (by rw[wa];rfl) (h0 5 a aB v K1.e (K1.fin h))
  | none=>
   rw[hp,zC rfl]at a;refine cB rfl (d.rI rfl (d.rI rfl (d.rI rfl (d.rI rfl (MN K1.h hv kind size align addr λv3 w=>⟨uu _,?_⟩)))));have K3:=K1.fr w;rw[wa];cases hq:iM H.tb kind size align addr with
   | none=>
    rw[hq]at a;exact cC rfl (h0 1 a aB v3 K3.e (K3.fin h))
   | some p=>
    rw[hq]at a;refine cB rfl (bK (K3.h.hd.rS rfl (K3.h.rX j i (some p) λy r u=>?_)));have K4:=K3.to r u λb _ d=>.inl d;have z:eO H t (some p) = {H with bQ:=H.bQ.set t {g with ph:=some p}}:=Zz i _;rw[←z]at K4;exact h1 t p a rfl m y K4.e (K4.fin h)
 ·have a:Kv H thread kind size align addr=.inl 1:=by unfold Kv;rw[zB hth]
  exact cC (by rw[zN hth];rfl) (h0 1 a aB v K1.e (K1.fin h))
theorem OQ {p:Option Ph}(ht:t<H.bQ.length):∃g,(eO H t p).bQ[t]?=some g/\g.ph=p:=
 ⟨{H.bQ[t]with ph:=p},by simp[eO,Hw.dV,uf,cU ht],rfl⟩
theorem Du (hso:GC)(h:HH U F L H)(hv:mr H.tb)(thread kind size align addr:Int){R:Int->Int->Hp->Prop}(h0:∀e,Kv H thread kind size align addr=.inl e->e≠0->∀σ',Ext F U σ'->HH σ' (Grow F U) L H->R 0 e σ')
 (h1:∀t p,Kv H thread kind size align addr=.inr (t,p)->∃n H' a e,iE n (eO H t (some p)) t p H' a e/\∀σ' ts',Ext F U σ'->HH σ' (Grow F U) {L with ts:=ts'} H'->R a e σ'):Yh.c (aW L.p) thread kind size align addr U R:=by
 refine Yh.o ?_;unfold Yh.v;refine nw (cs:=[.int .i64 kind,.int .i64 size,.int .i64 align,.int .i64 addr]) λv hz e i=>i.rI rfl (i.rI rfl (i.rI rfl (i.rI rfl ?_)));have K1:=(HK.start h).box e hz;refine OC K1.h hv thread kind size align addr (λz he G v1 e1 u=>?_) λt p V N ht v1 e1 u=>?_
 ·have K2:=K1.to e1 u λb _ i=>i;exact cC (by simpa using G) (h0 z he G v1 K2.e (K2.fin h))
 ·subst N;have K2:=K1.to e1 u λb _ i=>i;obtain⟨n,Hf,a,z,d,y⟩:=h1 t p V;refine cB rfl (TE (λn w=>∃(B P:Rg) (ts:List eL) (H:Hw) (p:Ph),HK F U B w P {L with ts:=ts} H/\(∃g,H.bQ[t]?=some g/\g.ph=some p)/\iE n H t p Hf a z) ⟨n,_,_,L.ts,_,p,K2,OQ ht,d⟩ ?_);rintro n w ⟨B,P,ts,H2,j,K,⟨g,hg,ae⟩,d⟩ J hJ;have go:uL H2 t j->((Wt H2 t j).2.1.isNone=true->(Wt H2 t j).2.2.1=a/\(Wt H2 t j).2.2.2=z/\QE H2 t j=Hf)->((Wt H2 t j).2.1.isNone=false->∃m M,m<n/\(Wt H2 t j).2.1=some M/\iE m (QE H2 t j) t M Hf a z)->Y6.c (aW L.p) (t:Int) w λaa D C t223 v3=>Nw (.cells #[.int .i64 0,.int .i64 0] 125 (0,0)) v3 λr v4=>dU (r.add 0) (.int .i64 D) v4 λv5=>dU (r.add 1) (.int .i64 C) v5 λs=>If aa (gE .i64 (r.add 0) s λZ=>gE .i64 (r.add 1) s λX=>R Z X s) (J s):=by
   intro hok hd hn;refine Ls hso K.h hg ae hok λv3 E e3 ac=>?_;have K3:=K.to e3 ac λb _ i=>i;refine nw (cs:=[.int .i64 0,.int .i64 0]) λv4 W e4 Q=>?_;have K4:=K3.box e4 W;refine Q.s1 aA λv5 o5 b5=>b5.s1 aA λs o6 b6=>?_;have K6:=(K4.own o5 (.inr rfl)).own o6 (.inr rfl);refine cO (λab=>?_) λad=>?_
   ·obtain⟨q1,q2,q3⟩:=hd ab;rw[q3]at K6;refine b6.rI rfl (b6.rI rfl ?_);rw[q1,q2];exact y s E K6.e (K6.fin h)
   ·obtain⟨m,M,hm,Y,S⟩:=hn ad;have ag:t<H2.bQ.length:=(cX.1 hg).1;obtain⟨g',af,A⟩:=E5 (p:=j) ag;exact hJ m s hm ⟨_,_,E,_,M,K6,⟨g',af,by rw[A,Y]⟩,S⟩
  cases d with
  | done hok hnone=>exact go hok (λ_=>⟨rfl,rfl,rfl⟩) λx=>by rw[hnone]at x;cases x
  | next hok hsome hrun'=>exact go hok (λx=>by rw[hsome]at x;cases x) λ_=>⟨_,_,Nat.lt_succ_self _,hsome,hrun'⟩
end Go.Ar
namespace Go.Ar
open Go Go.Vc Go.Proofs
variable {U u w w':Hp}{F B P Q:Rg}{n:Nat}{cs:List Value}{tb:List bZ}{cf:Cf}
def V0 (tb:List bZ)(cf:Cf):Hw:=⟨tb,cf,Vr cf.aF,List.replicate cf.ib (fB cf.aF cf.room tb),List.replicate cf.threads ⟨List.replicate tb.length il,[],none⟩,[]⟩
def sd (p a t b r:Int):Bool:=decide (32<=p)&&decide (p<=1024)&&(p%16==0)&&decide (1<=a)&&decide (a<=4)&&decide (1<=t)&&decide (t<=4)&&decide (0<=b)&&decide (b<=65536)&&decide (0<=r)&&decide (r<=8)
theorem lvl {K:aO}{r:Bool}{a:Addr}{x:Int}{k:IntKind}{f:Int->Bool}(hl:∀{K':Int->Prop},K' x->gE k a w K')(h:K (r&&f x) w):bW K λJ=>If r (gE k a w λt=>J (f t) w) (J false w):=
 bW.intro (cO (λb=>hl (by rw[b]at h;exact h)) λb=>by rw[b]at h;exact h)
theorem NY (p a t b r:Int){R:aO}(hR:∀σ',aG U σ'->R (sd p a t b r) σ'):Qz.c p a t b r U R:=by
 refine Qz.o ?_;unfold Qz.v;refine nw (cs:=[.int .i64 p,.int .i64 a,.int .i64 t,.int .i64 b,.int .i64 r]) λv A e g=>g.rI rfl ?_;have i:=hR v e;unfold sd at i;refine KY (λj w=>w=v/\j=(decide (32<=p)&&decide (p<=1024))) (λj w ⟨u,x⟩=>?_) λJ m=>?_
 ·subst u;subst x;refine KY (λj y=>y=w/\j=(decide (32<=p)&&decide (p<=1024)&&(p%16==0))) (λj y ⟨u,x⟩=>?_) λJ m=>?_
  ·rw[u];subst x;exact lvl (λd=>g.rI rfl d) (lvl (λd=>g.rI rfl d) (lvl (λd=>g.rI rfl d) (lvl (λd=>g.rI rfl d) (lvl (λd=>g.rI rfl d) (lvl (λd=>g.rI rfl d) (lvl (λd=>g.rI rfl d) (lvl (λd=>g.rI rfl d) i)))))))
  ·refine cO (λs=>g.rI rfl (nz aB (m _ _ ⟨rfl,?_⟩))) λz=>m _ _ ⟨rfl,?_⟩
   ·simp only[zF,zU]at s;rw[Qq O,zJ s.1,zJ s.2];rfl
   ·rw[z];rfl
 ·refine cP (λs=>g.rI rfl (m _ _ ⟨rfl,?_⟩)) λz=>m _ _ ⟨rfl,?_⟩
  ·rw[zJ (by omega:32<=p)];rfl
  ·rw[zN O];rfl
structure oI where
 p:Nat
 dE:Sl
 lm:Nat
 hs:Option Nat
 hp:Option Nat
 aw:Sl
 al:List Nat
 ha:Sl
 tw:Sl
 tl:List Value
 ht:Sl
 ys:List Lay
 cs:List gN
def qJ (cf:Cf)(N:oI):List Value:=[.slice N.dE.a N.dE.len N.dE.cap,.int .i64 (cf.aF:Int),.int .i64 (cf.ib:Int),.int .i64 (cf.threads:Int),.int .i64 (cf.dB:Int),.int .i64 (cf.room:Int),
 .pointer (N.hp.map λq=>⟨q,0,none⟩),.slice N.ha.a N.ha.len N.ha.cap,.slice N.ht.a N.ht.len N.ht.cap,.map (some N.lm)]
def rW (n room:Nat)(tb:List bZ)(y:Option Lay):Hp->Rg->Prop:=λU F=>match y with
 | some Y=>dG U F Y (fB n room tb) (cK (fB n room tb) Y)
 | none=>True
def ri (tb:List bZ)(bud:Nat)(y:Option gN):Hp->Rg->Prop:=λU F=>match y with
 | some Y=>eH U F Y tb bud (List.replicate tb.length il)
 | none=>True
def yR (n:Nat)(q:Option Nat):Hp->Rg->Prop:=λU F=>match q with
 | some q=>dL U F q (Vr n)
 | none=>True
def iT (tb:List bZ)(cf:Cf)(N:oI):kQ->Hp->Rg->Prop
 | .hd=>iz N.p (qJ cf N)
 | .dE=>cT N.dE 3 (gA tb)
 | .sp=>yR cf.aF N.hs
 | .fO=>bR N.aw 1 (fK N.al)
 | .cN=>bR N.tw 3 N.tl
 | .live=>jE N.lm .i64 (.ag 4) []
 | .ar k=>rW cf.aF cf.room tb N.ys[k]?
 | .ca k=>ri tb cf.dB N.cs[k]?
 | .hn _=>λ_ _=>True
theorem rW.loc (n room:Nat)(tb:List bZ)(y:Option Lay):dM (rW n room tb y):=by
 intro U σ' F G h hz hs;cases y with
 | some Y=>exact dG.loc _ _ _ _ h hz hs
 | none=>trivial
theorem ri.loc (tb:List bZ)(bud:Nat)(y:Option gN):dM (ri tb bud y):=by
 intro U σ' F G h hz hs;cases y with
 | some Y=>exact eH.loc _ _ _ _ h hz hs
 | none=>trivial
theorem yR.loc (n:Nat)(q:Option Nat):dM (yR n q):=by
 intro U σ' F G h hz hs;cases q with
 | some q=>exact dL.loc _ _ _ _ h hz hs
 | none=>trivial
theorem iT.loc {N:oI}:∀i,dM (iT tb cf N i)
 | .hd=>iz.loc _ _
 | .dE=>cT.loc _ _ _
 | .sp=>yR.loc _ _
 | .fO=>bR.loc _ _ _
 | .cN=>bR.loc _ _ _
 | .live=>jE.loc _ _ _ _
 | .ar k=>rW.loc _ _ _ _
 | .ca k=>ri.loc _ _ _
 | .hn _=>λ_ _ _ _ _ _ _=>trivial
structure NK (U:Hp) (B:Rg) (w:Hp) (P:Rg) (tb:List bZ) (cf:Cf) (N:oI):Prop where
 sep:Sep (iT tb cf N) w P
 e:aG U w
 p:∀b,P b->U.size<=b/\¬B b/\b<w.size
 b:∀b,B b->U.size<=b/\b<w.size
variable {N N':oI}
theorem NK.fr (K:NK U B w P tb cf N)(e:aG w w'):NK U B w' P tb cf N:=
 ⟨(Sep.loc iT.loc).bO K.sep e,K.e.trans e,λb a=>⟨(K.p b a).1,(K.p b a).2.1,by have:=(K.p b a).2.2;have:=e.1;omega⟩,λb a=>by have:=K.b b a;have:=e.1;omega⟩
theorem NK.box (K:NK U B w P tb cf N)(e:aG w w')(hz:w'.size=w.size+1):NK U (λb=>B b\/b=w.size) w' P tb cf N:=by
 have h:=K.fr e;have i:=K.e.1;exact⟨h.sep,h.e,λb a=>⟨(K.p b a).1,λg=>g.elim (K.p b a).2.1 λd=>by have:=(K.p b a).2.2;omega,(h.p b a).2.2⟩,λb a=>a.elim (h.b b) λd=>O⟩
theorem NK.drop (K:NK U B w P tb cf N){B':Rg}(hb:∀b,B' b->B b):NK U B' w P tb cf N:=⟨K.sep,K.e,λb h=>⟨(K.p b h).1,λa=>(K.p b h).2.1 (hb b a),(K.p b h).2.2⟩,λb h=>K.b b (hb b h)⟩
theorem NK.put (K:NK U B w P tb cf N)(e:aG w w')(i:kQ)(hj:∀j,j≠i->iT tb cf N' j=iT tb cf N j)(hi:iT tb cf N' i w' (λb=>w.size<=b)):NK U B w' (λb=>P b\/w.size<=b/\b<w'.size) tb cf N':=by
 have h:=K.fr e;have m:=K.e.1;refine⟨h.sep.put iT.loc i (G:=λb=>w.size<=b/\b<w'.size) (λb a g=>by have:=(K.p b g).2.2;omega) hj ((iT.loc i).mono hi λb a d=>⟨d,a⟩) (iT.loc i),h.e,λb a=>?_,h.b⟩;rcases a with a|a
 ·exact h.p b a
 ·exact⟨O,λd=>by have:=(K.b b d).2;omega,a.2⟩
theorem NK.step (K:NK U B w P tb cf N)(i:kQ):∃G:Rg,(∀b,G b->P b)/\iT tb cf N i w G/\∀(w':Hp) (N':oI) (G':Rg),(∀j,j≠i->iT tb cf N' j=iT tb cf N j)->Ext G w w'->(∀b,G' b->G b\/w.size<=b/\¬B b)->iT tb cf N' i w' G'->(∀b,B b->b<w'.size) →
 NK U B w' (λb=>(P b/\¬G b\/G' b)/\b<w'.size) tb cf N':=by
 obtain⟨G,m,s,_,g⟩:=K.sep.jX iT.loc i;refine⟨G,m,s,λw' N' G' u e r y x=>⟨?_,?_,λb a=>?_,λb a=>⟨(K.b b a).1,x b a⟩⟩⟩
 ·have:=g w' (iT tb cf N') G' u e (λb a=>(r b a).imp id λd=>d.1) y (iT.loc _);refine(Sep.loc iT.loc).mono this λb a d=>⟨?_,a⟩;exact d.imp (λd=>⟨d.1,d.2.2⟩) id
 ·exact Ext.dW K.e e λb a=>.inr (K.p b (m b a)).1
 ·have z:=K.e.1;rcases a.1 with h1|h1
  ·exact⟨(K.p b h1.1).1,(K.p b h1.1).2.1,a.2⟩
  ·rcases r b h1 with h2|h2
   ·exact⟨(K.p b (m b h2)).1,(K.p b (m b h2)).2.1,a.2⟩
   ·exact⟨O,h2.2,a.2⟩
theorem Ak {K:eR [.p]}{body:eR [.p]->Prop}(P:Option Addr->Hp->Prop)(h1:∀r w,P r w->K r w)(h2:∀J:eR [.p],(∀r w,P r w->J r w)->body J):Jn [.p] K body:=Jn.intro (h2 K h1)
def gK:Sl:=⟨none,0,0⟩
def qb (cs:List gN):List Value:=cs.flatMap λc=>[.pointer (some ⟨c.p,0,none⟩),.slice none 0 0,.nilIface]
def N0 (p:Nat)(dE:Sl)(lm:Nat):oI:=⟨p,dE,lm,none,none,gK,[],gK,gK,[],gK,[],[]⟩
def NB (p:Nat)(dE:Sl)(lm q:Nat)(aw:Sl)(ys:List Lay)(tw:Sl)(cs:List gN):oI:=⟨p,dE,lm,some q,some q,aw,ys.map (·.p),aw,tw,qb cs,tw,ys,cs⟩
theorem CS {p lm:Nat}{dE:Sl}{D:Rg}(e:aG U w)(hz:U.size<w.size)(hp:bY w p (qJ cf (N0 p dE lm)))(hm:dH w lm .i64 (.ag 4) [])(ht:cT dE 3 (gA tb) w D)(hD:∀b,D b->U.size<b/\b<w.size/\b≠p/\b≠lm)(hpl:p≠lm)(h1:U.size<p)(h2:U.size<lm) :
 NK U (· = U.size) w (λb=>D b\/b=p\/b=lm) tb cf (N0 p dE lm):=by
 have d:=hp.lt;have g:=hm.lt;refine⟨⟨λb=>if b=p then .hd else if b=lm then .live else .dE,λi=>?_⟩,e,λb a=>?_,λb a=>O⟩
 ·cases i with
  | hd=>exact⟨⟨.inr (.inl rfl),zC rfl⟩,hp⟩
  | live=>exact⟨⟨.inr (.inr rfl),by show(if lm=p then kQ.hd else if lm=lm then kQ.live else kQ.dE)=.live;rw[zB (Ne.symm hpl),zC rfl]⟩,hm⟩
  | dE=>exact aH.mono ht λb _ a=>⟨.inl a,by show(if b=p then kQ.hd else if b=lm then kQ.live else kQ.dE)=.dE;rw[zB (hD b a).2.2.1,zB (hD b a).2.2.2]⟩
  | sp=>trivial
  | fO=>exact bR.nil _ _ _ _
  | cN=>exact bR.nil _ _ _ _
  | ar k=>trivial
  | ca k=>trivial
  | hn k=>trivial
 ·rcases a with a|a|a
  ·have:=hD b a;omega
  ·omega
  ·omega
theorem NK.yS (K:NK U B w P tb cf N):P N.p/\bY w N.p (qJ cf N):=by
 obtain⟨G,b,a⟩:=K.sep.get .hd;exact⟨b _ a.1,a.2⟩
theorem NK.tJ (K:NK U B w P tb cf N)(N':oI)(hN':∀j,j≠.hd->iT tb cf N' j=iT tb cf N j)(hp:N'.p=N.p){i:Nat}{v:Value}(hs:(qJ cf N).set i v=qJ cf N')(hi:i<10){Kk:aP}(hK:∀w' P',NK U B w' P' tb cf N'->QB w w' N.p->Kk w'):dU (Addr.add ⟨N.p,0,none⟩ i) v w Kk:=by
 obtain⟨G,m,a,d⟩:=K.step .hd;have a:iz N.p (qJ cf N) w G:=a;refine a.2.s1 (by simpa[qJ]using hi) λw' o g=>hK w' _ (d w' N' G hN' (o.ext.sub λx e=>by rw[e];exact a.1) (λx e=>.inl e) ?_ λx e=>by have:=(K.b x e).2;have:=o.1;omega) o;show iz N'.p (qJ cf N') w' G;rw[zH,hs]at g;rw[hp];exact⟨a.1,g⟩
theorem Np {Y:Lay}(h:N'.ys=N.ys++[Y])(hr:∀j,(∀k,j≠.ar k)->iT tb cf N' j=iT tb cf N j):∀j,j≠kQ.ar N.ys.length->iT tb cf N' j=iT tb cf N j:=by
 intro j hj;cases j with
 | ar k=>
  have a:k≠N.ys.length:=λe=>hj (by rw[e]);show rW _ _ _ N'.ys[k]?=rW _ _ _ N.ys[k]?;rw[h]
  congr 1
  rcases Nat.lt_or_gt_of_ne a with h1|h1
  ·rw[zh h1]
  ·rw[zW aE,zW O]
 | _=>exact hr _ (λk e=>by cases e)
theorem La {Y:gN}(h:N'.cs=N.cs++[Y])(hr:∀j,(∀k,j≠.ca k)->iT tb cf N' j=iT tb cf N j):∀j,j≠kQ.ca N.cs.length->iT tb cf N' j=iT tb cf N j:=by
 intro j hj;cases j with
 | ca k=>
  have a:k≠N.cs.length:=λe=>hj (by rw[e]);show ri _ _ N'.cs[k]?=ri _ _ N.cs[k]?;rw[h]
  congr 1
  rcases Nat.lt_or_gt_of_ne a with h1|h1
  ·rw[zh h1]
  ·rw[zW aE,zW O]
 | _=>exact hr _ (λk e=>by cases e)
end Go.Ar
namespace Go.Ar
open Go Go.Vc Go.Proofs
variable {U u w w':Hp}{F B P Q:Rg}{n:Nat}{cs:List Value}{tb:List bZ}{cf:Cf}{N:oI}
theorem ES (p a t b r:Int):sd p a t b r=true↔(32<=p/\p<=1024/\p%16=0)/\(1<=a/\a<=4)/\(1<=t/\t<=4)/\(0<=b/\b<=65536)/\0<=r/\r<=8:=by
 simp only[sd,zF,zU,zT];omega
theorem CN (g:Gl U)(gd:Gd U):jc (λb=>U.size<=b)/\¬(U.size<=1):=by
 refine⟨?_,λh=>by have:=AA gd;omega⟩;have d:jc (λ_=>False):=λb a=>a.elim;exact(d.grow g).sub λb a=>.inr a
theorem Sa (cs:List gN)(ls:List Li):gV (cs.map λc=>⟨c,gK⟩) (List.replicate cs.length ⟨ls,[],none⟩)=qb cs:=by
 induction cs with
 | nil=>rfl
 | cons c cs ih=>
  have e1:gV ((c::cs).map λc=>(⟨c,gK⟩:eL)) (List.replicate (c::cs).length ⟨ls,[],none⟩)=jA (⟨c,gK⟩,⟨ls,[],none⟩)++gV (cs.map λc=>(⟨c,gK⟩:eL)) (List.replicate cs.length ⟨ls,[],none⟩):=rfl;rw[e1,ih];rfl
theorem MX (cs:List gN):(qb cs).length=cs.length*3:=by
 induction cs with
 | nil=>rfl
 | cons c cs ih=>simp only[qb,nJ,zO,zX,lz]at *;omega
set_option maxRecDepth 8000 in
theorem AP {s:Sl}{xs:List (Int×Int×Int)}(ha:ig U s xs)(g:Gl U)(gd:Gd U)(p a t b r:Int){R:Option Addr->Int->Hp->Prop}
 (h2:Qp xs=false->∀σ',aG U σ'->R none 2 σ')
 (h1:Qp xs=true->sd p a t b r=false->∀σ',aG U σ'->R none 1 σ')
 (h0:Qp xs=true->sd p a t b r=true->∀σ' L,aG U σ'->HH σ' (λq=>U.size<=q) L (V0 (xs.map Z9) ⟨p.toNat,a.toNat,t.toNat,b.toNat,r.toNat⟩)->R (some ⟨L.p,0,none⟩) 0 σ') :
 KF.c s p a t b r U R:=by
 refine KF.o ?_;unfold KF.v;refine nw (cs:=[.int .i64 p,.int .i64 a,.int .i64 t,.int .i64 b,.int .i64 r]) λv hz e y=>?_;refine GW (Z0 ha e) λv1 e1=>?_;cases hv:Qp xs with
 | false=>exact cC rfl (h2 hv v1 (e.trans e1))
 | true=>
 have aa:=e1.bT y id;refine cB rfl (aa.rI rfl (aa.rI rfl (aa.rI rfl (aa.rI rfl (aa.rI rfl (NY p a t b r λv2 e2=>?_))))));have ab:=(e.trans e1).trans e2;cases hc:sd p a t b r with
 | false=>exact cC rfl (h1 hv hc v2 ab)
 | true=>
 have hcf:=(ES p a t b r).1 hc;obtain⟨p,rfl⟩:∃n:Nat,p=(n:Int):=⟨p.toNat,O⟩;obtain⟨a,rfl⟩:∃n:Nat,a=(n:Int):=⟨a.toNat,O⟩;obtain⟨t,rfl⟩:∃n:Nat,t=(n:Int):=⟨t.toNat,O⟩;obtain⟨b,rfl⟩:∃n:Nat,b=(n:Int):=⟨b.toNat,O⟩;obtain⟨r,rfl⟩:∃n:Nat,r=(n:Int):=⟨r.toNat,O⟩;simp only[dD]at h0;have h0:=h0 hv hc;have A:=e2.bT aa id;have hxl:=(Qk xs).1 hv;have hz2:=ab.1;have hz02:U.size<v2.size:=A.lt;generalize hcfd:(⟨p,a,t,b,r⟩:Cf)=cf at h0;generalize htbd:xs.map Z9=tb at h0;have hdE:∀(q:Nat) (dE:Sl) (C:Nat),qJ cf (N0 q dE C)=[.slice dE.a dE.len dE.cap,.int .i64 (p:Int),.int .i64 (a:Int),.int .i64 (t:Int),.int .i64 (b:Int),.int .i64 (r:Int),.pointer none,.slice none 0 0,.slice none 0 0,.map (some C)]:=λq dE C=>by rw[←hcfd];rfl
 refine cB rfl (Ak (λvh w=>∃P q dE C,vh=some ⟨q,0,none⟩/\NK U (· = U.size) w P tb cf (N0 q dE C)/\bY w U.size [.int .i64 (p:Int),.int .i64 (a:Int),.int .i64 (t:Int),.int .i64 (b:Int),.int .i64 (r:Int)]) (λvh w ⟨P,q,dE,C,hvh,K,hbw⟩=>?_) λJ hJ=>?_)
 ·subst hvh;refine hbw.rI rfl (Ol (n:=p) O O λv4 sp e4 _ hS=>?_);have hp:cf.aF=p:=by rw[←hcfd]
  have hroom:cf.room=r:=by rw[←hcfd]
  have hbud:cf.dB=b:=by rw[←hcfd]
  have K1:NK U (· = U.size) v4 _ tb cf {N0 q dE C with hs:=some sp}:=K.put e4 .sp (λj H=>by cases j<;>first|rfl|exact absurd rfl H) (by
   show dL v4 _ sp (Vr cf.aF);rw[hp];exact hS)
  have hbw4:=e4.bT hbw id;refine bK (K1.tJ (NB q dE C sp gK [] gK []) (λj H=>by cases j<;>first|rfl|exact absurd rfl H) rfl (i:=6) rfl O λv5 P5 K5 o5=>?_)
  have aj:∀{w:Hp} {P:Rg} {N:oI},NK U (· = U.size) w P tb cf N->U.size≠N.p:=λK e=>(K.p _ K.yS.1).2.1 e.symm;have hbw5:=Ws o5 hbw4 (aj K1);refine hbw5.rI rfl ?_;refine Qc (a:=bN) (λ(z:Int) w=>∃(P:Rg) (aw:Sl) (ys:List Lay),z=(ys.length:Int)/\ys.length<=a/\(∀Y∈ys,Y.hs=sp)/\NK U (· = U.size) w P tb cf (NB q dE C sp aw ys gK [])/\bY w U.size [.int .i64 (p:Int),.int .i64 (a:Int),.int .i64 (t:Int),.int .i64 (b:Int),.int .i64 (r:Int)]) (λz _=>a-z.toNat) ⟨P5,gK,[],rfl,by simp,by simp,K5,hbw5⟩ ?_;rintro(z:Int) w6 ⟨P6,aw,ys,rfl,hyl,hys,K6,hbw6⟩;refine cP (λhlt=>?_) λhge=>?_
  ·refine⟨λu=>u=w6,rfl,bK ⟨some ⟨sp,0,none⟩,λu hu=>by cases hu;rw[add_lit];exact(bY.cell (b:=q) K6.yS.2).trans rfl,⟨(r:Int),λu hu=>by cases hu;rw[add_lit,hbw6.cell];rfl,?_⟩⟩⟩;obtain⟨GS,hGS,hSp⟩:=K6.sep.get .sp;have hSp:dL w6 GS sp (Vr cf.aF):=hSp;have hnl:(Vr cf.aF).st.length=p:=by rw[hp];simp[Vr]
   have hnE:k5 xs (Vr cf.aF).st.length (r:Int)=0:=by
    unfold k5;rw[zC hv,hnl,zC O]
   refine JL (Z0 ha K6.e) hSp (r:Int) (λhne=>absurd hnE hne) λ_ v7 Y e7 hYh hA=>?_;rw[hnl,dD,htbd]at hA;have K7:NK U (· = U.size) v7 _ tb cf {NB q dE C sp aw ys gK []with ys:=ys++[Y]}:=K6.put e7 (.ar ys.length) (Np (N:=NB q dE C sp aw ys gK []) rfl (λj H=>by
    cases j with
    | ar k=>exact absurd rfl (H k)
    | _=>rfl)) (by
    show rW cf.aF cf.room tb (ys++[Y])[ys.length]? v7 _;rw[zt (zD _),qD,hp,hroom];exact hA)
   have S:=e7.bT hbw6 id;refine bK (K7.yS.2.rS (a:=aw.a) (n:=aw.len) (c:=aw.cap) rfl (nw (cs:=[.pointer (some ⟨Y.p,0,none⟩)]) λv8 hz8 e8 hb8=>?_));have K8:=K7.box e8 hz8;obtain⟨G,hG,d,ai⟩:=K8.step .fO;have d:bR aw 1 (fK (ys.map (·.p))) v8 G:=d;have hal:aw.len=ys.length:=by have:=d.1;simp[fK]at this;omega
   refine d.app (ys:=[.pointer (some ⟨Y.p,0,none⟩)]) rfl rfl ?_ (by simp[dO]) ?_ ?_ mU λs' v9 _ e9 hr9=>?_
   ·intro j u hu;rw[add_lit,zH,hb8.cell];exact hu
   ·simp only;omega
   ·simp only;omega
   have hz9:=e9.1;have hbw9:bY v9 U.size _:=e9.bT (e8.bT S id) λF=>(K8.p _ (hG _ F)).2.1 (.inl rfl);have K9:=(ai v9 {NB q dE C sp aw ys gK []with ys:=ys++[Y],aw:=s',al:=(ys++[Y]).map (·.p)} (λb=>Grow G v8 b/\b<v9.size) (λj H=>by cases j<;>first|rfl|exact absurd rfl H) e9 (λb y=>y.1.imp id λF=>⟨F,λhB=>by have:=(K8.b b hB).2;omega⟩) (by
    show bR s' 1 (fK ((ys++[Y]).map (·.p))) v9 _;have:fK ((ys++[Y]).map (·.p))=fK (ys.map (·.p))++[.pointer (some ⟨Y.p,0,none⟩)]:=by simp[fK]
    rw[this];exact aI.mono hr9 λb y F=>⟨F,y⟩) λb hB=>by have:=(K8.b b hB).2;omega).drop (B':=(· = U.size)) λb y=>.inl y
   refine bK (K9.tJ (NB q dE C sp s' (ys++[Y]) gK []) (λj H=>by cases j<;>first|rfl|exact absurd rfl H) rfl (i:=7) rfl O λad P10 K10 fP=>?_)
   have M:=Ws fP hbw9 (aj K9);exact cS (m:=ys.length+1) O O ⟨⟨P10,s',ys++[Y],by simp,by simp;omega,λZ hZ=>(zK.1 hZ).elim (hys Z) λh=>by
    rw[zL]at h;rw[h];exact hYh,K10,M⟩,O⟩
  ·have hya:ys.length=a:=by omega
   refine hbw6.rI rfl ?_;refine Qc (a:=bN) (λ(z:Int) w=>∃(P:Rg) (tw:Sl) (cs:List gN),z=(cs.length:Int)/\cs.length<=t/\NK U (· = U.size) w P tb cf (NB q dE C sp aw ys tw cs)/\bY w U.size [.int .i64 (p:Int),.int .i64 (a:Int),.int .i64 (t:Int),.int .i64 (b:Int),.int .i64 (r:Int)]) (λz _=>t-z.toNat) ⟨P6,gK,[],rfl,by simp,K6,hbw6⟩ ?_;rintro(z:Int) w7 ⟨P7,tw,cs,rfl,hcsl,K7,S⟩;refine cP (λhlt=>?_) λhge2=>?_
   ·refine S.rI rfl (LQ (Z0 ha K7.e) (b:Int) (λhvf=>by rw[hv]at hvf;cases hvf) (λ_ hn=>absurd ⟨O,O⟩ hn) λ_ _ _ v8 Y e8 hC=>?_);rw[dD,htbd]at hC;have K8:NK U (· = U.size) v8 _ tb cf {NB q dE C sp aw ys tw cs with cs:=cs++[Y]}:=K7.put e8 (.ca cs.length) (La (N:=NB q dE C sp aw ys tw cs) rfl (λj H=>by
     cases j with
     | ca k=>exact absurd rfl (H k)
     | _=>rfl)) (by
     show ri tb cf.dB (cs++[Y])[cs.length]? v8 _;rw[zt (zD _),qD,hbud];exact hC)
    have hbw8:=e8.bT S id;refine bK (K8.yS.2.rS (a:=tw.a) (n:=tw.len) (c:=tw.cap) rfl (nw (cs:=[.pointer (some ⟨Y.p,0,none⟩),.slice none 0 0,.nilIface]) λv9 hz9 e9 hb9=>?_));have K9:=K8.box e9 hz9;obtain⟨G,hG,d,ai⟩:=K9.step .cN;have d:bR tw 3 (qb cs) v9 G:=d;have hal:tw.len=cs.length:=by have:=d.1;rw[MX]at this;omega
    refine d.app (ys:=[.pointer (some ⟨Y.p,0,none⟩),.slice none 0 0,.nilIface]) rfl rfl ?_ (by simp[dO]) ?_ ?_ mU λs' ad _ e10 hr10=>?_
    ·intro j u hu;rw[add_lit,zH,hb9.cell];exact hu
    ·simp only;omega
    ·simp only;omega
    have hz10:=e10.1;have M:bY ad U.size _:=e10.bT (e9.bT hbw8 id) λF=>(K9.p _ (hG _ F)).2.1 (.inl rfl);have K10:=(ai ad {NB q dE C sp aw ys tw cs with cs:=cs++[Y],tw:=s',tl:=qb (cs++[Y])} (λb=>Grow G v9 b/\b<ad.size) (λj H=>by cases j<;>first|rfl|exact absurd rfl H) e10 (λb y=>y.1.imp id λF=>⟨F,λhB=>by have:=(K9.b b hB).2;omega⟩) (by
     show bR s' 3 (qb (cs++[Y])) ad _;have:qb (cs++[Y])=qb cs++[.pointer (some ⟨Y.p,0,none⟩),.slice none 0 0,.nilIface]:=by simp[qb]
     rw[this];exact aI.mono hr10 λb y F=>⟨F,y⟩) λb hB=>by have:=(K9.b b hB).2;omega).drop (B':=(· = U.size)) λb y=>.inl y
    refine bK (K10.tJ (NB q dE C sp aw ys s' (cs++[Y])) (λj H=>by cases j<;>first|rfl|exact absurd rfl H) rfl (i:=8) rfl O λv11 P11 K11 o11=>?_)
    have hbw11:=Ws o11 M (aj K10);exact cS (m:=cs.length+1) O O ⟨⟨P11,s',cs++[Y],by simp,by simp;omega,K11,hbw11⟩,O⟩
   ·have hct:cs.length=t:=by omega
    have Q:cf.threads=cs.length:=by rw[←hcfd,hct]
    have ae:cf.ib=ys.length:=by rw[←hcfd,hya]
    have hN:=CN g gd;refine h0 w7 ⟨q,sp,C,dE,aw,tw,ys,cs.map λc=>⟨c,gK⟩⟩ K7.e ⟨⟨?_,hys,?_,?_,?_,?_,?_,?_⟩,?_,g.bO K7.e,gd.bO K7.e,hN.1,hN.2⟩
    ·simp[V0,ae]
    ·simp[V0,Q]
    ·simp[V0,ae];omega
    ·simp[V0,ae];omega
    ·simp[V0,Q];omega
    ·simp[V0,Q];omega
    ·intro B hB;have:=zx hB;rw[this];rfl
    ·refine(Sep.loc CH.loc).mono (G:=λq=>U.size<=q) ?_ λb _ y=>y;obtain⟨ρ,hs⟩:=(Sep.loc iT.loc).mono K7.sep (G:=λq=>U.size<=q) λb _ y=>(K7.p b y).1;refine⟨ρ,λi=>?_⟩;have V:=hs i;cases i with
     | hd=>exact V
     | dE=>exact V
     | sp=>exact V
     | fO=>exact bR.fX V
     | cN=>
      show bR tw 3 (gV (cs.map λc=>⟨c,gK⟩) (List.replicate cf.threads ⟨List.replicate tb.length il,[],none⟩)) w7 _;rw[Q,Sa];exact V
     | live=>exact V
     | ar k=>
      show n4 ys[k]? (List.replicate cf.ib (fB cf.aF cf.room tb))[k]? w7 _;have V:rW cf.aF cf.room tb ys[k]? w7 _:=V;unfold n4;by_cases hk:k<ys.length
      ·rw[mH,zC O,cU hk];rw[cU hk]at V;exact V
      ·rw[zW O];trivial
     | ca k=>
      show qx (cs.map λc=>(⟨c,gK⟩:eL))[k]? (List.replicate cf.threads (⟨List.replicate tb.length il,[],none⟩:Th))[k]? tb cf.dB w7 _;have V:ri tb cf.dB cs[k]? w7 _:=V;unfold qx;by_cases hk:k<cs.length
      ·rw[mH,zC O,zg,cU hk];rw[cU hk]at V;exact V
      ·rw[zg,zW O];trivial
     | hn k=>
      show qd (cs.map λc=>(⟨c,gK⟩:eL))[k]? (List.replicate cf.threads (⟨List.replicate tb.length il,[],none⟩:Th))[k]? w7 _;unfold qd;by_cases hk:k<cs.length
      ·rw[mH,zC O,zg,cU hk];exact iv.nil _ _ _
      ·rw[zg,zW O];trivial
 ·have rd:∀(i:Nat) (x:Int),[Value.int .i64 (p:Int),.int .i64 (a:Int),.int .i64 (t:Int),.int .i64 (b:Int),.int .i64 (r:Int)][i]?=some (.int .i64 x)->∀m,bY m U.size [.int .i64 (p:Int),.int .i64 (a:Int),.int .i64 (t:Int),.int .i64 (b:Int),.int .i64 (r:Int)]->cell m (Addr.add ⟨U.size,0,none⟩ i)=some (.int .i64 x):=λi x F m hm=>by
   rw[add_lit,hm.cell,zH];exact F
  refine⟨λm=>bY m U.size [.int .i64 (p:Int),.int .i64 (a:Int),.int .i64 (t:Int),.int .i64 (b:Int),.int .i64 (r:Int)],A,⟨(p:Int),rd 0 _ rfl,⟨(a:Int),rd 1 _ rfl,⟨(t:Int),rd 2 _ rfl,⟨(b:Int),rd 3 _ rfl,⟨(r:Int),rd 4 _ rfl,⟨?_,?_⟩⟩⟩⟩⟩⟩⟩
  ·refine V1 (Z0 ha ab) hv λdE am ac E=>⟨ac.bT A id,sY λv17 z17 ah hm=>⟨ah.bT (ac.bT A id) id,?_⟩⟩;rw[htbd]at E;have hz16:=ac.1;refine nw (cs:=[.slice dE.a dE.len dE.cap,.int .i64 (p:Int),.int .i64 (a:Int),.int .i64 (t:Int),.int .i64 (b:Int),.int .i64 (r:Int),.pointer none,.slice none 0 0,.slice none 0 0,.map (some am.size)]) λv18 z18 af hb18=>⟨af.bT (ah.bT (ac.bT A id) id) id,hJ _ _ ⟨_,v17.size,dE,am.size,rfl,CS (D:=λq=>v2.size<=q/\q<am.size) (((ab.trans ac).trans ah).trans af) O (by rw[hdE];exact hb18) (af.fS (hm .i64 (.ag 4)) id) ?_ (λb y=>O) O O O,af.bT (ah.bT (ac.bT A id) id) id⟩⟩;exact aH.bO (aH.bO (aH.mono E (G:=λq=>v2.size<=q/\q<am.size) λb y F=>⟨F,y⟩) ah) af
  ·refine sY λv19 z19 W hm=>⟨W.bT A id,V1 (Z0 ha (ab.trans W)) hv λdE v20 X E=>⟨X.bT (W.bT A id) id,?_⟩⟩;rw[htbd]at E;have hz20:=X.1;refine nw (cs:=[.slice dE.a dE.len dE.cap,.int .i64 (p:Int),.int .i64 (a:Int),.int .i64 (t:Int),.int .i64 (b:Int),.int .i64 (r:Int),.pointer none,.slice none 0 0,.slice none 0 0,.map (some v2.size)]) λv21 z21 ak hb21=>⟨ak.bT (X.bT (W.bT A id) id) id,hJ _ _ ⟨_,v20.size,dE,v2.size,rfl,CS (D:=λq=>v19.size<=q/\q<v20.size) (((ab.trans W).trans X).trans ak) O (by rw[hdE];exact hb21) (ak.fS (X.fS (hm .i64 (.ag 4)) id) id) ?_ (λb y=>O) O O O,ak.bT (X.bT (W.bT A id) id) id⟩⟩;exact aH.bO (aH.mono E (G:=λq=>v19.size<=q/\q<v20.size) λb y F=>⟨F,y⟩) ak
end Go.Ar
namespace Go.Ar
open Go Go.Vc Go.Proofs
variable {U u w w':Hp}{F B P Q:Rg}{L:dI}{H:Hw}{t:Nat}{g:Th}
theorem PW (u:Value){R:ByteArray->Hp->Prop}(h:Wc Tryz.prog 346 #[u] [.one .str] U R):ja Tryz.prog (.iface 218 u) "freehold/heap.name" [] [.one .str] U R :=
 ⟨218,u,346,rfl,λw=>by kernel_rfl,λxs w=>by kernel_rfl,h⟩
theorem M0 (u:Value){R:ByteArray->Hp->Prop}(h:Wc Tryz.prog 350 #[u] [.one .str] U R):ja Tryz.prog (.iface 228 u) "freehold/heap.name" [] [.one .str] U R :=
 ⟨228,u,350,rfl,λw=>by kernel_rfl,λxs w=>by kernel_rfl,h⟩
theorem Nt (u:Value){R:ByteArray->Hp->Prop}(h:Wc Tryz.prog 352 #[u] [.one .str] U R):ja Tryz.prog (.iface 231 u) "freehold/heap.name" [] [.one .str] U R :=
 ⟨231,u,352,rfl,λw=>by kernel_rfl,λxs w=>by kernel_rfl,h⟩
theorem Rm (u:Value){R:ByteArray->Hp->Prop}(h:Wc Tryz.prog 353 #[u] [.one .str] U R):ja Tryz.prog (.iface 233 u) "freehold/heap.name" [] [.one .str] U R :=
 ⟨233,u,353,rfl,λw=>by kernel_rfl,λxs w=>by kernel_rfl,h⟩
theorem OI (u:Value){R:ByteArray->Hp->Prop}(h:Wc Tryz.prog 351 #[u] [.one .str] U R):ja Tryz.prog (.iface 230 u) "freehold/heap.name" [] [.one .str] U R :=
 ⟨230,u,351,rfl,λw=>by kernel_rfl,λxs w=>by kernel_rfl,h⟩
theorem RF (u:Value){R:ByteArray->Hp->Prop}(h:Wc Tryz.prog 347 #[u] [.one .str] U R):ja Tryz.prog (.iface 220 u) "freehold/heap.name" [] [.one .str] U R :=
 ⟨220,u,347,rfl,λw=>by kernel_rfl,λxs w=>by kernel_rfl,h⟩
theorem JN (u:Value){R:ByteArray->Hp->Prop}(h:Wc Tryz.prog 348 #[u] [.one .str] U R):ja Tryz.prog (.iface 222 u) "freehold/heap.name" [] [.one .str] U R :=
 ⟨222,u,348,rfl,λw=>by kernel_rfl,λxs w=>by kernel_rfl,h⟩
theorem Nx (u:Value){R:ByteArray->Hp->Prop}(h:Wc Tryz.prog 354 #[u] [.one .str] U R):ja Tryz.prog (.iface 238 u) "freehold/heap.name" [] [.one .str] U R :=
 ⟨238,u,354,rfl,λw=>by kernel_rfl,λxs w=>by kernel_rfl,h⟩
theorem MZ (u:Value){R:ByteArray->Hp->Prop}(h:Wc Tryz.prog 355 #[u] [.one .str] U R):ja Tryz.prog (.iface 241 u) "freehold/heap.name" [] [.one .str] U R :=
 ⟨241,u,355,rfl,λw=>by kernel_rfl,λxs w=>by kernel_rfl,h⟩
theorem SW (u:Value){R:ByteArray->Hp->Prop}(h:Wc Tryz.prog 356 #[u] [.one .str] U R):ja Tryz.prog (.iface 245 u) "freehold/heap.name" [] [.one .str] U R :=
 ⟨245,u,356,rfl,λw=>by kernel_rfl,λxs w=>by kernel_rfl,h⟩
theorem RP (u:Value){R:ByteArray->Hp->Prop}(h:Wc Tryz.prog 349 #[u] [.one .str] U R):ja Tryz.prog (.iface 224 u) "freehold/heap.name" [] [.one .str] U R :=
 ⟨224,u,349,rfl,λw=>by kernel_rfl,λxs w=>by kernel_rfl,h⟩
def nT (s:ByteArray):Prop:=(s.toList==(ByteArray.mk #[]).toList)=false
theorem Le (p:Ph){R:ByteArray->Hp->Prop}(hR:∀s σ',aG U σ'->nT s->R s σ'):ja Tryz.prog (mZ (some p)) "freehold/heap.name" [] [.one .str] U R := by
 cases p with
 | take k=>
  refine PW _ (ZW.o ?_);unfold ZW.v;exact nw (cs:=[.int .i64 (k:Int)]) λv hz e hb=>hR _ v e (by unfold nT;decide +kernel)
 | cI k w=>
  refine M0 _ (Y1.o ?_);unfold Y1.v;exact nw (cs:=[.int .i64 (k:Int),.int .i64 (w:Int)]) λv hz e hb=>hR _ v e (by unfold nT;decide +kernel)
 | cJ k w=>
  refine Nt _ (Zk.o ?_);unfold Zk.v;exact nw (cs:=[.int .i64 (k:Int),.int .i64 (w:Int)]) λv hz e hb=>hR _ v e (by unfold nT;decide +kernel)
 | grow k w=>
  refine Rm _ (ZV.o ?_);unfold ZV.v;exact nw (cs:=[.int .i64 (k:Int),.int .i64 (w:Int)]) λv hz e hb=>hR _ v e (by unfold nT;decide +kernel)
 | fill=>
  refine OI _ (ZS.o ?_);unfold ZS.v;exact nw (cs:=[]) λv hz e hb=>hR _ v e (by unfold nT;decide +kernel)
 | eJ m=>
  refine RF _ (ZL.o ?_);unfold ZL.v;exact nw (cs:=[.int .i64 (m:Int)]) λv hz e hb=>hR _ v e (by unfold nT;decide +kernel)
 | find x=>
  refine JN _ (ZT.o ?_);unfold ZT.v;exact nw (cs:=[.int .i64 x]) λv hz e hb=>hR _ v e (by unfold nT;decide +kernel)
 | put k x=>
  refine Nx _ (Z7.o ?_);unfold Z7.v;exact nw (cs:=[.int .i64 (k:Int),.int .i64 x]) λv hz e hb=>hR _ v e (by unfold nT;decide +kernel)
 | back=>
  refine MZ _ (ZY.o ?_);unfold ZY.v;exact nw (cs:=[]) λv hz e hb=>hR _ v e (by unfold nT;decide +kernel)
 | dC s a=>
  refine SW _ (ZU.o ?_);unfold ZU.v;exact nw (cs:=[.int .i64 s,.int .i64 a]) λv hz e hb=>hR _ v e (by unfold nT;decide +kernel)
 | drain=>
  refine RP _ (ZN.o ?_);unfold ZN.v;exact nw (cs:=[]) λv hz e hb=>hR _ v e (by unfold nT;decide +kernel)
def Uz (H:Hw)(thread:Int):Option Ph:=if 0<=thread/\thread<(H.bQ.length:Int)then(match H.bQ[thread.toNat]? with
 | some g=>g.ph
 | none=>none)else none
theorem Jh (h:HH U F L H)(thread:Int){R:ByteArray->Hp->Prop}(hR:∀s σ',aG U σ'->(s.toList==(ByteArray.mk #[]).toList)=(Uz H thread).isNone->R s σ'):Ze.c (aW L.p) thread U R:=by
 refine Ze.o ?_;unfold Ze.v;have i:Uz H thread=none->R (ByteArray.mk #[]) U:=λd=>hR _ U (Ext.refl _ _) (by rw[d];decide +kernel);refine VW h (KY (λr w=>w=U/\r = !decide (0<=thread/\thread<(H.bQ.length:Int))) (λr w ⟨z,A⟩=>?_) λJ C=>cB rfl (Cz h thread (C _ _ ⟨rfl,rfl⟩)));subst z;refine KY (λr B=>B=w/\r=(Uz H thread).isNone) (λr B ⟨z,b⟩=>?_) λJ1 j=>?_
 ·rw[z];cases d:Uz H thread with
  | none=>rw[d]at b;exact cC (by rw[b];rfl) (i d)
  | some p=>
   rw[d]at b;have a:=d;unfold Uz at a;split at a
   ·rename_i hth;obtain⟨t,rfl⟩:∃t:Nat,thread=(t:Int):=⟨thread.toNat,O⟩;have u:t<H.bQ.length:=by omega
    obtain⟨x,g,y,m⟩:=h.th u;rw[dD,m]at a;simp only at a;refine cB (by rw[b];rfl) (bK (h.hd.rS rfl (h.tR y m ?_)));rw[a];exact Le p λs σ' e u=>hR s σ' e (by rw[d];exact u)
   ·cases a
 ·by_cases hth:0<=thread/\thread<(H.bQ.length:Int)
  ·obtain⟨t,rfl⟩:∃t:Nat,thread=(t:Int):=⟨thread.toNat,O⟩;have u:t<H.bQ.length:=by omega
   obtain⟨x,g,y,m⟩:=h.th u;refine cB (by rw[A,zJ hth];rfl) (bK (h.hd.rS rfl (h.tR y m ⟨uu _,j _ _ ⟨rfl,?_⟩⟩)));rw[wa];unfold Uz;rw[zC hth,dD,m]
  ·refine cC (by rw[A,zN hth];rfl) (j _ _ ⟨rfl,?_⟩);unfold Uz;rw[zB hth];rfl
def j0 (H:Hw):Prop:=1<=H.cf.aF/\H.cf.threads=H.bQ.length/\mr H.tb
end Go.Ar
namespace Go.Ar
open Go Go.Vc Go.Proofs
open Go.Bu (eV)
variable {U u w w':Hp}{F B P Q:Rg}{L:dI}{H H':Hw}{t:Nat}{g:Th}
def Uh (H:Hw)(thread kind size align addr:Int)(H':Hw)(a e:Int):Prop:=
 (Kv H thread kind size align addr=.inl e/\e≠0/\H'=H/\a=0)\/∃t p n,Kv H thread kind size align addr=.inr (t,p)/\iE n (eO H t (some p)) t p H' a e
theorem DR (hso:GC)(h:HH U F L H)(hv:mr H.tb){thread kind size align addr:Int}{a e:Int}(hw:Uh H thread kind size align addr H' a e){R:Int->Int->Hp->Prop}
 (hR:∀σ' ts',Ext F U σ'->HH σ' (Grow F U) {L with ts:=ts'} H'->R a e σ'):Yh.c (aW L.p) thread kind size align addr U R:=by
 rcases hw with⟨hs,hne,rfl,rfl⟩|⟨t,p,n,hs,hr⟩
 ·exact Du hso h hv thread kind size align addr (λi b _ σ' g d=>by
   rw[hs]at b;cases b;exact hR σ' L.ts g d) λt p b=>by rw[hs]at b;cases b
 ·exact Du hso h hv thread kind size align addr (λi b=>by rw[hs]at b;cases b) λj m b=>by
   rw[hs]at b;cases b;exact⟨n,H',a,e,hr,hR⟩
theorem SR (hso:GC)(h:HH U F L H)(hv:mr H.tb){thread size align:Int}{a e:Int}(hw:Uh H thread 0 size align 0 H' a e){R:Int->Int->Hp->Prop}
 (hR:∀σ' ts',Ext F U σ'->HH σ' (Grow F U) {L with ts:=ts'} H'->R a e σ'):YV.c (aW L.p) thread size align U R:=by
 refine YV.o ?_;unfold YV.v;exact DR hso h hv hw hR
theorem O0 (hso:GC)(h:HH U F L H)(hv:mr H.tb){thread addr:Int}{a e:Int}(hw:Uh H thread 1 0 0 addr H' a e){R:aN}
 (hR:∀σ' ts',Ext F U σ'->HH σ' (Grow F U) {L with ts:=ts'} H'->R e σ'):Zq.c (aW L.p) thread addr U R:=by
 refine Zq.o ?_;unfold Zq.v;exact DR hso h hv hw hR
def QA (H' H:Hw):Prop:=H'.tb=H.tb/\H'.cf=H.cf/\H'.bQ.length=H.bQ.length/\H'.bX.length=H.bX.length
theorem QA.refl (H:Hw):QA H H:=⟨rfl,rfl,rfl,rfl⟩
theorem QA.trans {H1 H2 H3:Hw}(a:QA H2 H1)(b:QA H3 H2):QA H3 H1:=⟨b.1.trans a.1,b.2.1.trans a.2.1,b.2.2.1.trans a.2.2.1,b.2.2.2.trans a.2.2.2⟩
theorem KP (H:Hw)(t:Nat)(f:Th->Th):QA (H.dV t f) H:=⟨rfl,rfl,by simp[Hw.dV],rfl⟩
theorem KV (H:Hw)(k:Nat)(A:AR)(sp:Sp):QA {H.cD k A with sp:=sp} H:=⟨rfl,rfl,rfl,by simp[Hw.cD]⟩
theorem OO (H:Hw)(k:Nat)(part:Nat->List Int)(j:Nat):QA (Vh H k part (List.range j)) H:=by
 induction j with
 | zero=>exact QA.refl H
 | succ j ih=>
  rw[Vj];split
  ·split
   ·exact ih
   ·exact ih.trans (KV _ _ _ _)
  ·exact ih
theorem MA (H:Hw)(own k:Nat)(xs:List Int):QA (HU H own k xs) H:=by
 unfold HU;split
 ·split
  ·exact KV _ _ _ H.sp
  ·refine QA.trans ?_ (OO _ _ _ _);split
   ·exact KV _ _ _ H.sp
   ·exact QA.refl H
 ·exact QA.refl H
theorem NS (H:Hw)(t k:Nat)(x:Int):QA (iw H t k x) H:=by
 unfold iw;simp only;split<;>split<;>exact⟨rfl,rfl,by simp[Hw.dV,QO],rfl⟩
theorem S8 (H:Hw)(t:Nat)(p:Ph):QA (Wt H t p).1 H:=by
 cases p with
 | take k=>simp only[Wt];split<;>exact⟨rfl,rfl,by simp[VE,QO,Hw.dV,Hw.cD],by simp[VE,QO,Hw.dV,Hw.cD]⟩
 | cI k w=>
  simp only[Wt];split
  ·split
   ·exact(KV _ _ _ H.sp).trans (KP _ _ _)
   ·exact QA.refl H
  ·exact QA.refl H
 | cJ k w=>
  simp only[Wt];split
  ·exact KV _ _ _ H.sp
  ·exact(KV _ _ _ H.sp).trans (KP _ _ _)
 | grow k w=>simp only[Wt];split<;>exact KV _ _ _ _
 | fill=>
  simp only[Wt];split
  ·exact⟨rfl,rfl,by simp[VE,QO,Hw.dV,Hw.cD],by simp[VE,QO,Hw.dV,Hw.cD]⟩
  ·exact QA.refl H
 | eJ m=>simp only[Wt];split<;>exact⟨rfl,rfl,by simp[VE,QO,Hw.dV,Hw.cD],by simp[VE,QO,Hw.dV,Hw.cD]⟩
 | find x=>
  simp only[Wt,U6];split
  ·exact QA.refl H
  ·split
   ·exact⟨rfl,rfl,rfl,rfl⟩
   ·exact QA.trans (H2:={H with live:=Go.Vc.cR H.live x}) ⟨rfl,rfl,rfl,rfl⟩ (KP _ _ _)
 | put k x=>exact NS H t k x
 | back=>
  simp only[Wt];split
  ·exact(KP _ _ _).trans (MA _ _ _ _)
  ·exact QA.refl H
 | dC s a=>
  simp only[Wt];split
  ·exact KV _ _ _ H.sp
  ·exact QA.refl H
 | drain=>exact KP _ _ _
theorem UE (H:Hw)(t:Nat)(p:Ph):QA (QE H t p) H:=(S8 H t p).trans (KP _ _ _)
theorem F8 {n:Nat}{H H':Hw}{t:Nat}{p:Ph}{a e:Int}(h:iE n H t p H' a e):QA H' H:=by
 induction h with
 | done=>exact UE _ _ _
 | next _ _ _ ih=>exact(UE _ _ _).trans ih
theorem j0.bS (h:j0 H)(k:QA H' H):j0 H':=⟨by rw[k.2.1];exact h.1,by rw[k.2.1,k.2.2.1];exact h.2.1,by rw[k.1];exact h.2.2⟩
end Go.Ar