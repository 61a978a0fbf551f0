/- Texts joined. -/
import Derived.Test.YteihenagckcobaaGreatDoorU4
set_option linter.unusedVariables false
set_option linter.unusedSimpArgs false
namespace Go.Proofs
open Go.Vc
set_option maxRecDepth 100000
def Xv.h:Hn:=.q .o2 (.q (.q .o3 .aJ) (.q (.o 12) (.q (.q .o2 .aJ) (.q .o4 .l))))
def Xv.v (a:R2)(b:Int)(c:Hp)(d:Int->Int->Hp->Prop):Prop:=Xf.c a c λe f=>If (!e) (d 0 5 f) (bI a 9 f λh=>Lk .i64 (.ag 4) h b f λi=>aV #[.I 0,.I 0,.I 0,.I 0] 112 f λj k=>aR j 0 (.I ((i.getD (0,0,0,0)).1)) k λl=>aR j 1 (.I ((i.getD (0,0,0,0)).2.1)) l λm=>aR j 2 (.I ((i.getD (0,0,0,0)).2.2.1)) m λn=>aR j 3 (.I ((i.getD (0,0,0,0)).2.2.2)) n λo=>If (!i.isSome) (d 0 8 o) (aQ j 1 o λp=>d p 0 o))
theorem Xv.o {a b c d}(e:Xv.v a b c d):Xv.c a b c d:=Wa Tryz.func25 (x:=Xv.h) (R0 e)
def W9.h:Hn:=.q .o1 (.q .o6 .l)
def W9.v (a:R2)(b c:Int)(d:Hp)(e:aN):Prop:=Yy.c a d λf g=>Yc.c f b c g λh i=>e h i
theorem W9.o {a b c d e}(f:W9.v a b c d e):W9.c a b c d e:=Wa Tryz.func27 (x:=W9.h) (R0 f)
def Zm.h:Hn:=.q .o1 (.q (.q .o3 .aK) (.q .o1 (.q (.q .o8 (.k (.loop [(3,.one .s),(16,.I)] (.q .o1 (.q (.c .l .l) (.q (.k (.q .o3 .gH)) .o2)))))) .aL)))
def Zm.v (a:R2)(b:Hp)(c:Sl->Hp->Prop):Prop:=Xf.c a b λd e=>If (!d) (c ⟨none,0,0⟩ e) (bI a 9 e λg=>Zt.c g e λh i=>QD.c h i λj k=>X9 [.s,bN] (λl=>l ⟨none,0,0⟩ 0 k) λm (n:Sl) (o:Int) p=>If (o<((j.len:Nat):Int)) (Ix j.a j.len o 1 λq=>bM q p λr=>bU a λs=>bB s 9 p λt=>Lk .i64 (.ag 4) t r p λu=>aV #[.I ((u.getD (0,0,0,0)).1),.I ((u.getD (0,0,0,0)).2.1),.I ((u.getD (0,0,0,0)).2.2.1),.I ((u.getD (0,0,0,0)).2.2.2)] 112 p λv w=>App n 4 32 112 [.I 0,.I 0,.I 0,.I 0] ⟨some v,1,1⟩ w λx y=>bL (o+1) λz=>m x z y) (c n p))
theorem Zm.o {a b c}(d:Zm.v a b c):Zm.c a b c:=Wa Tryz.func32 (x:=Zm.h) (R0 d)
def YG.h:Hn:=.q .o2 (.q .gH .l)
def YG.v (a:R2)(b c d:Int)(e:Hp)(f:Int->Int->Hp->Prop):Prop:=X6.c a b 0 c d 0 e λg h i=>f g h i
theorem YG.o {a b c d e f}(g:YG.v a b c d e f):YG.c a b c d e f:=Wa Tryz.func43 (x:=YG.h) (R0 g)
def YL.h:Hn:=.q .o2 (.q .o8 .l)
def YL.v (a:R2)(b:Int)(c:Hp)(d:Int->Int->Hp->Prop):Prop:=Yy.c a c λe f=>YJ.c e b f λg h i=>d g h i
theorem YL.o {a b c d}(e:YL.v a b c d):YL.c a b c d:=Wa Tryz.func49 (x:=YL.h) (R0 e)
def Xf.h:Hn:=.q .o1 (.q (.cS (.seq [.op,.op,.op,.cX true 6 (RI.ops 6),.op])) .l)
def Xf.v (a:R2)(b:Hp)(c:aO):Prop:=bW (λd e=>c d e) λf=>If (!a.isNone) (bE a 8 b λh=>f (decide (((h.len:Nat):Int)>0)) b) (f false b)
theorem Xf.o {a b c}(d:Xf.v a b c):Xf.c a b c:=Wa Tryz.func58 (x:=Xf.h) (R0 d)
def Yy.h:Hn:=.q .o1 (.q (.q .o3 .aK) (.q .o5 .l))
def Yy.v (a:R2)(b:Hp)(c:Option Addr->Hp->Prop):Prop:=Xf.c a b λd e=>If (!d) (c none e) (bF a 6 e λg=>c g e)
theorem Yy.o {a b c}(d:Yy.v a b c):Yy.c a b c:=Wa Tryz.func61 (x:=Yy.h) (R0 d)
def Zg.h:Hn:=.q .o1 (.q .gH .aL)
def Zg.v (a:R2)(b c:Int)(d:Hp)(e:aN):Prop:=X6.c a b 1 0 0 c d λf g h=>e g h
theorem Zg.o {a b c d e}(f:Zg.v a b c d e):Zg.c a b c d e:=Wa Tryz.func70 (x:=Zg.h) (R0 f)
def Y5.h:Hn:=.q .o2 (.q (.k (.q .o4 (.c .aM (.q .o5 (.c .aM (.q .gH .aK)))))) (.q .o4 (.q (.q .o2 .aK) (.q .o9 .aM))))
def Y5.v (a:R2)(b c d e f:Int)(g:Hp)(h:aN):Prop:=aV #[.I c,.I d,.I e,.I f] 123 g λi j=>Xf.c a j λk l=>If (!k) (h 5 l) (XU.c a b l λm n=>If (!m) (h 1 n) (bE a 8 n λp=>Ix p.a p.len b 3 λq=>bA q 2 n λr=>And (iU r) <| If (!(ky r)) (h 5 n) (aQ i 0 n λs=>aQ i 1 n λt=>aQ i 2 n λu=>aQ i 3 n λv=>Yk.c a s t u v n λw x=>And (iU w) <| If (ky w) (h 1 x) (bE a 8 x λz=>Ix z.a z.len b 3 λaa=>And (iU w) <| aR aa 2 (w) x λab=>h 0 ab))))
theorem Y5.o {a b c d e f g h}(i:Y5.v a b c d e f g h):Y5.c a b c d e f g h:=Wa Tryz.func72 (x:=Y5.h) (R0 i)
def YV.h:Hn:=.q .o3 (.q (.k (.q .o4 (.c (.q .o4 .l) (.q .o5 (.c (.q .o4 .l) (.q .gH (.c (.q .o4 .l) .l))))))) (.q (.o 17) (.q .o9 (.q (.cS (.tail 4 (RI.ops 4) [.op,.op])) .l))))
def YV.v (a:R2)(b:Int)(c:Hp)(d:Bool->Int->Int->Int->Hp->Prop):Prop:=aV #[.I 0,.I 0] 125 c λe f=>Xf.c a f λg h=>If (!g) (aR e 0 (.I 0) h λi=>aR e 1 (.I 0) i λj=>aQ e 0 j λk=>aQ e 1 j λl=>d false k l 5 j) (XU.c a b h λm n=>If (!m) (aR e 0 (.I 0) n λo=>aR e 1 (.I 0) o λp=>aQ e 0 p λq=>aQ e 1 p λr=>d false q r 1 p) (bE a 8 n λt=>Ix t.a t.len b 3 λu=>bA u 2 n λv=>And (iU v) <| If (ky v) (aR e 0 (.I 0) n λw=>aR e 1 (.I 0) w λx=>aQ e 0 x λy=>aQ e 1 x λz=>d false y z 5 x) (bE a 8 n λab=>Ix ab.a ab.len b 3 λac=>bA ac 2 n λad=>Zi.c a b (ad) n λae af ag ah=>aV #[.I 0,.I 0] 125 ah λai aj=>aR ai 0 (.I af) aj λak=>aR ai 1 (.I ag) ak λal=>bE a 8 al λan=>Ix an.a an.len b 3 λao=>And (iU ae) <| aR ao 2 (ae) al λap=>And (iU ae) <| aQ ai 0 ap λaq=>aQ ai 1 ap λar=>aR e 0 (.I aq) ap λau=>aR e 1 (.I ar) au λav=>aQ e 0 av λaw=>aQ e 1 av λax=>d (ky ae) aw ax 0 av)))
theorem YV.o {a b c d}(e:YV.v a b c d):YV.c a b c d:=Wa Tryz.func73 (x:=YV.h) (R0 e)
def X6.h:Hn:=.q .o3 (.q (.q .o5 (.q .o2 (.c (.q .o3 .l) .l))) (.k (.loop [] (.k (.q (.o 11) (.q .o1 (.c (.q (.oq 6) .l) .l)))))))
def X6.v (a:R2)(b c d e f:Int)(g:Hp)(h:Int->Int->Hp->Prop):Prop:=aV #[.I c,.I d,.I e,.I f] 123 g λi j=>aQ i 0 j λk=>aQ i 1 j λl=>aQ i 2 j λm=>aQ i 3 j λn=>Y5.c a b k l m n j λo p=>If (o != 0) (h 0 o p) (X9 [] (λq=>q p) λr s=>YV.c a b s λt u v w x=>aV #[.I 0,.I 0] 125 x λy z=>aR y 0 (.I u) z λaa=>aR y 1 (.I v) aa λab=>If t (aQ y 0 ab λac=>aQ y 1 ab λad=>h ac ad ab) (r ab))
theorem X6.o {a b c d e f g h}(i:X6.v a b c d e f g h):X6.c a b c d e f g h:=Wa Tryz.func81 (x:=X6.h) (R0 i)
def XZ.h:Hn:=.q .o1 (.q (.q .o3 .aJ) (.q .o5 .l))
def XZ.v (a:R2)(b:Hp)(c:Int->Int->Int->Int->Int->Hp->Prop):Prop:=aV #[.I 0,.I 0,.I 0,.I 0,.I 0] 23 b λd e=>Xf.c a e λf g=>If (!f) (aR d 0 (.I 0) g λh=>aR d 1 (.I 0) h λi=>aR d 2 (.I 0) i λj=>aR d 3 (.I 0) j λk=>aR d 4 (.I 0) k λl=>aQ d 0 l λm=>aQ d 1 l λn=>aQ d 2 l λo=>aQ d 3 l λp=>aQ d 4 l λq=>c m n o p q l) (bU a λr=>bM ((r.add 1).add 0) g λs=>bM ((r.add 1).add 1) g λt=>bM ((r.add 1).add 2) g λu=>bM ((r.add 1).add 3) g λv=>bM ((r.add 1).add 4) g λw=>aR d 0 (.I s) g λx=>aR d 1 (.I t) x λy=>aR d 2 (.I u) y λz=>aR d 3 (.I v) z λaa=>aR d 4 (.I w) aa λab=>aQ d 0 ab λac=>aQ d 1 ab λad=>aQ d 2 ab λae=>aQ d 3 ab λaf=>aQ d 4 ab λag=>c ac ad ae af ag ab)
theorem XZ.o {a b c}(d:XZ.v a b c):XZ.c a b c:=Wa Tryz.func92 (x:=XZ.h) (R0 d)
def Ks.h:Hn:=.q .o3 (.q (.k (.q .o4 (.c .aL (.q .o4 .aJ)))) (.q (.cS (.ib true [] [(6,.one .p)] (.take 0 (.take 2 (.all [(1,.all [(3,.take 4 (.all [(5,.take 6 (.done))]))]),(3,.all [(1,.take 4 (.all [(5,.take 6 (.done))]))])]))))) (.q .gH (.q (.q .o3 (.k (.loop [(36,.I)] (.q .o1 (.q (.c .l .l) (.q (.k (.q (.cS (.held true [7] (.take 0 (.take 1 (.take 2 (.take 3 (.take 4 (.take 5 (.take 6 (.all [(7,.take 8 (.take 9 (.take 10 (.take 11 (.take 12 (.done))))))])))))))))) (.o 11))) .o2)))))) (.q (.q .o3 (.k (.loop [(62,.I)] (.q .o1 (.q (.c .l .l) (.q (.k (.q .o9 (.o 12))) .o2)))))) (.q .o3 .l))))))
def Ks.v (a:Sl)(b c d e f:Int)(g:Hp)(h:Option Addr->Int->Hp->Prop):Prop:=aV #[.I b,.I c,.I d,.I e,.I f] 23 g λi j=>Zv.c a j λk l=>If (!k) (h none 2 l) (aQ i 0 l λm=>aQ i 1 l λn=>aQ i 2 l λo=>aQ i 3 l λp=>aQ i 4 l λq=>Qp.c m n o p q l λr s=>If (!r) (h none 1 s) (Jn [.p] (λ(t:R2) u=>aQ i 0 u λv=>QP.c v u λw x y=>bU t λz=>aR z 6 (.pointer w) y λaa=>aQ i 1 aa λab=>X9 [bN] (λac=>ac 0 aa) λad (ae:Int) af=>If (ae<ab) (eN af λag=>bU t λah=>aU ag ah 6 λai=>aS ag i 4 λaj=>QQ.c a ai aj af λak al am=>bE t 7 am λao=>aV #[.pointer ak] 138 am λap aq=>App ao 1 8 138 [.pointer none] ⟨some ap,1,1⟩ aq λar au=>bU t λav=>aR av 7 (.slice ar.a ar.len ar.cap) au λaw=>bL (ae+1) λax=>ad ax aw) (aQ i 2 af λay=>X9 [bN] (λaz=>az 0 af) λa0 (a1:Int) a2=>If (a1<ay) (aQ i 3 a2 λa3=>QN.c a a3 a2 λa4 a5 a6=>bE t 8 a6 λa8=>aV #[.pointer a4,.slice none 0 0,.nilIface] 133 a6 λa9 ba=>App a8 3 48 133 [.pointer none,.slice none 0 0,.nilIface] ⟨some a9,1,1⟩ ba λbb bc=>bU t λbd=>aR bd 8 (.slice bb.a bb.len bb.cap) bc λbe=>bL (a1+1) λbf=>a0 bf be) (h t 0 a2))) λbg=>eN s λbh=>aS bh i 0 λbi=>aS bh i 1 λbj=>
 aS bh i 2 λbk=>aS bh i 3 λbl=>aS bh i 4 λbm=>(Wi.c a s λbn bo=>And (bh bo) <| Nw (.map #[] 0) bo λbp bq=>And (bh bq) <| aV #[.slice bn.a bn.len bn.cap,.I bi,.I bj,.I bk,.I bl,.I bm,.pointer none,.slice none 0 0,.slice none 0 0,.map (some bp.block)] 81 bq λbr bs=>And (bh bs) <| bg (some br) bs) ∧ (Nw (.map #[] 0) s λbt bu=>And (bh bu) <| Wi.c a bu λbv bw=>And (bh bw) <| aV #[.slice bv.a bv.len bv.cap,.I bi,.I bj,.I bk,.I bl,.I bm,.pointer none,.slice none 0 0,.slice none 0 0,.map (some bt.block)] 81 bw λbx bz=>And (bh bz) <| bg (some bx) bz)))
theorem Ks.o {a b c d e f g h}(i:Ks.v a b c d e f g h):Ks.c a b c d e f g h:=Wa Tryz.func101 (x:=Ks.h) (R0 i)
def XU.h:Hn:=.q .o1 (.q (.cS (.seq [.op,.op,.op,.cX true 7 (RI.ops 7),.op])) .l)
def XU.v (a:R2)(b:Int)(c:Hp)(d:aO):Prop:=bW (λe f=>d e f) λg=>If (b≥0) (bE a 8 c λi=>g (decide (b<((i.len:Nat):Int))) c) (g false c)
theorem XU.o {a b c d}(e:XU.v a b c d):XU.c a b c d:=Wa Tryz.func102 (x:=XU.h) (R0 e)
def Yk.h:Hn:=.q .o2 (.q (.q .o2 (.k (.q .o2 (.c (.q (.q (.cS (.seq [.op,.op,.op,.op,.cX false 3 (RI.ops 3)])) .aK) (.q (.cS (.held true [8] (.tk [0,1,2,3,4,5,6,7] (.all [(8,.tk [9,10,11,12,13] (.done))])))) (.q .o1 (.k (.q .o2 (.c (.q .o4 .l) (.q .o2 (.c (.q .o8 .l) .l)))))))) (.q .o2 (.c (.q .o5 .l) (.q .o2 (.c (.q .o3 .l) .l)))))))) .aM)
def Yk.v (a:R2)(b c d e:Int)(f:Hp)(g:Value->Hp->Prop):Prop:=aV #[.I b,.I c,.I d,.I e] 123 f λh i=>aQ h 0 i λj=>If (j==0) (aQ h 1 i λk=>bW (λl m=>If l (g (.nilIface) m) (eN m λn=>bU a λo=>aT n o 0 λp=>aS n h 1 λq=>aS n h 2 λr=>Z5.c p q r m λs t u=>If (t==0) (g (.iface 218 (.agg #[.I s])) u) (If (t==4) (aQ h 1 u λv=>bL (v+256) λw=>bL (w-1) λx=>Nz 256<|bL (x.tdiv 256) λy=>g (.iface 220 (.agg #[.I y])) u) (g (.nilIface) u)))) λz=>If (k<1) (z true i) (aQ h 1 i λaa=>z (decide (aa>16384)) i)) (If (j==1) (aQ h 3 i λab=>g (.iface 222 (.agg #[.I ab])) i) (If (j==2) (g (.iface 224 (.agg #[])) i) (g (.nilIface) i)))
theorem Yk.o {a b c d e f g}(h:Yk.v a b c d e f g):Yk.c a b c d e f g:=Wa Tryz.func103 (x:=Yk.h) (R0 h)
def Zi.h:Hn:=.q .o2 (.q .o7 (.q (.cS (.held true [] (.tk [0,1,2,3,4,5] (.all [(6,.take 7 (.all [(8,.take 9 (.done))]))])))) (.j8 [] (.q .o1 (.k (.q .o3 (.c (.q .o2 (.q (.q (.cS (.held true [6] (.tk [0,1,2,3,4,5] (.all [(6,.tk [7,8,9,10,11] (.done))])))) (.q .o2 (.c (.q (.cS (.held true [17] (.tk [0,1,2,3,4,5,6,7,8,9,10,11,12] (.all [(13,.tk [14,15,16] (.all [(17,.done)]))])))) .l) .l))) (.q (.cS (.held true [6] (.tk [0,1,2,3,4,5] (.all [(6,.tk [7,8,9,10,11] (.done))])))) (.q .o8 .l)))) (.q .o3 (.c (.q .o2 (.j8 [] (.q (.oq 12) (.c (.q .o9 (.q .o2 (.c (.q .o6 (.q .o5 .l)) .l))) .l)) (.q .o5 .l))) (.q .o3 (.c (.q .o2 (.q (.q (.o 11) (.q .o3 (.c (.q .o6 (.q .o5 .l)) .l))) (.q .o5 .l))) (.q .o3 (.c (.q .o2 (.q (.q .o5 (.q .o2 (.c (.q .o4 .l) .l))) (.q .o5 .l))) (.q .o3 (.c (.q .o2 (.q .o8 (.q .o4 (.q (.cS (.tail 9 (RI.ops 9) [.op])) (.q (.cS (.held true [20] (.tk [0,1,2,3,4,5,6,7,8,9,10,11,12,13,14,15] (.all [(16,.tk [17,18,19] (.all [(20,.done)]))])))) .l))))) (.q .o3 (.c (.q .o2 (.q .o9 (.q (.q .o2 (.c (.q .o4 .l) .l)) (.q (.o 11) .l)))) (.q .o3 (.c (.q .o2 (.q .o9 .l)) (.q .o3 (.c (.q .o2 (.j8 [] (.q (.cS (.held true [8] (.tk [0,1,2,3,4,5,6,7] (.all [(8,.tk [9,10,11,12,13] (.done))])))) (.q .o3 (.c .o6 .l))) (.q .o9 (.j8 [] (.q .o5 (.c (.cS (.held true [13] (.tk [0,1,2,3,4,5,6,7,8] (.all [(9,.all [(10,.take 11 (.take 12 (.all [(13,.done)])))])])))) .l)) (.q .o6 .l))))) (.q .o3 (.c (.q .o2 (.q .o8 (.q .gH (.q (.cS (.held true [5] (.take 0 (.take 1 (.take 2 (.take 4 (.all [(3,.all [(5,.done)])]))))))) (.q .o6 .l))))) (.q .o3 (.c (.q .o2 (.cS (.tail 10 (RI.ops 10) [.op]))) (.q .o3 (.c (.q .o2 (.q .o9 (.q .o6 .l))) .l)))))))))))))))))))))))) (.q .o3 .l))))
def Zi.v (a:R2)(b:Int)(c:Value)(d:Hp)(e:Value->Int->Int->Hp->Prop):Prop:=aV #[.I 0,.I 0] 125 d λf g=>bE a 8 g λi=>Ix i.a i.len b 3 λj=>eN g λk=>bU a λl=>aT k l 7 λm=>Zo.c a b g λn o=>And (k o) <| Ix m.a m.len n 1 λp=>fW p o λq=>And (k o) <| Jn [] (λr=>aR f 0 (.I 0) r λs=>aR f 1 (.I 0) s λt=>aQ f 0 t λu=>aQ f 1 t λv=>e (.nilIface) u v t) λw=>∃t52:Int,∃is:Bool,kb c 218 [.I t52] [.I 0] is ∧ (If is (aV #[.I 0] 218 o λx y=>dX x (.I t52) y λz=>eN z λaa=>bU (some j) λab=>aU aa ab 0 λac=>aS aa x 0 λad=>X2.c ac ad z λae af ag=>If (af==0) (eN ag λah=>bU a λai=>aT ah ai 0 λaj=>aS ah x 0 λak=>Ix aj.a aj.len ak 3 λal=>aS ah al 0 λam=>aS ah x 0 λan=>YN.c a ae am an ag λao ap aq ar=>And (ah ar) <| aR f 0 (.I ap) ar λau=>aR f 1 (.I aq) au λav=>aQ f 0 av λaw=>aQ f 1 av λax=>e (ao) aw ax av) (eN ag λay=>bU (some j) λaz=>aU ay az 0 λa0=>aS ay x 0 λa1=>X7.c a0 a1 ag λa2 a3 a4=>aQ x 0 a4 λa5=>aR f 0 (.I 0) a4 λa6=>aR f 1 (.I 0) a6 λa7=>aQ f 0 a7 λa8=>aQ f 1 a7 λa9=>e (.iface 228 (.agg #[.I a5,.I a2])) a8 a9 a7)) (∃t99:Int,∃t991:Int,∃is1:Bool,kb c 228 [.I t99,.I t991] [.I 0,.I 0] is1 ∧
 (If is1 (aV #[.I 0,.I 0] 228 o λba bb=>aR ba 0 (.I t99) bb λbc=>aR ba 1 (.I t991) bc λbd=>Jn [] (λbe=>aQ ba 0 be λbf=>aQ ba 1 be λbg=>aR f 0 (.I 0) be λbh=>aR f 1 (.I 0) bh λbi=>aQ f 0 bi λbj=>aQ f 1 bi λbk=>e (.iface 231 (.agg #[.I bf,.I bg])) bj bk bi) λbl=>aQ ba 1 bd λbm=>bE a 0 bd λbo=>aQ ba 0 bd λbp=>Ix bo.a bo.len bp 3 λbq=>aQ bq 2 bd λbr=>If (bm==br) (aQ ba 0 bd λbs=>WA.c q bs bd λbt bu bv=>If (bu==0) (aQ ba 0 bv λbw=>Yi.c a b bw bt bv λbx=>aR f 0 (.I 0) bx λbz=>aR f 1 (.I 0) bz λb0=>aQ f 0 b0 λb1=>aQ f 1 b0 λb2=>e (.iface 230 (.agg #[])) b1 b2 b0) (bl bv)) (bl bd)) (∃t135:Int,∃t1351:Int,∃is2:Bool,kb c 231 [.I t135,.I t1351] [.I 0,.I 0] is2 ∧ (If is2 (aV #[.I 0,.I 0] 231 o λb3 b4=>aR b3 0 (.I t135) b4 λb5=>aR b3 1 (.I t1351) b5 λb6=>aQ b3 0 b6 λb7=>aQ b3 1 b6 λb8=>WB.c q b7 b8 b6 λb9 ca cb=>If (((b9.len:Nat):Int)>0) (aQ b3 0 cb λcc=>Yi.c a b cc b9 cb λcd=>aR f 0 (.I 0) cd λce=>aR f 1 (.I 0) ce λcf=>aQ f 0 cf λcg=>aQ f 1 cf λch=>e (.iface 230 (.agg #[])) cg ch cf) (aQ b3 0 cb λci=>aQ b3 1 cb λcj=>aR f 0 (.I 0) cb λck=>aR f 1 (.I 0) ck λcl=>aQ f 0 cl λcm=>aQ f 1 cl λcn=>
 e (.iface 233 (.agg #[.I ci,.I cj])) cm cn cl)) (∃t162:Int,∃t1621:Int,∃is3:Bool,kb c 233 [.I t162,.I t1621] [.I 0,.I 0] is3 ∧ (If is3 (aV #[.I 0,.I 0] 233 o λco cp=>aR co 0 (.I t162) cp λcq=>aR co 1 (.I t1621) cq λcr=>aQ co 0 cr λcs=>XQ.c q cs cr λct cu=>If (ct != 0) (aR f 0 (.I 0) cu λcv=>aR f 1 (.I ct) cv λcw=>aQ f 0 cw λcx=>aQ f 1 cw λcy=>e (.nilIface) cx cy cw) (aQ co 0 cu λcz=>aQ co 1 cu λc0=>aR f 0 (.I 0) cu λc1=>aR f 1 (.I 0) c1 λc2=>aQ f 0 c2 λc3=>aQ f 1 c2 λc4=>e (.iface 231 (.agg #[.I cz,.I c0])) c3 c4 c2)) (∃is4:Bool,kb c 230 [] [] is4 ∧ (If is4 (aV #[] 230 o λc5 c6=>bE (some j) 1 c6 λc8=>Ix c8.a c8.len 0 2 λc9=>aQ c9 0 c6 λda=>aX c9 1 c6 λdb=>aV #[.I 0,.slice none 0 0] 135 c6 λdc dd=>aR dc 0 (.I da) dd λde=>aR dc 1 (.slice db.a db.len db.cap) de λdf=>bU (some j) λdg=>aR dg 1 (.slice none 0 0) df λdh=>bF (some j) 0 dh λdj=>aQ dc 0 dh λdk=>aX dc 1 dh λdl=>eX dl 1 1 (dl.len:Nat) (dl.cap:Nat) λdm=>XW.c dj dk dm dh λdn dp=>eN dp λdq=>aT dq dc 1 λdr=>Ix dr.a dr.len 0 1 λds=>gC dq bN ds λ(dt:Int)=>bU a λdu=>aT dq du 0 λdv=>aS dq dc 0 λdw=>Ix dv.a dv.len dw 3 λdx=>aS dq dx 0 λdy=>
 aS dq dc 0 λdz=>YN.c a dt dy dz dp λd0 d1 d2 d3=>And (dq d3) <| aR f 0 (.I d1) d3 λd4=>aR f 1 (.I d2) d4 λd5=>aQ f 0 d5 λd6=>aQ f 1 d5 λd7=>e (d0) d6 d7 d5) (∃t217:Int,∃is5:Bool,kb c 220 [.I t217] [.I 0] is5 ∧ (If is5 (aV #[.I 0] 220 o λd8 d9=>dX d8 (.I t217) d9 λea=>aQ d8 0 ea λeb=>WN.c q eb 1 ea λec ed ee=>If (ed != 0) (aR f 0 (.I 0) ee λef=>aR f 1 (.I ed) ef λeg=>aQ f 0 eg λeh=>aQ f 1 eg λei=>e (.nilIface) eh ei eg) (bL (ec*256) λej=>aQ d8 0 ee λek=>bL (ek*256) λel=>YN.c a ej el (-1) ee λem en eo ep=>aR f 0 (.I en) ep λeq=>aR f 1 (.I eo) eq λer=>aQ f 0 er λes=>aQ f 1 er λet=>e (em) es et er)) (∃t240:Int,∃is6:Bool,kb c 222 [.I t240] [.I 0] is6 ∧ (If is6 (aV #[.I 0] 222 o λeu ev=>dX eu (.I t240) ev λew=>aQ eu 0 ew λex=>Zl.c a b ex ew λey ez e0 e1=>aR f 0 (.I ez) e1 λe2=>aR f 1 (.I e0) e2 λe3=>aQ f 0 e3 λe4=>aQ f 1 e3 λe5=>e (ey) e4 e5 e3) (∃t250:Int,∃t2501:Int,∃is7:Bool,kb c 238 [.I t250,.I t2501] [.I 0,.I 0] is7 ∧ (If is7 (aV #[.I 0,.I 0] 238 o λe6 e7=>aR e6 0 (.I t250) e7 λe8=>aR e6 1 (.I t2501) e8 λe9=>Jn [] (λfa=>bE (some j) 1 fa λfc=>eX fc 2 1 (fc.len:Nat) (fc.cap:Nat) λfd=>bU (some j) λfe=>aR fe 1 (.slice fd.a fd.len fd.cap) fa λff=>Jn [] (λfg=>
 WV.c a b fg λfh fi=>aR f 0 (.I 0) fi λfj=>aR f 1 (.I 0) fj λfk=>aQ f 0 fk λfl=>aQ f 1 fk λfm=>e (fh) fl fm fk) λfn=>bF (some j) 0 ff λfp=>XT.c fp ff λfq fr=>If fq (eN fr λfs=>bU (some j) λft=>aT fs ft 1 λfu=>bU (some j) λfv=>aU fs fv 0 λfw=>WX.c fw fr λfx fy=>And (fs fy) <| App fu 2 32 135 [.I 0,.slice none 0 0] fx fy λfz f0=>And (fs f0) <| bU (some j) λf1=>aR f1 1 (.slice fz.a fz.len fz.cap) f0 λf2=>fn f2) (fn fr)) λf3=>eN e9 λf4=>bU (some j) λf5=>aU f4 f5 0 λf6=>aS f4 e6 0 λf7=>aS f4 e6 1 λf8=>Yv.c f6 f7 f8 e9 λf9 ga gb=>If (((f9.len:Nat):Int)>0) (aQ e6 0 gb λgc=>Yi.c a b gc f9 gb λgd=>f3 gd) (f3 gb)) (∃is8:Bool,kb c 241 [] [] is8 ∧ (If is8 (aV #[] 241 o λge gf=>bE (some j) 1 gf λgh=>Ix gh.a gh.len 0 2 λgi=>aQ gi 0 gf λgj=>aX gi 1 gf λgk=>aV #[.I 0,.slice none 0 0] 135 gf λgl gm=>aR gl 0 (.I gj) gm λgn=>aR gl 1 (.slice gk.a gk.len gk.cap) gn λgo=>bE (some j) 1 go λgq=>eX gq 2 1 (gq.len:Nat) (gq.cap:Nat) λgr=>Wq.c gr go λgs gt=>bU (some j) λgu=>aR gu 1 (.slice gs.a gs.len gs.cap) gt λgv=>eN gv λgw=>aS gw gl 0 λgx=>aT gw gl 1 λgy=>Zo.c a b gv λgz g0=>And (gw g0) <| Zn.c a gz gx gy g0 λg1=>
 WV.c a b g1 λg2 g3=>aR f 0 (.I 0) g3 λg4=>aR f 1 (.I 0) g4 λg5=>aQ f 0 g5 λg6=>aQ f 1 g5 λg7=>e (g2) g6 g7 g5) (∃t332:Int,∃t3321:Int,∃is9:Bool,kb c 245 [.I t332,.I t3321] [.I 0,.I 0] is9 ∧ (If is9 (aV #[.I 0,.I 0] 245 o λg8 g9=>aR g8 0 (.I t332) g9 λha=>aR g8 1 (.I t3321) ha λhb=>bE a 7 hb λhd=>aQ g8 1 hb λhe=>Ix hd.a hd.len he 1 λhf=>fW hf hb λhg=>aQ g8 0 hb λhh=>WK.c hg hh hb λhi hj=>w hj) (∃is10:Bool,kb c 224 [] [] is10 ∧ (If is10 (aV #[] 224 o λhk hl=>bF (some j) 0 hl λhn=>XE.c hn hl λho hp=>bU (some j) λhq=>aR hq 1 (.slice ho.a ho.len ho.cap) hp λhr=>WV.c a b hr λhs ht=>aR f 0 (.I 0) ht λhu=>aR f 1 (.I 0) hu λhv=>aQ f 0 hv λhw=>aQ f 1 hv λhx=>e (hs) hw hx hv) (w o))))))))))))))))))))))
theorem Zi.o {a b c d e}(f:Zi.v a b c d e):Zi.c a b c d e:=Wa Tryz.func104 (x:=Zi.h) (R0 f)
def Y6.h:Hn:=.q .o1 (.q (.q (.cS (.seq [.op,.op,.op,.op,.cX false 4 (RI.ops 4),.op,.cX false 9 (RI.ops 9)])) .aK) (.q .gH .l))
def Y6.v (a:R2)(b:Int)(c:Hp)(d:ByteArray->Hp->Prop):Prop:=Xf.c a c λe f=>bW (λg h=>bW (λi j=>If i (d (ByteArray.mk #[]) j) (bE a 8 j λl=>Ix l.a l.len b 3 λm=>bA m 2 j λn=>iX Tryz.prog n "freehold/heap.name" [] [.one .str] j fun t33 v3 =>d t33 v3)) λo=>If g (o true h) (bE a 8 h λq=>Ix q.a q.len b 3 λr=>bA r 2 h λs=>And (iU s) <| o (ky s) h)) λt=>If (!e) (t true f) (XU.c a b f λu v=>t (!u) v)
theorem Y6.o {a b c d}(e:Y6.v a b c d):Y6.c a b c d:=Wa Tryz.func131 (x:=Y6.h) (R0 e)
def Qp.h:Hn:=.q .o2 (.q (.cS (.seq [.op,.op,.op,.op,.cX true 3 (RI.ops 3),.op,.cX true 4 (RI.ops 4),.op,.cX true 3 (RI.ops 3),.op,.cX true 3 (RI.ops 3),.op,.cX true 3 (RI.ops 3),.op,.cX true 3 (RI.ops 3),.op,.cX true 3 (RI.ops 3),.op,.cX true 3 (RI.ops 3),.op,.cX true 3 (RI.ops 3),.op,.cX true 3 (RI.ops 3),.op])) .l)
def Qp.v (a b c d e:Int)(f:Hp)(g:aO):Prop:=aV #[.I a,.I b,.I c,.I d,.I e] 23 f λh i=>aQ h 0 i λj=>bW (λk l=>bW (λm n=>bW (λo p=>bW (λq r=>bW (λs t=>bW (λu v=>bW (λw x=>bW (λy z=>bW (λaa ab=>bW (λac ad=>g ac ad) λae=>If aa (aQ h 4 ab λaf=>ae (decide (af<=8)) ab) (ae false ab)) λag=>If y (aQ h 4 z λah=>ag (decide (ah≥0)) z) (ag false z)) λai=>If w (aQ h 3 x λaj=>ai (decide (aj<=65536)) x) (ai false x)) λak=>If u (aQ h 3 v λal=>ak (decide (al≥0)) v) (ak false v)) λam=>If s (aQ h 2 t λan=>am (decide (an<=4)) t) (am false t)) λao=>If q (aQ h 2 r λap=>ao (decide (ap≥1)) r) (ao false r)) λaq=>If o (aQ h 1 p λar=>aq (decide (ar<=4)) p) (aq false p)) λau=>If m (aQ h 1 n λav=>au (decide (av≥1)) n) (au false n)) λaw=>If k (aQ h 0 l λax=>Nz 16 <| aw ((ax.tmod 16)==0) l) (aw false l)) λay=>If (j≥32) (aQ h 0 i λaz=>ay (decide (az<=1024)) i) (ay false i)
theorem Qp.o {a b c d e f g}(h:Qp.v a b c d e f g):Qp.c a b c d e f g:=Wa Tryz.func141 (x:=Qp.h) (R0 h)
def Zo.h:Hn:=.q .o1 (.q .o8 .l)
def Zo.v (a:R2)(b:Int)(c:Hp)(d:aN):Prop:=bE a 7 c λf=>Nz ((f.len:Nat):Int) <| d (b.tmod ((f.len:Nat):Int)) c
theorem Zo.o {a b c d}(e:Zo.v a b c d):Zo.c a b c d:=Wa Tryz.func146 (x:=Zo.h) (R0 e)
def YN.h:Hn:=.q .o2 (.q (.cS (.held true [12] (.tk [0,1,2,3,4,5,6,7,8,9] (.all [(10,.take 11 (.all [(12,.done)]))])))) (.q .o4 .l))
def YN.v (a:R2)(b c d:Int)(e:Hp)(f:Value->Int->Int->Hp->Prop):Prop:=aV #[.I 0,.I 0] 125 e λg h=>eN h λi=>bU a λj=>gC i .m (j.add 9) λ(k:Option Nat)=>X5.c a b h λl m=>And (i m) <| kv .i64 (.ag 4) k b (b,c,d,l) m λn=>aR g 0 (.I b) n λo=>aR g 1 (.I 0) o λp=>aQ g 0 p λq=>aQ g 1 p λr=>f (.nilIface) q r p
theorem YN.o {a b c d e f}(g:YN.v a b c d e f):YN.c a b c d e f:=Wa Tryz.func148 (x:=YN.h) (R0 g)
def Yi.h:Hn:=.cS (.held true [20] (.tk [0,1,2,3,4,5,6,7,8,9,10,11,12,13,14,15] (.all [(16,.all [(17,.take 18 (.take 19 (.all [(20,.done)])))])])))
def Yi.v (a:R2)(b c:Int)(d:Sl)(e:Hp)(f:aP):Prop:=eN e λg=>bU a λh=>aT g h 8 λi=>bU a λj=>aT g j 8 λk=>Ix k.a k.len b 3 λl=>aT g l 1 λm=>aV #[.I c,.slice d.a d.len d.cap] 135 e λn o=>And (g o) <| App m 2 32 135 [.I 0,.slice none 0 0] ⟨some n,1,1⟩ o λp q=>And (g q) <| Ix i.a i.len b 3 λr=>aR r 1 (.slice p.a p.len p.cap) q λs=>f s
theorem Yi.o {a b c d e f}(g:Yi.v a b c d e f):Yi.c a b c d e f:=Wa Tryz.func151 (x:=Yi.h) (R0 g)
def Zl.h:Hn:=.q .o2 (.q (.o 12) (.q (.q .o2 (.c (.j8 [] (.q .o4 (.q .o2 (.c (.q (.o 16) (.q (.cS (.seq [.op,.op,.op,.cX true 2 [.op,.op],.op,.cX true 3 (RI.ops 3)])) (.c (.q .o3 .l) .l))) .l))) (.q .o3 .l)) .l)) (.q .o6 (.q (.q .o3 (.c (.q .o9 .l) .l)) (.q .o7 (.q .o8 .l))))))
def Zl.v (a:R2)(b c:Int)(d:Hp)(e:Value->Int->Int->Hp->Prop):Prop:=aV #[.I 0,.I 0] 125 d λf g=>bI a 9 g λi=>Lk .i64 (.ag 4) i c g λj=>aV #[.I 0,.I 0,.I 0,.I 0] 112 g λk l=>aR k 0 (.I ((j.getD (0,0,0,0)).1)) l λm=>aR k 1 (.I ((j.getD (0,0,0,0)).2.1)) m λn=>aR k 2 (.I ((j.getD (0,0,0,0)).2.2.1)) n λo=>aR k 3 (.I ((j.getD (0,0,0,0)).2.2.2)) o λp=>If (!j.isSome) (Jn [] (λq=>aR f 0 (.I 0) q λr=>aR f 1 (.I 8) r λs=>aQ f 0 s λt=>aQ f 1 s λu=>e (.nilIface) t u s) λv=>X5.c a c p λw x=>If (w≥0) (bE a 7 x λz=>Ix z.a z.len w 1 λaa=>fW aa x λab=>YA.c ab c x λac ad ae af=>bW (λag ah=>bW (λai aj=>If ai (aR f 0 (.I 0) aj λak=>aR f 1 (.I 9) ak λal=>aQ f 0 al λam=>aQ f 1 al λan=>e (.nilIface) am an al) (v aj)) λao=>If ag (ao (ad==c) ah) (ao false ah)) λap=>If (ae==0) (ap (decide (ac≥0)) af) (ap false af)) (v x)) (bI a 9 p λar=>lz .i64 (.ag 4) ar c p λau=>aQ k 2 au λav=>If (av<0) (Nz 256<|bL (c.tdiv 256) λaw=>aQ k 3 au λax=>aR f 0 (.I 0) au λay=>aR f 1 (.I 0) ay λaz=>aQ f 0 az λa0=>aQ f 1 az λa1=>e (.iface 245 (.agg #[.I aw,.I ax])) a0 a1 az) (aQ k 2 au λa2=>aV #[.I c] 3 au λa3 a4=>Yi.c a b a2 ⟨some a3,1,1⟩ a4 λa5=>aQ k 2 a5 λa6=>aR f 0 (.I 0) a5 λa7=>
 aR f 1 (.I 0) a7 λa8=>aQ f 0 a8 λa9=>aQ f 1 a8 λba=>e (.iface 238 (.agg #[.I a6,.I c])) a9 ba a8))
theorem Zl.o {a b c d e}(f:Zl.v a b c d e):Zl.c a b c d e:=Wa Tryz.func156 (x:=Zl.h) (R0 f)
def WV.h:Hn:=.q .o1 (.q (.q .gH .aK) (.q .o3 .l))
def WV.v (a:R2)(b:Int)(c:Hp)(d:Value->Hp->Prop):Prop:=bE a 8 c λf=>Ix f.a f.len b 3 λg=>aX g 1 c λh=>If (((h.len:Nat):Int)==0) (d (.nilIface) c) (d (.iface 241 (.agg #[])) c)
theorem WV.o {a b c d}(e:WV.v a b c d):WV.c a b c d:=Wa Tryz.func160 (x:=WV.h) (R0 e)
def Zn.h:Hn:=.q .o1 (.q .o7 (.q (.q .o4 (.k (.loop [(23,.I)] (.q .o1 (.q (.c .l .l) (.q (.k (.q .o3 (.q .o4 (.o 11)))) .o2)))))) (.j8 [] (.q (.oq 9) (.c (.q (.cS (.held true [] (.tk [0,1,2,3,4,5,6,7,8,9,10] (.all [(11,.tk [12,13,14,15,16] (.done))])))) (.q (.cS (.seq [.op,.op,.cX true 2 [.op,.op]])) (.c .l .l))) .l)) (.q .o3 (.k (.loop [(72,.I)] (.q .o1 (.q (.c .l .l) (.q (.k (.q .o5 (.q .o3 (.c (.cS (.tail 10 (RI.ops 10) [.op])) .l)))) .o2)))))))))
def Zn.v (a:R2)(b c:Int)(d:Sl)(e:Hp)(f:aP):Prop:=aV #[.I c,.slice d.a d.len d.cap] 135 e λg h=>bU a λi=>aX i 7 h λj=>Mk ((j.len:Nat):Int) ((j.len:Nat):Int) 24 34 [.slice none 0 0] h λk l=>aX g 1 l λm=>X9 [bN] (λn=>n 0 l) λo (p:Int) q=>If (p<((m.len:Nat):Int)) (Ix m.a m.len p 1 λr=>bM r q λs=>X5.c a s q λt u=>Ix k.a k.len t 1 λv=>jm v u λw=>aV #[.I s] 3 u λx y=>App w 1 8 3 [.I 0] ⟨some x,1,1⟩ y λz aa=>Ix k.a k.len t 1 λab=>dX ab (.slice z.a z.len z.cap) aa λac=>bL (p+1) λad=>o ad ac) (Jn [] (λae=>X9 [bN] (λaf=>af 0 ae) λag (ah:Int) ai=>If (ah<((k.len:Nat):Int)) (Ix k.a k.len ah 1 λaj=>jm aj ai λak=>If (((ak.len:Nat):Int)>0) (bE a 7 ai λam=>Ix am.a am.len ah 1 λan=>fW an ai λao=>aQ g 0 ai λap=>WL.c ao ap ak ai λaq ar=>bL (ah+1) λau=>ag au ar) (bL (ah+1) λav=>ag av ai)) (f ai)) λaw=>Ix k.a k.len b 1 λax=>jm ax q λay=>aX g 1 q λaz=>If (((ay.len:Nat):Int)==((az.len:Nat):Int)) (eN q λa0=>bU a λa1=>aT a0 a1 7 λa2=>Ix a2.a a2.len b 1 λa3=>gC a0 .p a3 λ(a4:R2)=>aS a0 g 0 λa5=>aT a0 g 1 λa6=>WF.c a4 a5 a6 q λa7 a8 a9=>And (a0 a9) <| bW (λba bb=>If ba (f bb) (aw bb)) λbc=>If a7 (bc (a8==0) a9) (bc false a9)) (aw q))
theorem Zn.o {a b c d e f}(g:Zn.v a b c d e f):Zn.c a b c d e f:=Wa Tryz.func162 (x:=Zn.h) (R0 g)
def X5.h:Hn:=.q .o2 (.q (.q .o2 .aK) (.q .o7 .l))
def X5.v (a:R2)(b:Int)(c:Hp)(d:aN):Prop:=aV #[.I b] 3 c λe f=>bM e f λg=>If (g<0) (d (-1) f) (bE a 7 f λi=>Wk.c i ⟨250,#[],#[.pointer (some e)]⟩ f λj k=>d j k)
theorem X5.o {a b c d}(e:X5.v a b c d):X5.c a b c d:=Wa Tryz.func205 (x:=X5.h) (R0 e)
def YR.h:Hn:=.q .o1 (.q .o5 .l)
def YR.v (a:R2)(b:Addr)(c:Hp)(d:aO):Prop:=bM b c λe=>Nz 256<|bL (e.tdiv 256) λf=>YM.c a f c λg h=>d g h
theorem YR.o {a b c d}(e:YR.v a b c d):YR.c a b c d:=Wa Tryz.func250 (x:=YR.h) (R0 e)
def ZK.h:Hn:=.q .o2 .aM
def ZK.v (a:Int)(b:Hp)(c:ByteArray->Hp->Prop):Prop:=aV #[.I a] 218 b λd e=>c (ByteArray.mk #[116,97,107,101]) e
theorem ZK.o {a b c}(d:ZK.v a b c):ZK.c a b c:=Wa Tryz.func346 (x:=ZK.h) (R0 d)
def ZD.h:Hn:=.q .o2 .aM
def ZD.v (a:Int)(b:Hp)(c:ByteArray->Hp->Prop):Prop:=aV #[.I a] 220 b λd e=>c (ByteArray.mk #[108,97,114,103,101]) e
theorem ZD.o {a b c}(d:ZD.v a b c):ZD.c a b c:=Wa Tryz.func347 (x:=ZD.h) (R0 d)
def ZP.h:Hn:=.q .o2 .aM
def ZP.v (a:Int)(b:Hp)(c:ByteArray->Hp->Prop):Prop:=aV #[.I a] 222 b λd e=>c (ByteArray.mk #[102,105,110,100]) e
theorem ZP.o {a b c}(d:ZP.v a b c):ZP.c a b c:=Wa Tryz.func348 (x:=ZP.h) (R0 d)
def ZB.h:Hn:=.q .o2 .aM
def ZB.v (a:Hp)(b:ByteArray->Hp->Prop):Prop:=aV #[] 224 a λc d=>b (ByteArray.mk #[100,114,97,105,110]) d
theorem ZB.o {a b}(c:ZB.v a b):ZB.c a b:=Wa Tryz.func349 (x:=ZB.h) (R0 c)
def YQ.h:Hn:=.q .o2 .aM
def YQ.v (a b:Int)(c:Hp)(d:ByteArray->Hp->Prop):Prop:=aV #[.I a,.I b] 228 c λe f=>d (ByteArray.mk #[116,114,97,110,115,102,101,114]) f
theorem YQ.o {a b c d}(e:YQ.v a b c d):YQ.c a b c d:=Wa Tryz.func350 (x:=YQ.h) (R0 e)
def ZQ.h:Hn:=.q .o2 .aM
def ZQ.v (a:Hp)(b:ByteArray->Hp->Prop):Prop:=aV #[] 230 a λc d=>b (ByteArray.mk #[102,105,108,108]) d
theorem ZQ.o {a b}(c:ZQ.v a b):ZQ.c a b:=Wa Tryz.func351 (x:=ZQ.h) (R0 c)
def Zd.h:Hn:=.q .o2 .aM
def Zd.v (a b:Int)(c:Hp)(d:ByteArray->Hp->Prop):Prop:=aV #[.I a,.I b] 231 c λe f=>d (ByteArray.mk #[99,101,110,116,114,97,108]) f
theorem Zd.o {a b c d}(e:Zd.v a b c d):Zd.c a b c d:=Wa Tryz.func352 (x:=Zd.h) (R0 e)
def ZL.h:Hn:=.q .o2 .aM
def ZL.v (a b:Int)(c:Hp)(d:ByteArray->Hp->Prop):Prop:=aV #[.I a,.I b] 233 c λe f=>d (ByteArray.mk #[103,114,111,119]) f
theorem ZL.o {a b c d}(e:ZL.v a b c d):ZL.c a b c d:=Wa Tryz.func353 (x:=ZL.h) (R0 e)
def Z2.h:Hn:=.q .o2 .aM
def Z2.v (a b:Int)(c:Hp)(d:ByteArray->Hp->Prop):Prop:=aV #[.I a,.I b] 238 c λe f=>d (ByteArray.mk #[112,117,116]) f
theorem Z2.o {a b c d}(e:Z2.v a b c d):Z2.c a b c d:=Wa Tryz.func354 (x:=Z2.h) (R0 e)
def ZN.h:Hn:=.q .o2 .aM
def ZN.v (a:Hp)(b:ByteArray->Hp->Prop):Prop:=aV #[] 241 a λc d=>b (ByteArray.mk #[98,97,99,107]) d
theorem ZN.o {a b}(c:ZN.v a b):ZN.c a b:=Wa Tryz.func355 (x:=ZN.h) (R0 c)
def ZJ.h:Hn:=.q .o2 .aM
def ZJ.v (a b:Int)(c:Hp)(d:ByteArray->Hp->Prop):Prop:=aV #[.I a,.I b] 245 c λe f=>d (ByteArray.mk #[103,105,118,101]) f
theorem ZJ.o {a b c d}(e:ZJ.v a b c d):ZJ.c a b c d:=Wa Tryz.func356 (x:=ZJ.h) (R0 e)
end Go.Proofs
namespace Go.Ar
open Go Go.Vc Go.Proofs
def mM:Option Ph->Value
 | none=>.nilIface
 | some (.take k)=>.iface 218 (.agg #[.int .i64 (k:Int)])
 | some (.cI k w)=>.iface 228 (.agg #[.int .i64 (k:Int),.int .i64 (w:Int)])
 | some (.cJ k w)=>.iface 231 (.agg #[.int .i64 (k:Int),.int .i64 (w:Int)])
 | some (.grow k w)=>.iface 233 (.agg #[.int .i64 (k:Int),.int .i64 (w:Int)])
 | some .fill=>.iface 230 (.agg #[])
 | some (.eD m)=>.iface 220 (.agg #[.int .i64 (m:Int)])
 | some (.find x)=>.iface 222 (.agg #[.int .i64 x])
 | some (.put k x)=>.iface 238 (.agg #[.int .i64 (k:Int),.int .i64 x])
 | some .back=>.iface 241 (.agg #[])
 | some (.dC s a)=>.iface 245 (.agg #[.int .i64 s,.int .i64 a])
 | some .drain=>.iface 224 (.agg #[])
theorem uh (p:Option Ph):iU (mM p):=by
 cases p with
 | none=>exact .inl rfl
 | some p=>cases p<;>exact .inr ⟨_,_,rfl⟩
theorem G3 (p:Option Ph):ky (mM p)=p.isNone:=by
 cases p with
 | none=>rfl
 | some p=>cases p<;>rfl
inductive kM where
 | hd|dD|sp|fM|cN|live
 | ar (k:Nat)
 | ca (k:Nat)
 | hn (k:Nat)
 deriving DecidableEq
structure eH where
 c:gS
 h:Sl
structure dK where
 p:Nat
 hs:Nat
 lm:Nat
 dD:Sl
 fM:Sl
 cN:Sl
 ys:List Lay
 ts:List eH
def yC (L:dK)(c:Cf):List Value:=[.slice L.dD.a L.dD.len L.dD.cap,.int .i64 (c.aF:Int),.int .i64 (c.gW:Int),.int .i64 (c.threads:Int),.int .i64 (c.dA:Int),.int .i64 (c.room:Int),
 .pointer (some ⟨L.hs,0,none⟩),.slice L.fM.a L.fM.len L.fM.cap,.slice L.cN.a L.cN.len L.cN.cap,.map (some L.lm)]
def jv (x:eH×Th):List Value:=[.pointer (some ⟨x.1.c.p,0,none⟩),.slice x.1.h.a x.1.h.len x.1.h.cap,mM x.2.ph]
def gI (ts:List eH)(bQ:List Th):List Value:=(ts.zip bQ).flatMap jv
theorem Ho:∀{ts:List eH} {bQ:List Th},ts.length=bQ.length->(gI ts bQ).length=bQ.length*3
 | [],[],_=>rfl
 | x::ts,h::bQ,e=>by
  have e1:gI (x::ts) (h::bQ)=jv (x,h)++gI ts bQ:=rfl;have a:(jv (x,h)).length=3:=rfl;rw[e1,zO,Ho (by simpa using e),a,zY];omega
 | [],_::_,e=>by simp at e
 | _::_,[],e=>by simp at e
theorem y9:∀{ts:List eH} {bQ:List Th} {i:Nat} {x:eH} {h:Th},ts[i]?=some x->bQ[i]?=some h->∀{d:Nat},d<3->(gI ts bQ)[3*i+d]?=(jv (x,h))[d]?
 | [],_,_,_,_,h1,_,_,_=>by simp at h1
 | _::_,[],_,_,_,_,h2,_,_=>by simp at h2
 | y::ts,g::bQ,0,x,h,h1,h2,d,hd=>by
  have e1:gI (y::ts) (g::bQ)=jv (y,g)++gI ts bQ:=rfl;have a:(jv (y,g)).length=3:=rfl;simp at h1 h2;subst h1;subst h2;rw[e1,ze O];congr 1;omega
 | y::ts,g::bQ,i+1,x,h,h1,h2,d,hd=>by
  have e1:gI (y::ts) (g::bQ)=jv (y,g)++gI ts bQ:=rfl;have a:(jv (y,g)).length=3:=rfl;rw[e1,zr O,a,show 3*(i+1)+d-3=3*i+d by omega];exact y9 (by simpa using h1) (by simpa using h2) hd
theorem yj:∀{ts:List eH} {bQ:List Th} {i:Nat} {x:eH} {h:Th},ts[i]?=some x->bQ[i]?=some h->∀{d:Nat} {v:Value} {x':eH} {h':Th},d<3->jv (x',h')=(jv (x,h)).set d v →
 (gI ts bQ).set (3*i+d) v=gI (ts.set i x') (bQ.set i h')
 | [],_,_,_,_,h1,_,_,_,_,_,_,_=>by simp at h1
 | _::_,[],_,_,_,_,h2,_,_,_,_,_,_=>by simp at h2
 | y::ts,g::bQ,0,x,h,h1,h2,d,v,x',h',hd,e=>by
  have e1:gI (y::ts) (g::bQ)=jv (y,g)++gI ts bQ:=rfl;have e2:gI ((y::ts).set 0 x') ((g::bQ).set 0 h')=jv (x',h')++gI ts bQ:=rfl;have a:(jv (y,g)).length=3:=rfl;simp at h1 h2;subst h1;subst h2;rw[e1,e2,List.set_append_left _ _ O,e,show 3*0+d=d by omega]
 | y::ts,g::bQ,i+1,x,h,h1,h2,d,v,x',h',hd,e=>by
  have e1:gI (y::ts) (g::bQ)=jv (y,g)++gI ts bQ:=rfl;have e2:gI ((y::ts).set (i+1) x') ((g::bQ).set (i+1) h')=jv (y,g)++gI (ts.set i x') (bQ.set i h'):=rfl;have a:(jv (y,g)).length=3:=rfl;rw[e1,e2,List.set_append_right _ _ O,a,show 3*(i+1)+d-3=3*i+d by omega];rw[yj (by simpa using h1) (by simpa using h2) hd e]
def nK (y:Option Lay)(a:Option AR):Hp->Rg->Prop:=λU F=>match y,a with
 | some Y,some A=>dG U F Y A (cK A Y)
 | _,_=>True
def qh (x:Option eH)(h:Option Th)(tb:List bZ)(bud:Nat):Hp->Rg->Prop:=λU F=>match x,h with
 | some x,some h=>eC U F x.c tb bud h.ls
 | _,_=>True
def pS (x:Option eH)(h:Option Th):Hp->Rg->Prop:=λU F=>match x,h with
 | some x,some h=>iq x.h h.bP U F
 | _,_=>True
def CH (H:Hw)(L:dK):kM->Hp->Rg->Prop
 | .hd=>iw L.p (yC L H.cf)
 | .dD=>cV L.dD 3 (fZ H.tb)
 | .sp=>λU F=>dL U F L.hs H.sp
 | .fM=>cV L.fM 1 (fI (L.ys.map (·.p)))
 | .cN=>bR L.cN 3 (gI L.ts H.bQ)
 | .live=>jB L.lm .i64 (.ag 4) H.live
 | .ar k=>nK L.ys[k]? H.bX[k]?
 | .ca t=>qh L.ts[t]? H.bQ[t]? H.tb H.cf.dA
 | .hn t=>pS L.ts[t]? H.bQ[t]?
theorem nK.loc (y:Option Lay)(a:Option AR):dM (nK y a):=by
 intro U σ' F G h hz hs;unfold nK at *;split at h
 ·exact dG.loc _ _ _ _ h hz hs
 ·trivial
theorem qh.loc (x:Option eH)(h:Option Th)(tb:List bZ)(bud:Nat):dM (qh x h tb bud):=by
 intro U σ' F G h hz hs;unfold qh at *;split at h
 ·exact eC.loc _ _ _ _ h hz hs
 ·trivial
theorem pS.loc (x:Option eH)(h:Option Th):dM (pS x h):=by
 intro U σ' F G h hz hs;unfold pS at *;split at h
 ·exact iq.loc _ _ _ _ _ _ h hz hs
 ·trivial
theorem CH.loc {H:Hw}{L:dK}:∀i,dM (CH H L i)
 | .hd=>iw.loc _ _
 | .dD=>cV.loc _ _ _
 | .sp=>dL.loc
 | .fM=>cV.loc _ _ _
 | .cN=>bR.loc _ _ _
 | .live=>jB.loc _ _ _ _
 | .ar k=>nK.loc _ _
 | .ca t=>qh.loc _ _ _ _
 | .hn t=>pS.loc _ _
structure HS (L:dK) (H:Hw):Prop where
 ys:L.ys.length=H.bX.length
 hs:∀Y∈L.ys,Y.hs=L.hs
 ts:L.ts.length=H.bQ.length
 a1:1<=H.bX.length
 a2:H.bX.length<=4
 t1:1<=H.bQ.length
 t2:H.bQ.length<=4
 tb:∀A∈H.bX,A.tb=H.tb
structure HH (U:Hp) (F:Rg) (L:dK) (H:Hw):Prop where
 s:HS L H
 sep:Sep (CH H L) U F
 g:Gl U
 gd:Gd U
 o:iN F
 o2:¬F 1
variable {U:Hp}{F:Rg}{L:dK}{H:Hw}{t k:Nat}
theorem HH.bO (h:HH U F L H){σ':Hp}(e:bK U σ'):HH σ' F L H:=⟨h.s,(Sep.loc CH.loc).bO h.sep e,h.g.bO e,h.gd.bO e,h.o,h.o2⟩
theorem HH.bS (h:HH U F L H){σ':Hp}{T:Rg}(e:Ext T U σ')(hT:∀b,b<U.size->F b->¬T b)(hg:iN T)(hg2:¬T 1):HH σ' F L H:=⟨h.s,(Sep.loc CH.loc).bS h.sep e hT,h.g.bS e hg,h.gd.bS e hg2,h.o,h.o2⟩
theorem Ai {U:Hp}(g:Gd U):1<U.size:=g.lt
theorem HH.mono (h:HH U F L H){G:Rg}(hs:∀b,b<U.size->F b->G b)(o:iN G)(o2:¬G 1):HH U G L H:=⟨h.s,(Sep.loc CH.loc).mono h.sep hs,h.g,h.gd,o,o2⟩
theorem HH.oG (h:HH U F L H):iN (Grow F U):=h.o.grow h.g
theorem HH.qU (h:HH U F L H):¬Grow F U 1:=λa=>by
 rcases a with a|a
 ·exact h.o2 a
 ·have:=Ai h.gd;omega
theorem HH.sub (h:HH U F L H){G:Rg}(hs:∀b,b<U.size->F b->G b)(hg:∀b,G b->F b\/U.size<=b):HH U G L H:=
 h.mono hs (h.oG.sub hg) λa=>h.qU (hg _ a)
theorem HH.vG {v v':Hp}{G T:Rg}{L0:dK}{H0:Hw}(h0:HH U F L0 H0)(h:HH v G L H)(e:Ext T v v')(hT:∀b,T b->U.size<=b)(hG:∀b,b<v.size->G b->¬T b):HH v' G L H:=
 h.bS e hG (h0.oG.sub λb a=>.inr (hT b a)) λa=>h0.qU (.inr (hT _ a))
theorem HH.grown {σ':Hp}{R:Rg}{L':dK}{H':Hw}(h:HH U F L H)(h':HH σ' R L' H')(hr:∀b,b<σ'.size->R b->Grow F U b):HH σ' (Grow F U) L' H':=h'.mono hr h.oG h.qU
theorem HH.cut (h:HH U F L H):HH U (Cut F U) L H:=h.sub (λb a d=>⟨d,a⟩) λb a=>.inl a.1
theorem HH.ly (h:HH U F L H)(i:kM):∃G:Rg,(∀b,G b->F b)/\CH H L i U G/\(∀j,j≠i->∃D:Rg,(∀b,D b->F b)/\(∀b,D b->¬G b)/\CH H L j U D) ∧
 ∀(σ':Hp) (H':Hw) (L':dK) (G':Rg),HS L' H'->(∀j,j≠i->CH H' L' j=CH H L j)->Ext G U σ'->(∀b,G' b->Grow G U b)->CH H' L' i σ' G' →
  Ext F U σ'/\HH σ' (λb=>F b/\b<U.size/\¬G b\/G' b) L' H':=by
 obtain⟨G,p,x,hd,d⟩:=h.sep.jW CH.loc i;refine⟨G,p,x,hd,λσ' H' L' G' u y e s w=>?_⟩;have r:=e.sub p;have m:∀b,(F b/\b<U.size/\¬G b\/G' b)->Grow F U b:=λb a=>by
  rcases a with a|a
  ·exact .inl a.1
  ·exact(s b a).imp (p b) id
 refine⟨r,u,d σ' (CH H' L') G' y e s w (CH.loc _),h.g.bS r h.o,h.gd.bS r h.o2,λb a=>(h.o.grow h.g) b (m b a),λa=>?_⟩;rcases m _ a with h1|h1
 ·exact h.o2 h1
 ·have:=Ai h.gd;omega
theorem _root_.Go.Vc.Sep.tI {L:Type}{C:L->Hp->Rg->Prop}{U:Hp}{F:Rg}(hC:∀i,dM (C i))(h:Sep C U F)(i j:L)(hij:i≠j)(N:Rg)(hN:∀b,b<U.size->F b->¬N b):∃G D:Rg,(∀b,G b->F b)/\(∀b,D b->F b)/\(∀b,G b->¬D b)/\C i U G/\C j U D/\(∀m,m≠i->m≠j->∃E:Rg,(∀b,E b->F b)/\(∀b,E b->¬(G b\/D b))/\C m U E) ∧
 ∀(σ':Hp) (C':L->Hp->Rg->Prop) (G' D':Rg),(∀k,k≠i->k≠j->C' k=C k)->Ext (λb=>G b\/D b) U σ'->(∀b,G' b->(G b\/D b)\/N b)->(∀b,D' b->(G b\/D b)\/N b)->(∀b,G' b->¬D' b)->C' i σ' G'->C' j σ' D'->(∀k,dM (C' k)) →
 Sep C' σ' λb=>F b/\b<U.size/\¬(G b\/D b)\/G' b\/D' b:=by
 obtain⟨ρ,h⟩:=h
 let G:Rg:=λb=>F b/\ρ b=i
 let D:Rg:=λb=>F b/\ρ b=j
 refine⟨G,D,λb a=>a.1,λb a=>a.1,λb w u=>hij (w.2.symm.trans u.2),h i,h j,λm w u=>⟨λb=>F b/\ρ b=m,λb a=>a.1,λb a d=>d.elim (λx=>w (a.2.symm.trans x.2)) λx=>u (a.2.symm.trans x.2),h m⟩,λσ' C' G' D' H e B A hd z J y=>?_⟩
 open Classical in
 refine⟨λb=>if G' b then i else if D' b then j else ρ b,λk=>?_⟩
 by_cases hki:k=i
 ·subst hki;exact(y _).mono z λb _ a=>⟨.inr (.inl a),zC a⟩
 by_cases hkj:k=j
 ·subst hkj;exact(y _).mono J λb _ a=>⟨.inr (.inr a),by show(if G' b then i else if D' b then k else ρ b)=k;rw[zB λd=>hd b d a,zC a]⟩
 ·rw[H k hki hkj];refine hC k _ _ _ _ (h k) e.1 λb a g=>?_;have s:¬(G b\/D b):=by
   rintro(d|d)
   ·exact hki (g.2.symm.trans d.2)
   ·exact hkj (g.2.symm.trans d.2)
  have p:¬G' b:=λd=>(B b d).elim s (hN b a g.1);have r:¬D' b:=λd=>(A b d).elim s (hN b a g.1);exact⟨⟨.inl ⟨g.1,a,s⟩,by show(if G' b then i else if D' b then j else ρ b)=k;rw[zB p,zB r];exact g.2⟩,e.2 b a s⟩
theorem HH.ot (h:HH U F L H)(i j:kM)(hij:i≠j)(N:Rg)(hN:∀b,b<U.size->F b->¬N b)(oN:iN N)(oN2:¬N 1):∃G D:Rg,(∀b,G b->F b)/\(∀b,D b->F b)/\(∀b,G b->¬D b)/\CH H L i U G/\CH H L j U D/\(∀m,m≠i->m≠j->∃E:Rg,(∀b,E b->F b)/\(∀b,E b->¬(G b\/D b))/\CH H L m U E) ∧
 ∀(σ':Hp) (H':Hw) (L':dK) (G' D':Rg),HS L' H'->(∀m,m≠i->m≠j->CH H' L' m=CH H L m)->Ext (λb=>G b\/D b) U σ'->(∀b,G' b->(G b\/D b)\/N b)->(∀b,D' b->(G b\/D b)\/N b)->(∀b,G' b->¬D' b)->CH H' L' i σ' G'->CH H' L' j σ' D' →
  Ext F U σ'/\HH σ' (λb=>F b/\b<U.size/\¬(G b\/D b)\/G' b\/D' b) L' H':=by
 obtain⟨G,D,s,u,hd,K,P,p,r⟩:=h.sep.tI CH.loc i j hij N hN;refine⟨G,D,s,u,hd,K,P,p,λσ' H' L' G' D' J M e A z y C B=>?_⟩;have w:Ext F U σ':=e.sub λb a=>a.elim (s b) (u b);have d:∀b,(F b/\b<U.size/\¬(G b\/D b)\/G' b\/D' b)->F b\/N b:=λb a=>by
  rcases a with a|a|a
  ·exact .inl a.1
  ·exact(A b a).imp (λx=>x.elim (s b) (u b)) id
  ·exact(z b a).imp (λx=>x.elim (s b) (u b)) id
 refine⟨w,J,r σ' (CH H' L') G' D' M e A z y C B CH.loc,h.g.bS w h.o,h.gd.bS w h.o2,λb a=>(d b a).elim (h.o b) (oN b),λa=>?_⟩;exact(d _ a).elim h.o2 oN2
theorem HH.mE (h:HH U F L H):iN (λb=>U.size<=b)/\¬(U.size<=1):=⟨h.oG.sub λb a=>.inr a,λa=>h.qU (.inr a)⟩
theorem HH.oc (h:HH U F L H)(i j:kM)(hij:i≠j):∃G D:Rg,(∀b,G b->F b)/\(∀b,D b->F b)/\(∀b,G b->¬D b)/\CH H L i U G/\CH H L j U D/\(∀m,m≠i->m≠j->∃E:Rg,(∀b,E b->F b)/\(∀b,E b->¬(G b\/D b))/\CH H L m U E) ∧
 ∀(σ':Hp) (H':Hw) (L':dK) (G' D':Rg),HS L' H'->(∀m,m≠i->m≠j->CH H' L' m=CH H L m)->Ext (λb=>G b\/D b) U σ'->(∀b,G' b->(G b\/D b)\/U.size<=b)->(∀b,D' b->(G b\/D b)\/U.size<=b)->(∀b,G' b->¬D' b)->CH H' L' i σ' G'->CH H' L' j σ' D' →
  Ext F U σ'/\HH σ' (λb=>F b/\b<U.size/\¬(G b\/D b)\/G' b\/D' b) L' H':=
 h.ot i j hij _ (λb a _=>O) h.mE.1 h.mE.2
theorem HH.hd (h:HH U F L H):bY U L.p (yC L H.cf):=by obtain⟨G,b,a⟩:=h.sep.get .hd;exact a.2
theorem HH.jE (h:HH U F L H):cV L.dD 3 (fZ H.tb) U F:=by
 obtain⟨G,d,a⟩:=h.sep.get .dD;exact aH.mono a λb _ a=>d b a
theorem HH.pv (h:HH U F L H):L.dD.len=H.tb.length:=by
 have:=h.jE.1;rw[VV]at this;omega
theorem HH.mV (h:HH U F L H):cV L.fM 1 (fI (L.ys.map (·.p))) U F:=by
 obtain⟨G,d,a⟩:=h.sep.get .fM;exact aH.mono a λb _ a=>d b a
theorem HH.mP (h:HH U F L H):L.fM.len=H.bX.length:=by
 have:=h.mV.1;have:=h.s.ys;simp[fI]at *;omega
theorem HH.mX (h:HH U F L H):cV L.cN 3 (gI L.ts H.bQ) U F:=by
 obtain⟨G,d,a⟩:=h.sep.get .cN;exact aH.mono (bR.gQ a) λb _ a=>d b a
theorem HH.lW (h:HH U F L H):L.cN.len=H.bQ.length:=by
 have:=h.mX.1;rw[Ho h.s.ts]at this;omega
theorem HH.kC (h:HH U F L H):dH U L.lm .i64 (.ag 4) H.live:=by obtain⟨G,b,a⟩:=h.sep.get .live;exact a.2
theorem HH.Nh (h:HH U F L H):dL U F L.hs H.sp:=by
 obtain⟨G,d,a⟩:=h.sep.get .sp;exact dM.mono dL.loc a λb _ a=>d b a
theorem HH.ar (h:HH U F L H){A:AR}(hk:H.bX[k]?=some A):∃Y,L.ys[k]?=some Y/\Y.hs=L.hs/\dG U F Y A (cK A Y):=by
 have e:=(cW.1 hk).1;have d:L.ys[k]?=some (L.ys[k]'(by rw[h.s.ys];exact e)):=cT _;obtain⟨G,g,a⟩:=h.sep.get (.ar k);simp only[CH,hk,d,nK]at a;exact⟨_,d,h.s.hs _ (zG d),a.mono λb _ a=>g b a⟩
theorem HH.rA (h:HH U F L H){Y:Lay}(hy:L.ys[k]?=some Y){K:Option Addr->Prop}(hK:K (some ⟨Y.p,0,none⟩)):Ix L.fM.a L.fM.len (k:Int) 1 λa=>fW a U K:=
 A3 h.mV (by simp[hy]) hK
theorem HH.th (h:HH U F L H)(ht:t<H.bQ.length):∃x g,L.ts[t]?=some x/\H.bQ[t]?=some g:=⟨L.ts[t]'(by rw[h.s.ts];exact ht),H.bQ[t],cT _,cT _⟩
theorem GR {s:Sl}{ts:List eH}{bQ:List Th}(h:cV s 3 (gI ts bQ) U F){x:eH}{g:Th}(hx:ts[t]?=some x)(hg:bQ[t]?=some g){d:Nat}(hd:d<3){v:Value}(hv:(jv (x,g))[d]?=some v):∃b o,s.a=some ⟨b,o,none⟩/\cell U ⟨b,o+(3*t+d),none⟩=some v:=
 h.cell ((y9 hx hg hd).trans hv)
theorem Ba {s:Sl}{ts:List eH}{bQ:List Th}(hs:cV s 3 (gI ts bQ) U F)(hl:ts.length=bQ.length){x:eH}{g:Th}(hx:ts[t]?=some x)(hg:bQ[t]?=some g){d:Nat}(hd:d<3){v:Value}(hv:(jv (x,g))[d]?=some v){K:Addr->Prop}
 (hK:∀b o,s.a=some ⟨b,o,none⟩->cell U (Addr.add ⟨b,o+3*t,none⟩ d)=some v->K ⟨b,o+3*t,none⟩):Ix s.a s.len (t:Int) 3 K:=by
 have m:=(cW.1 hg).1;have e:=hs.1;rw[Ho hl]at e;obtain⟨b,o,i,j⟩:=GR hs hx hg hd hv;rw[i];refine ix O O ?_;rw[add_lit,show o+(t:Int).toNat*3=o+3*t by omega];exact hK b o i (by rw[add_lit,show o+3*t+d=o+(3*t+d) by omega];exact j)
theorem HH.Fi (h:HH U F L H){x:eH}{g:Th}(hx:L.ts[t]?=some x)(hg:H.bQ[t]?=some g){d:Nat}(hd:d<3){v:Value}(hv:(jv (x,g))[d]?=some v){K:Addr->Prop}
 (hK:∀b o,cell U (Addr.add ⟨b,o+3*t,none⟩ d)=some v->K ⟨b,o+3*t,none⟩):Ix L.cN.a L.cN.len (t:Int) 3 K:=
 Ba h.mX h.s.ts hx hg hd hv λb o _ e=>hK b o e
theorem HH.tS (h:HH U F L H){x:eH}{g:Th}(hx:L.ts[t]?=some x)(hg:H.bQ[t]?=some g){K:Sl->Prop}(hK:K x.h):Ix L.cN.a L.cN.len (t:Int) 3 λa=>jm (a.add 1) U K:=
 h.Fi hx hg (d:=1) O rfl λb o e=>nH e hK
theorem HH.tR (h:HH U F L H){x:eH}{g:Th}(hx:L.ts[t]?=some x)(hg:H.bQ[t]?=some g){K:Value->Prop}(hK:K (mM g.ph)):Ix L.cN.a L.cN.len (t:Int) 3 λa=>xS (a.add 2) U K:=
 h.Fi hx hg (d:=2) O rfl λb o e=>⟨_,e,hK⟩
theorem HS.dT (h:HS L H){bQ:List Th}{ts:List eH}(e:ts.length=bQ.length)(e2:bQ.length=H.bQ.length):HS {L with ts:=ts} {H with bQ:=bQ}:=⟨h.ys,h.hs,e,h.a1,h.a2,by rw[e2];exact h.t1,by rw[e2];exact h.t2,h.tb⟩
theorem HS.cC (h:HS L H){A:AR}{sp:Sp}(e:A.tb=H.tb):HS L {H.cC k A with sp:=sp}:=⟨by simp[Hw.cC,h.ys],h.hs,h.ts,by simp[Hw.cC,h.a1],by simp[Hw.cC,h.a2],h.t1,h.t2,λB a=>by
 rcases yo a with h1|h1
 ·exact h.tb B h1
 ·subst h1;exact e⟩
theorem C1 {A:AR}:∀j,j≠kM.ar k->CH (H.cC k A) L j=CH H L j:=by
 intro j hj;cases j<;>try rfl
 rename_i m;have a:m≠k:=λe=>hj (by rw[e]);simp only[CH,Hw.cC,zk (Ne.symm a)]
theorem FX {sp:Sp}:∀j,j≠kM.sp->CH {H with sp:=sp} L j=CH H L j:=by
 intro j hj;cases j<;>first|rfl|exact absurd rfl hj
theorem IS {l:List (Int×Bk)}:∀j,j≠kM.live->CH {H with live:=l} L j=CH H L j:=by
 intro j hj;cases j<;>first|rfl|exact absurd rfl hj
theorem HH.wF (h:HH U F L H){A:AR}(hk:H.bX[k]?=some A):∃(Y:Lay) (G:Rg),L.ys[k]?=some Y/\Y.hs=L.hs/\(∀b,G b->F b)/\dG U G Y A (cK A Y)/\∀(σ':Hp) (A':AR) (G':Rg),A'.tb=A.tb->Ext G U σ'->(∀b,G' b->Grow G U b)->dG σ' G' Y A' (cK A' Y) →
 Ext F U σ'/\HH σ' (λb=>F b/\b<U.size/\¬G b\/G' b) L (H.cC k A'):=by
 have g:=(cW.1 hk).1;have a:L.ys[k]?=some (L.ys[k]'(by rw[h.s.ys];exact g)):=cT _;generalize (L.ys[k]'(by rw[h.s.ys];exact g))=Y at a;obtain⟨G,r,j,_,d⟩:=h.ly (.ar k);simp only[CH,hk,a,nK]at j;refine⟨Y,G,a,h.s.hs _ (zG a),r,j,λσ' A' G' i e m p=>?_⟩;refine d σ' (H.cC k A') L G' (h.s.cC (sp:=H.sp) (i.trans (h.s.tb A (zG hk)))) C1 e m ?_;simp only[CH,Hw.cC,a,zL g,nK];exact p
theorem HH.ox (h:HH U F L H){A:AR}(hk:H.bX[k]?=some A):∃(Y:Lay) (G D:Rg),L.ys[k]?=some Y/\Y.hs=L.hs/\W2 U G D Y A (cK A Y) H.sp/\∀(σ':Hp) (A':AR) (sp':Sp) (G' D':Rg),A'.tb=A.tb->Ext (iP G D) U σ'->Fits U G D G' D'->W2 σ' G' D' Y A' (cK A' Y) sp' →
 Ext F U σ'/\HH σ' (Grow F U) L {H.cC k A' with sp:=sp'}:=by
 have J:=(cW.1 hk).1;have i:L.ys[k]?=some (L.ys[k]'(by rw[h.s.ys];exact J)):=cT _;generalize (L.ys[k]'(by rw[h.s.ys];exact J))=Y at i;obtain⟨G,D,K,E,hd,N,C,_,w⟩:=h.oc (.ar k) .sp (by intro e;cases e);simp only[CH,hk,i,nK]at N;have C:dL U D L.hs H.sp:=C;have j:=h.s.hs _ (zG i);refine⟨Y,G,D,i,j,⟨N,by rw[j];exact C,hd,h.g,h.o.sub K,h.o.sub E⟩,λσ' A' sp' G' D' B e M z=>?_⟩;have u:∀b,G' b->(G b\/D b)\/U.size<=b:=λb x=>(M.1 b x).imp .inl id;have r:∀b,D' b->(G b\/D b)\/U.size<=b:=λb x=>.inl (.inr (M.2 b x));have R:∀m,m≠kM.ar k->m≠kM.sp->CH {H.cC k A' with sp:=sp'} L m=CH H L m:=λm y Q=>
  (C1 (H:={H with sp:=sp'}) (L:=L) (A:=A') m y).trans (FX m Q)
 have S:CH {H.cC k A' with sp:=sp'} L (.ar k) σ' G':=by
  simp only[CH,Hw.cC,i,zL J,nK];exact z.a
 have P:CH {H.cC k A' with sp:=sp'} L .sp σ' D':=by
  show dL σ' D' L.hs sp';rw[←j];exact z.s
 obtain⟨e1,y⟩:=w σ' {H.cC k A' with sp:=sp'} L G' D' (h.s.cC (B.trans (h.s.tb A (zG hk)))) R e u r z.d S P;refine⟨e1,h.grown y λb x p=>?_⟩;rcases p with p|p|p
 ·exact .inl p.1
 ·exact(u b p).imp (λi=>i.elim (K b) (E b)) id
 ·exact(r b p).imp (λi=>i.elim (K b) (E b)) id
theorem HH.xh (h:HH U F L H):∃G:Rg,(∀b,G b->F b)/\dL U G L.hs H.sp/\iN G/\∀(σ':Hp) (sp':Sp),Ext G U σ'->dL σ' (Grow G U) L.hs sp'->Ext F U σ'/\HH σ' (Grow F U) L {H with sp:=sp'}:=by
 obtain⟨G,g,m,_,a⟩:=h.ly .sp;refine⟨G,g,m,h.o.sub g,λσ' sp' e hs=>?_⟩;obtain⟨e1,j⟩:=a σ' {H with sp:=sp'} L (Grow G U) ⟨h.s.ys,h.s.hs,h.s.ts,h.s.a1,h.s.a2,h.s.t1,h.s.t2,h.s.tb⟩ FX e (λb i=>i) hs;exact⟨e1,h.grown j λb i d=>by
  rcases d with d|d
  ·exact .inl d.1
  ·exact d.imp (g b) id⟩
theorem HH.rk (h:HH U F L H):F L.lm/\∀(σ':Hp) (l:List (Int×Bk)),Qq U σ' L.lm->dH σ' L.lm .i64 (.ag 4) l->Ext F U σ'/\HH σ' F L {H with live:=l}:=by
 obtain⟨G,i,e,_,a⟩:=h.ly .live;have e:jB L.lm .i64 (.ag 4) H.live U G:=e;refine⟨i _ e.1,λσ' l p j=>?_⟩;obtain⟨e1,m⟩:=a σ' {H with live:=l} L G ⟨h.s.ys,h.s.hs,h.s.ts,h.s.a1,h.s.a2,h.s.t1,h.s.t2,h.s.tb⟩ IS (p.ext.sub λb g=>by rw[g];exact e.1) (λb g=>.inl g) ⟨e.1,j⟩;exact⟨e1,m.mono (λb _ d=>by
  rcases d with d|d
  ·exact d.1
  ·exact i b d) h.o h.o2⟩
theorem HH.po (h:HH U F L H){x:eH}{g:Th}(hx:L.ts[t]?=some x)(hg:H.bQ[t]?=some g):∃G:Rg,(∀b,G b->F b)/\eC U G x.c H.tb H.cf.dA g.ls/\∀(σ':Hp) (ls:List Li) (Y':gS) (G':Rg),Y'.p=x.c.p->Ext G U σ'->(∀b,G' b->Grow G U b)->eC σ' G' Y' H.tb H.cf.dA ls →
 Ext F U σ'/\HH σ' (λb=>F b/\b<U.size/\¬G b\/G' b) {L with ts:=L.ts.set t {x with c:=Y'}} {H with bQ:=H.bQ.set t {g with ls:=ls}}:=by
 have r:=(cW.1 hx).1;have i:=(cW.1 hg).1;obtain⟨G,A,z,_,a⟩:=h.ly (.ca t);simp only[CH,hx,hg,qh]at z;refine⟨G,A,z,λσ' ls Y' G' D e y B=>?_⟩;have w:gI (L.ts.set t {x with c:=Y'}) (H.bQ.set t {g with ls:=ls})=gI L.ts H.bQ:=by
  have C:(gI L.ts H.bQ).set (3*t+0) (.pointer (some ⟨x.c.p,0,none⟩))=gI L.ts H.bQ:=Z9 (y9 hx hg O);rw[←C];exact(yj hx hg (d:=0) O (by simp[jv,D])).symm
 refine a σ' {H with bQ:=H.bQ.set t {g with ls:=ls}} {L with ts:=L.ts.set t {x with c:=Y'}} G' (h.s.dT (by simp[h.s.ts]) aA) (λj E=>?_) e y ?_
 ·cases j<;>try rfl
  ·simp only[CH,w]
  ·rename_i m;have u:m≠t:=λe=>E (by rw[e]);simp only[CH,zk (Ne.symm u)]
  ·rename_i m;by_cases u:m=t
   ·subst u;simp only[CH,zL r,zL i,hx,hg];rfl
   ·simp only[CH,zk (Ne.symm u)]
 ·simp only[CH,zL r,zL i,qh];exact B
theorem HH.rr (h:HH U F L H){x:eH}{g:Th}(hx:L.ts[t]?=some x)(hg:H.bQ[t]?=some g)(N:Rg)(hN:∀b,b<U.size->F b->¬N b)(oN:iN N)(oN2:¬N 1):∃G D:Rg,(∀b,G b->F b)/\(∀b,D b->F b)/\(∀b,G b->¬D b)/\iq x.h g.bP U G/\bR L.cN 3 (gI L.ts H.bQ) U D/\(∃E:Rg,(∀b,E b->¬G b)/\(∀b,E b->¬D b)/\iw L.p (yC L H.cf) U E) ∧
 ∀(σ':Hp) (s:Sl) (bs:List Bt) (G' D':Rg),Ext (λb=>G b\/D b) U σ'->(∀b,G' b->(G b\/D b)\/N b)->(∀b,D' b->(G b\/D b)\/N b)->(∀b,G' b->¬D' b)->iq s bs σ' G'->bR L.cN 3 ((gI L.ts H.bQ).set (3*t+1) (.slice s.a s.len s.cap)) σ' D' →
  Ext F U σ'/\HH σ' (λb=>F b/\b<U.size/\¬(G b\/D b)\/G' b\/D' b) {L with ts:=L.ts.set t {x with h:=s}} {H with bQ:=H.bQ.set t {g with bP:=bs}}:=by
 have j:=(cW.1 hx).1;have u:=(cW.1 hg).1;obtain⟨G,D,X,S,hd,P,A,i,r⟩:=h.ot (.hn t) .cN (by intro e;cases e) N hN oN oN2;simp only[CH,hx,hg,pS]at P;have A:bR L.cN 3 (gI L.ts H.bQ) U D:=A;obtain⟨E,_,M,z⟩:=i .hd (by intro e;cases e) (by intro e;cases e);refine⟨G,D,X,S,hd,P,A,⟨E,λb y hx=>M b y (.inl hx),λb y hx=>M b y (.inr hx),z⟩,λσ' s bs G' D' e K J C R W=>?_⟩;have B:gI (L.ts.set t {x with h:=s}) (H.bQ.set t {g with bP:=bs})=(gI L.ts H.bQ).set (3*t+1) (.slice s.a s.len s.cap):=(yj hx hg (d:=1) O (by simp[jv])).symm;refine r σ' {H with bQ:=H.bQ.set t {g with bP:=bs}} {L with ts:=L.ts.set t {x with h:=s}} G' D' (h.s.dT (by simp[h.s.ts]) aA) (λm Q V=>?_) e K J C ?_ ?_
 ·cases m<;>first|rfl|exact absurd rfl V|skip
  ·rename_i m;by_cases w:m=t
   ·subst w;simp only[CH,zL j,zL u,hx,hg];rfl
   ·simp only[CH,zk (Ne.symm w)]
  ·rename_i m;have w:m≠t:=λe=>Q (by rw[e]);simp only[CH,zk (Ne.symm w)]
 ·simp only[CH,zL j,zL u,pS];exact R
 ·simp only[CH,B];exact W
theorem HH.rE (h:HH U F L H){x:eH}{g:Th}(hx:L.ts[t]?=some x)(hg:H.bQ[t]?=some g)(p:Option Ph){K:aP}(hK:∀σ',Ext F U σ'->HH σ' F L {H with bQ:=H.bQ.set t {g with ph:=p}}->K σ') :
 Ix L.cN.a L.cN.len (t:Int) 3 λa=>And (iU (mM p)) (dX (a.add 2) (mM p) U K):=by
 have E:=(cW.1 hx).1;have u:=(cW.1 hg).1;have A:=h.lW;obtain⟨G,B,w,_,r⟩:=h.ly .cN;have w:bR L.cN 3 (gI L.ts H.bQ) U G:=w;have C:=Ho h.s.ts;obtain⟨b,y⟩:∃b,L.cN.a=some ⟨b,0,none⟩:=by
  rcases w.2 with⟨h0,_⟩|⟨b,_,_,ha,_⟩
  ·omega
  ·exact⟨b,ha⟩
 rw[y];refine ix O O ⟨uh p,?_⟩;refine w.st (j:=3*t+2) O (λN i=>by rw[y]at i;cases i;rw[add_lit,add_lit];congr 1;omega) λσ' e J=>?_;have z:gI L.ts (H.bQ.set t {g with ph:=p})=(gI L.ts H.bQ).set (3*t+2) (mM p):=by
  have:=yj hx hg (d:=2) (v:=mM p) (x':=x) (h':={g with ph:=p}) O (by simp[jv]);rw[this,Z9 hx]
 obtain⟨e1,D⟩:=r σ' {H with bQ:=H.bQ.set t {g with ph:=p}} L G (h.s.dT (ts:=L.ts) (by simp[h.s.ts]) aA) (λj M=>by
  cases j<;>first|rfl|exact absurd rfl M|skip
  ·rename_i m;by_cases hm:t=m
   ·subst hm;simp only[CH,zL u,hx,hg];rfl
   ·simp only[CH,zk hm]
  ·rename_i m;by_cases hm:t=m
   ·subst hm;simp only[CH,zL u,hx,hg];rfl
   ·simp only[CH,zk hm]) e (λb y=>.inl y) (by simp only[CH,z];exact J)
 exact hK σ' e1 (D.mono (λb _ hx=>by
  rcases hx with hx|hx
  ·exact hx.1
  ·exact B b hx) h.o h.o2)
end Go.Ar
namespace Go.Ar
open Go Go.Vc Go.Proofs
open Go.Bu (Zb QB Y8)
variable {U:Hp}{F H:Rg}{p hs:Nat}{A:AR}{sp:Sp}{Y:Lay}{T:Nat->Hp->Rg->Prop}
end Go.Ar
namespace Go.Ar
open Go Go.Vc Go.Proofs
variable {U:Hp}{F:Rg}{L:dK}{H:Hw}{t k:Nat}
theorem VJ (h:HH U F L H){R:aO}(hR:R true U):Xf.c (aW L.p) U R:=by
 refine Xf.o ?_;unfold Xf.v;have b:=h.lW;have a:=h.s.t1;refine bW.intro (cD rfl (aG (h.hd.rS rfl ?_)));rw[zJ aC];exact hR
theorem yT (h:HH U F L H)(x:Int){R:aO}(hR:R (decide (0<=x/\x<(H.bQ.length:Int))) U):XU.c (aW L.p) x U R:=by
 refine XU.o ?_;unfold XU.v;have b:=h.lW;refine bW.intro (cQ (λa=>aG (h.hd.rS rfl ?_)) λa=>?_)
 ·have:decide (x<((L.cN.len:Nat):Int))=decide (0<=x/\x<(H.bQ.length:Int)):=by rw[decide_eq_decide,b];omega
  simp only[this];exact hR
 ·rw[zM O]at hR;exact hR
theorem DL (h:HH U F L H)(t:Nat){R:aN}(hR:R ((H.own t:Nat):Int) U):Zo.c (aW L.p) (t:Int) U R:=by
 refine Zo.o ?_;unfold Zo.v;have a:=h.mP;have b:=h.s.a1;refine aG (h.hd.rS rfl (nz aC ?_));have:((t:Int).tmod ((L.fM.len:Nat):Int))=((H.own t:Nat):Int):=by rw[Qz O,a];unfold Hw.own;omega
 simp only[this];exact hR
theorem G0 (h:HH U F L H)(x:Int)(hx9:x<=9223372036854775807){R:aN}(hR:∀σ',bK U σ'->R (XN H.bX x) σ'):X5.c (aW L.p) x U R:=by
 refine X5.o ?_;unfold X5.v;refine nw (cs:=[.int .i64 x]) λv hz e P=>P.uF rfl ?_;have Q:=h.bO e;by_cases hx:x<0
 ·have:=hR v e;unfold XN at this;rw[zC hx]at this;exact lQ hx this
 refine fT hx (aG (Q.hd.rS rfl ?_));have hl:=h.mP;have Z:=h.s.a2;refine Wk.o ?_;unfold Wk.v;refine Z0 (a:=bN) (λ(z:Int) w=>∃i:Nat,z=(i:Int)/\i<=H.bX.length/\bK U w/\HH w F L H/\bY w U.size [.int .i64 x]/\∀j A,j<i->H.bX[j]?=some A->GX A (x/256)=false) (λz _=>H.bX.length-z.toNat) ⟨0,rfl,O,e,Q,P,λj A g=>O⟩ ?_;rintro z w ⟨i,rfl,hi,D,N,u,b⟩;refine cQ (λE=>?_) λK=>?_
 ·simp only at E;have G:i<H.bX.length:=by omega
  have d:H.bX[i]?=some H.bX[i]:=cT G;generalize H.bX[i]=A at d;obtain⟨Y,W,S,M⟩:=N.ar d;refine N.rA W (pV (all := #[.pointer (some ⟨Y.p,0,none⟩),.pointer (some ⟨U.size,0,none⟩)]) (by kernel_rfl) aA ?_);refine YR.o ?_;unfold YR.v;refine u.uF rfl (nz aB (ar (by rw[Yr O];omega) (by rw[Yr O];omega) ?_));rw[Yr O];refine N7 M (x/256) (cO (λV=>?_) λX=>?_)
  ·have:XN H.bX x=(i:Int):=by
    unfold XN;rw[zB hx];have:H.bX.findIdx? (λA=>GX A (x/256))=some i:=by
     obtain⟨C,rfl⟩:=cW.1 d;exact ng.2 ⟨C,V,λj g=>by rw[b j _ g (cT O)];simp⟩
    rw[this]
   have r:=hR w D;rw[this]at r;exact r
  ·exact cP (m:=i+1) O O ⟨⟨i+1,rfl,O,D,N,u,λj B g y=>by
    by_cases e:j=i
    ·subst e;rw[d]at y;cases y;exact X
    ·exact b j B O y⟩,O⟩
 ·have J:i=H.bX.length:=by simp only at K;omega
  subst J;have:XN H.bX x = -1:=by
   unfold XN;rw[zB hx];have:H.bX.findIdx? (λA=>GX A (x/256))=none:=by
    rw[tY];intro A d;obtain⟨j,g⟩:=zQ d;exact b j A (cW.1 g).1 g
   rw[this]
  have r:=hR w D;rw[this]at r;exact r
theorem D7 (h:HH U F L H){R:Int->Int->Int->Int->Int->Hp->Prop}(hR:∀σ',bK U σ'->R (H.cf.aF:Int) (H.cf.gW:Int) (H.cf.threads:Int) (H.cf.dA:Int) (H.cf.room:Int) σ'):XZ.c (aW L.p) U R:=by
 refine XZ.o ?_;unfold XZ.v;refine nw (cs:=[.int .i64 0,.int .i64 0,.int .i64 0,.int .i64 0,.int .i64 0]) λv u e j=>VJ (h.bO e) (cB rfl ?_);have hd:=(h.bO e).hd;refine aG (hd.eY rfl (hd.eY rfl (hd.eY rfl (hd.eY rfl (hd.eY rfl ?_)))));refine j.s1 aA λm o1 i=>i.s1 aA λr o2 b=>b.s1 aA λv3 o3 d=>d.s1 aA λs o4 b4=>b4.s1 aA λg o5 a=>?_;refine a.rI rfl (a.rI rfl (a.rI rfl (a.rI rfl (a.rI rfl (hR g ?_)))));exact((((e.only o1 (.inr (zD _))).only o2 (.inr (zD _))).only o3 (.inr (zD _))).only o4 (.inr (zD _))).only o5 (.inr (zD _))
theorem EO (h:HH U F L H){R:Option Addr->Hp->Prop}(hR:R (some ⟨L.hs,0,none⟩) U):Yy.c (aW L.p) U R:=by
 refine Yy.o ?_;unfold Yy.v;exact VJ h (cB rfl (aG (h.hd.rP rfl hR)))
theorem O7 (h:HH U F L H)(x:Int)(hx:x<=9223372036854775807){R:Int->Int->Hp->Prop}(hR:∀σ',bK U σ'->R (if eR H.sp x=0 then H.sp.wd (x.toNat/8)else 0) (eR H.sp x) σ'):YL.c (aW L.p) x U R:=by
 refine YL.o ?_;unfold YL.v;exact EO h (S6 h.Nh h.g x hx hR)
theorem PM (h:HH U F L H)(gc:Gc U)(x v:Int)(hx:x<=9223372036854775807){R:aN}(hR:∀σ',Ext F U σ'->HH σ' (Grow F U) L {H with sp:=ZX H.sp x v}->R (eR H.sp x) σ'):W9.c (aW L.p) x v U R:=by
 refine W9.o ?_;unfold W9.v;obtain⟨G,m,j,d,a⟩:=h.xh;refine EO h (RB j h.g gc x hx v λσ' e b=>?_);obtain⟨e1,i⟩:=a σ' _ e b;exact hR σ' e1 i
theorem Sg (h:HH U F L H)(x:Int){R:Int->Int->Hp->Prop}(hR:∀σ',bK U σ'->R ((bV H.live x).elim 0 λb=>b.2.1) (if(bV H.live x).isSome then 0 else 8) σ'):Xv.c (aW L.p) x U R:=by
 refine Xv.o ?_;unfold Xv.v;refine VJ h (cB rfl (aG (h.hd.rM rfl ⟨_,h.kC,?_⟩)));refine nw (cs:=[.int .i64 0,.int .i64 0,.int .i64 0,.int .i64 0]) λv w e i=>?_;refine i.s1 aA λs o1 d=>d.s1 aA λu o2 j=>j.s1 aA λv3 o3 m=>m.s1 aA λv4 o4 b4=>?_;have g:bK U v4:=(((e.only o1 (.inr (zD _))).only o2 (.inr (zD _))).only o3 (.inr (zD _))).only o4 (.inr (zD _));have a:=hR v4 g;cases hm:bV H.live x with
 | none=>
  rw[hm]at a;exact cD rfl a
 | some b=>
  rw[hm]at a;refine cB rfl (b4.rI rfl ?_);have r:((bV H.live x).getD ((0,0,0,0):Bk)).2.1=b.2.1:=by rw[hm];rfl
  rw[r];exact a
theorem VS (h:HH U F L H)(ht:t<H.bQ.length){R:Value->Hp->Prop}(hR:R (mM (jO H t)) U):WV.c (aW L.p) (t:Int) U R:=by
 refine WV.o ?_;unfold WV.v;obtain⟨x,g,d,a⟩:=h.th ht;refine aG (h.hd.rS rfl (h.tS d a ?_));obtain⟨G,i,b⟩:=h.sep.get (.hn t);simp only[CH,d,a,pS]at b;have e:=b.len;unfold jO at hR;rw[a]at hR;simp only at hR;by_cases h0:g.bP=[]
 ·rw[zC h0]at hR;exact cD (by rw[e,h0];rfl) hR
 ·rw[zB h0]at hR;have:=pX.2 h0;exact cB (by simp only[mJ];omega) hR
theorem Bm (h:HH U F L H)(x size cls:Int)(hx9:x<=9223372036854775807){R:Value->Int->Int->Hp->Prop}(hR:∀σ',Ext F U σ'->HH σ' F L (Vt H x size cls)->R .nilIface x 0 σ'):YN.c (aW L.p) x size cls U R:=by
 refine YN.o ?_;unfold YN.v;refine nw (cs:=[.int .i64 0,.int .i64 0]) λv E e a=>?_;have m:=h.cut.bO e;refine⟨λu=>bK v u,Ext.refl _ _,aG ⟨some L.lm,λu A=>by rw[add_lit,((m.bO A).hd).cell];rfl,?_⟩⟩;refine G0 m x hx9 λC e1=>⟨e1,?_⟩;have s:=m.bO e1;obtain⟨z,d⟩:=s.rk;refine⟨L.lm,_,rfl,s.kC,λg o2 r=>?_⟩;obtain⟨e2,w⟩:=d g _ o2 r;have j:bY g U.size [.int .i64 0,.int .i64 0]:=Ws o2 (e1.bT a id) (by have:=z.2;omega);refine j.s1 aA λv3 o3 y=>y.s1 aA λv4 o4 b4=>b4.rI rfl (b4.rI rfl (hR v4 ?_ ?_))
 ·exact(((bK.to (e.trans e1)).trans (e2.sub λb a=>a.1)).only o3 (.inr (zD _))).only o4 (.inr (zD _))
 ·have i:Ext (· = U.size) g v4:=o3.ext.trans o4.ext;have B:=h.vG w i (λb a=>O) (λb _ a D=>by have:=a.2;omega);exact B.mono (λb _ a=>a.1) h.o h.o2
theorem GB (h:HH U F L H)(ht:t<H.bQ.length)(k:Nat){s:Sl}{xs:List Int}{X:Rg}(hs:cV s 1 (Wo xs) U X)(hc:s.len<=s.cap)(hxs:xs≠[])(hX:∀b,b<U.size->X b->¬F b)(oX:iN X)(oX2:¬X 1)(hlen:∀g,H.bQ[t]?=some g->g.bP.length<=1000){R:aP}
 (hR:∀σ' ts',Ext F U σ'->HH σ' (λb=>Grow F U b\/X b) {L with ts:=ts'} (QI H t k xs)->R σ'):Yi.c (aW L.p) (t:Int) (k:Int) s U R:=by
 refine Yi.o ?_;unfold Yi.v;obtain⟨x,g,r,Y⟩:=h.th ht;have htl:=Ho h.s.ts;have hrl:=h.lW;have hlen:=hlen g Y;obtain⟨G,D,hG,Q,hd,hB,hr,⟨E,hE1,hE2,hhd⟩,Z⟩:=h.cut.rr r Y (λb=>U.size<=b\/b<U.size/\X b) (λb m hf hn=>by
  rcases hn with hn|hn
  ·omega
  ·exact hX b m hn.2 hf.1) (λb m=>m.elim (h.mE.1 b) λm=>oX b m.2) (λm=>m.elim h.mE.2 λm=>oX2 m.2)
 obtain⟨P,Dn,A,N,C,hj,S⟩:=hB;have B:∀u,Ext G U u->bY u L.p (yC L H.cf):=λu z=>((iw.loc _ _).bS hhd z λb _ m r=>hE1 b m r).2;have ab:∀u,Ext G U u->bR L.cN 3 (gI L.ts H.bQ) u D:=λu z=>aI.bS hr z λb _ m r=>hd b r m;refine⟨λu=>Ext G U u,Ext.refl _ _,aG ⟨L.cN,λu z=>by rw[add_lit,(B u z).cell];rfl,aG ⟨L.cN,λu z=>by rw[add_lit,(B u z).cell];rfl,?_⟩⟩⟩;refine Ba (bR.gQ hr) h.s.ts r Y (d:=1) O rfl λb o ha _=>⟨x.h,λu z=>?_,?_⟩
 ·obtain⟨b',o',W,hc'⟩:=GR (bR.gQ (ab u z)) r Y (d:=1) O rfl;rw[ha]at W;cases W;rw[add_lit,show o+3*t+1=o+(3*t+1) by omega];exact hc'
 refine nw (cs:=[.int .i64 (k:Int),.slice s.a s.len s.cap]) λv hz e m=>⟨bK.to e,?_⟩;have J:=(dI.loc _ _ _).bO ((dI.loc _ _ _).cut A) e;have V:=(ku.loc _ _).bO ((ku.loc _ _).cut N) e;have hs1:=aH.bO (aH.cut hs) e;have hpl:x.h.len=P.length:=by have:=A.1;rw[Kz]at this;omega
 have hpg:P.length=g.bP.length:=N.1;refine J.app (ys:=nY (k,s)) rfl rfl ?_ (λv hv=>US (l:=[(k,s)]) v (by simpa[fD]using hv)) ?_ ?_ mO λs' v2 hl2 e2 hr2=>?_
 ·intro j u z;rw[add_lit,zH,m.cell];exact z
 ·simp only;have:(x.h.len+1)*32<=1001*32:=l0 O O;omega
 ·simp only;omega
 have hs2:=e2.1;have eG:Ext G U v2:=(bK.to e).trans (e2.sub λb m=>m.1.1);refine⟨eG,?_⟩;obtain⟨b0,aa⟩:∃b,L.cN.a=some ⟨b,0,none⟩:=by
  rcases hr.2 with⟨h0,_⟩|⟨b,_,_,ha,_⟩
  ·omega
  ·exact⟨b,ha⟩
 rw[aa];refine ix O O ?_;refine(ab v2 eG).st (j:=3*t+1) O (λb' ac=>by rw[aa]at ac;cases ac;rw[add_lit,add_lit];congr 1;omega) λσ' e3 hr3=>?_;have hs3:=e3.1;have e03:Ext (λb=>G b\/D b) U σ':=(eG.sub λb m=>.inl m).trans (e3.sub λb m=>.inr m);have hr4:=(dI.loc _ _ _).bS ((dI.loc _ _ _).cut hr2) e3 λb _ m r=>by
  rcases m.1 with h1|h1
  ·exact hd b h1.1.1 r
  ·have:=(Q b r).2;omega
 have hB4:=(ku.loc _ _).bS ((ku.loc _ _).bS V e2 λb _ m r=>r.1.2 m.1) e3 λb _ m r=>hd b (C b m.1) r;have hs4:=aH.bS (aH.bS hs1 e2 λb m r w=>hX b r.2 r.1 (hG b w.1.1).1) e3 λb _ r w=>hX b r.2 r.1 (Q b w).1;have hBt:iq s' (g.bP++[(k,xs)]) σ' (λb=>G b/\b<U.size\/b<U.size/\X b\/v.size<=b/\b<v2.size):=by
  refine⟨P++[(k,s)],λb=>Dn b/\b<U.size\/b<U.size/\X b,?_,⟨by simp[hpg],λi p y M w=>?_⟩,λb m=>?_,hj.snoc N S hs hxs (λb m r w=>hX b m w (hG b (C b r)).1) k,λy w=>?_⟩
  ·rw[UK];have:fD [(k,s)]=nY (k,s):=by simp[fD]
   rw[this];refine(dI.loc _ _ _).mono hr4 λq _ K=>?_;rcases K.1 with h1|h1
   ·exact⟨.inl ⟨h1.1.1,h1.2⟩,λr=>by
     rcases r with r|r
     ·exact h1.1.2 r.1
     ·exact hX q r.1 r.2 (hG q h1.1.1).1⟩
   ·exact⟨.inr (.inr ⟨h1,K.2⟩),λr=>by
     rcases r with r|r<;>omega⟩
  ·rcases kg i P.length with hi|hi
   ·rw[ze hi]at M;rw[ze O]at w;obtain⟨a1,a2,a3⟩:=hB4.2 i p y M w;exact⟨a1,aH.mono a2 λq _ K=>.inl K,a3⟩
   ·rw[zr hi]at M;rw[zr O]at w;have hi0:i-P.length=0:=by
     have:=(cW.1 M).1;simp at this;omega
    rw[hi0]at M;rw[show i-g.bP.length=0 by omega]at w;simp at M w;subst M;subst w;exact⟨rfl,aH.mono hs4 λq _ K=>.inr ⟨K.2,K.1⟩,hc⟩
  ·rcases m with m|m
   ·exact .inl ⟨C b m.1,m.2⟩
   ·exact .inr (.inl m)
  ·rcases zK.1 w with h1|h1
   ·exact S y h1
   ·rw[zN]at h1;subst h1;exact hxs
 obtain⟨eF,h4⟩:=Z σ' s' (g.bP++[(k,xs)]) (λb=>G b/\b<U.size\/b<U.size/\X b\/v.size<=b/\b<v2.size) D e03 (λb m=>by
  rcases m with m|m|m
  ·exact .inl (.inl m.1)
  ·exact .inr (.inr m)
  ·exact .inr (.inl O)) (λb m=>.inl (.inr m)) (λb m r=>by
  have:=(Q b r).2;rcases m with m|m|m
  ·exact hd b m.1 r
  ·exact hX b m.1 m.2 (Q b r).1
  ·omega) hBt hr3
 refine hR σ' (L.ts.set t {x with h:=s'}) (eF.sub λb m=>m.1) ?_;have e5:QI H t k xs = {H with bQ:=H.bQ.set t {g with bP:=g.bP++[(k,xs)]}}:=by
  unfold QI Hw.dT
  congr 1
  exact KP Y
 rw[e5];refine h4.mono (λb _ m=>?_) (λb (m:Grow F U b\/X b)=>m.elim (h.oG b) (oX b)) λ(m:Grow F U _\/X _)=>m.elim h.qU oX2;rcases m with m | (m|m|m)|m
 ·exact .inl (.inl m.1.1)
 ·exact .inl (.inl (hG b m.1).1)
 ·exact .inr m.2
 ·exact .inl (.inr O)
 ·exact .inl (.inl (Q b m).1)
end Go.Ar
namespace Go.Ar
open Go Go.Vc Go.Proofs
variable {U u u':Hp}{F B P:Rg}{L:dK}{H H':Hw}{t k n:Nat}{A:AR}{Y:Lay}{x:eH}{g:Th}{c:bZ}{l:Li}{cs:List Value}
structure HK (F:Rg) (U:Hp) (B:Rg) (u:Hp) (P:Rg) (L:dK) (H:Hw):Prop where
 h:HH u P L H
 e:Ext F U u
 p:∀b,P b->(F b/\b<U.size\/U.size<=b)/\¬B b/\b<u.size
 b:∀b,B b->U.size<=b/\b<u.size
 o:iN (λb=>U.size<=b)/\¬U.size<=1
theorem HK.start (h:HH U F L H):HK F U (λ_=>False) U (Cut F U) L H:=⟨h.cut,Ext.refl _ _,λb a=>⟨.inl ⟨a.1,a.2⟩,id,a.2⟩,λb a=>a.elim,h.mE⟩
theorem HK.box (K:HK F U B u P L H)(e:bK u u')(hz:u'.size=u.size+1):HK F U (λb=>B b\/b=u.size) u' P L H:=
 ⟨K.h.bO e,K.e.trans (bK.to e),λb a=>⟨(K.p b a).1,λd=>d.elim (K.p b a).2.1 λg=>by have:=(K.p b a).2.2;omega,by have:=(K.p b a).2.2;omega⟩,λb a=>by
  have:=K.e.1;rcases a with a|a
  ·have:=K.b b a;omega
  ·omega,K.o⟩
theorem HK.fr (K:HK F U B u P L H)(e:bK u u'):HK F U B u' P L H:=
 ⟨K.h.bO e,K.e.trans (bK.to e),λb a=>⟨(K.p b a).1,(K.p b a).2.1,by have:=(K.p b a).2.2;have:=e.1;omega⟩,λb a=>by have:=K.b b a;have:=e.1;omega,K.o⟩
theorem HK.own (K:HK F U B u P L H)(o:Qq u u' n)(hn:B n):HK F U B u' P L H:=by
 have r:=K.b n hn;have s:=o.1;have e:Ext (· = n) u u':=o.ext;have i:∀b,b<u.size->P b->¬(b=n):=λb _ a g=>(K.p b a).2.1 (g▸hn);have d:iN (λb=>b=n)/\¬(1=n):=⟨K.o.1.sub λb j=>O,λj=>K.o.2 O⟩;exact⟨K.h.bS e i d.1 d.2,K.e.dS e λb (m:b=n)=>.inr O,λb a=>⟨(K.p b a).1,(K.p b a).2.1,by have:=(K.p b a).2.2;omega⟩,λb a=>by have:=K.b b a;omega,K.o⟩
theorem HK.cU (K:HK F U B u P L H)(e:Ext P u u')(hb:bY u n cs)(hn:B n):bY u' n cs:=e.bT hb λa=>(K.p n a).2.1 hn
theorem HK.si (K:HK F U B u P L H){Q:Rg}{L':dK}(e:Ext P u u')(h:HH u' Q L' H')(hq:∀b,b<u'.size->Q b->P b\/u.size<=b\/(F b/\b<U.size\/U.size<=b)/\¬B b):HK F U B u' (Cut Q u') L' H':=by
 have i:=e.1;have g:=K.e.1;refine⟨h.cut,K.e.dS e λb a=>(K.p b a).1.imp (λh=>h.1) id,λb a=>⟨?_,λd=>?_,a.2⟩,λb a=>by have:=K.b b a;omega,K.o⟩
 ·rcases hq b a.2 a.1 with h1|h1|h1
  ·exact(K.p b h1).1
  ·exact .inr O
  ·exact h1.1
 ·rcases hq b a.2 a.1 with h1|h1|h1
  ·exact(K.p b h1).2.1 d
  ·have:=K.b b d;omega
  ·exact h1.2 d
theorem HK.to (K:HK F U B u P L H){Q:Rg}{L':dK}(e:Ext P u u')(h:HH u' Q L' H')(hq:∀b,b<u'.size->Q b->P b\/u.size<=b):HK F U B u' (Cut Q u') L' H':=K.si e h λb a d=>(hq b a d).imp id .inl
theorem HK.fin (K:HK F U B u P L H){L0:dK}{H0:Hw}(h0:HH U F L0 H0):HH u (Grow F U) L H:=h0.grown K.h λb _ a=>(K.p b a).1.imp (λh=>h.1) id
def Fr (A' A:AR):Prop:=A'.tb=A.tb/\A'.room=A.room/\A'.cM=A.cM
theorem Fr.cK {A' A:AR}(h:Fr A' A)(Y:Lay):Go.Ar.cK A' Y=Go.Ar.cK A Y:=by
 funext k;unfold Go.Ar.cK;rw[h.1,h.2.1,h.2.2]
theorem EM (A:AR)(k m:Int):Fr (Yt A k m) A:=by
 unfold Yt;split<;>exact⟨rfl,rfl,rfl⟩
theorem DH (A:AR)(k:Int)(xs:List Int):Fr (Zu A k xs) A:=⟨(Ue A k xs).1,(Ue A k xs).2.1,(Ue A k xs).2.2.1⟩
theorem EJ (A:AR)(sp:Sp)(m a no:Nat):Fr (cZ A sp m a no).2.1 A:=⟨(HR A sp m a no).1,(HR A sp m a no).2.2.2.1,(HR A sp m a no).2.2.1⟩
theorem E0 (A:AR)(x:Int):Fr (Qr A x) A:=by
 unfold Qr;split<;>exact⟨rfl,rfl,rfl⟩
theorem Ia (A:AR)(sp:Sp)(k:Int):Fr (cL A sp k).1 A:=by
 unfold cL;split
 ·split
  ·rename_i c ss h1 h2;have h:=EJ A sp c.aF 1 (k.toNat+1);generalize cZ A sp c.aF 1 (k.toNat+1)=r at h;obtain⟨o,A',a⟩:=r;cases o with
   | none=>exact h
   | some x=>
    simp only;split<;>exact h
  ·exact⟨rfl,rfl,rfl⟩
 ·exact⟨rfl,rfl,rfl⟩
theorem ET (A:AR)(sp:Sp)(m a:Int):Fr (cA A sp m a).1 A:=by
 unfold cA;split
 ·have h:=EJ A sp m.toNat a.toNat 41;generalize cZ A sp m.toNat a.toNat 41=r at h;obtain⟨o,A',b⟩:=r;cases o<;>exact h
 ·exact⟨rfl,rfl,rfl⟩
theorem M5 (A:AR)(k:Int):(Zx A k).tb=A.tb:=by unfold Zx;split<;>rfl
theorem SR (A:AR)(k:Int)(xs:List Int):(QV A k xs).tb=A.tb:=by unfold QV;split<;>rfl
theorem HH.mj (h:HH U F L H)(hk:H.bX[k]?=some A)(hy:L.ys[k]?=some Y):∃G:Rg,(∀b,G b->F b)/\dG U G Y A (cK A Y)/\∀(σ':Hp) (A':AR) (Q:Rg),A'.tb=A.tb->Ext G U σ'->(∀b,Q b->G b\/U.size<=b)->dG σ' (λb=>Grow G U b/\¬Q b) Y A' (cK A' Y) →
 Ext F U σ'/\HH σ' (λb=>Grow F U b/\¬Q b) L (H.cC k A'):=by
 obtain⟨Y',G,d,_,j,u,g⟩:=h.wF hk;rw[hy]at d;cases d;refine⟨G,j,u,λσ' A' Q i e s m=>?_⟩;obtain⟨e1,r⟩:=g σ' A' _ i e (λb a=>a.1) m;refine⟨e1,r.mono (λb _ a=>?_) (h.oG.sub λb a=>a.1) λa=>h.qU a.1⟩;rcases a with a|a
 ·exact⟨.inl a.1,λp=>by
   rcases s b p with h2|h2
   ·exact a.2.2 h2
   ·have:=a.2.1;omega⟩
 ·exact⟨a.1.imp (j b) id,a.2⟩
theorem dG.vF {T:Nat->Hp->Rg->Prop}{G Q:Rg}(h:dG U G Y A T)(hq:∀b,¬Q b):dG U (λb=>G b/\¬Q b) Y A T:=h.mono λb _ a=>⟨a,hq b⟩
theorem HH.mH (h:HH U F L H)(hk:H.bX[k]?=some A)(hy:L.ys[k]?=some Y):∃G:Rg,(∀b,G b->F b)/\dG U G Y A (cK A Y)/\∀(σ':Hp) (A':AR),A'.tb=A.tb->Ext G U σ'->dG σ' (Grow G U) Y A' (cK A' Y) →
 Ext F U σ'/\HH σ' (Grow F U) L (H.cC k A'):=by
 obtain⟨G,i,p,a⟩:=h.mj hk hy;refine⟨G,i,p,λσ' A' g e j=>?_⟩;obtain⟨e1,m⟩:=a σ' A' (λ_=>False) g e (λb d=>d.elim) (j.vF λ_=>id);exact⟨e1,m.mono (λb _ d=>d.1) h.oG h.qU⟩
theorem Gf (h:HH U F L H)(hk:H.bX[k]?=some A)(hy:L.ys[k]?=some Y)(c:Int){R:Sl->Int->Hp->Prop}
 (hR:∀s σ' (Q:Rg),Ext F U σ'->(∀b,Q b->F b)->cV s 1 (Wo (Yp A c)) σ' Q->s.len<=s.cap->HH σ' (λb=>Grow F U b/\¬Q b) L (H.cC k (Zx A c))->R s (ZZ A c) σ') :
 WA.c (aW Y.p) c U R:=by
 obtain⟨G,w,r,d⟩:=h.mj hk hy;refine H9 r c λs σ' e i u g j=>?_;obtain⟨e1,m⟩:=d σ' (Zx A c) (kG s) (M5 A c) e (λb a=>.inl (i b a)) (j.mono λb _ a=>⟨.inl a.1,a.2⟩);exact hR s σ' (kG s) e1 (λb a=>w b (i b a)) u g m
theorem LR (h:HH U F L H)(hk:H.bX[k]?=some A)(hy:L.ys[k]?=some Y)(c m:Int){R:Sl->Int->Hp->Prop}
 (hR:∀s σ' (Q:Rg),Ext F U σ'->(∀b,Q b->U.size<=b)->bR s 1 (ints (Ya A c m)) σ' Q->HH σ' (λb=>Grow F U b/\¬Q b) L (H.cC k (Yt A c m))->R s (Qt A c m) σ') :
 WB.c (aW Y.p) c m U R:=by
 obtain⟨G,w,r,d⟩:=h.mj hk hy;refine Nd r c m λs σ' e u i=>?_;have g:cK (Yt A c m) Y=cK A Y:=(EM A c m).cK Y;obtain⟨e1,j⟩:=d σ' (Yt A c m) (λb=>U.size<=b) (EM A c m).1 e (λb a=>.inr a) (by rw[g];exact i.mono λb _ a=>⟨.inl a.1,by have:=a.2;omega⟩);exact hR s σ' _ e1 (λb a=>a) u j
theorem LX (h:HH U F L H)(hk:H.bX[k]?=some A)(hy:L.ys[k]?=some Y)(c:Int){sl:Sl}{xs:List Int}{X:Rg}(hs:cV sl 1 (Wo xs) U X)(hi:∀x∈xs,iE x){R:Bool->Int->Hp->Prop}
 (hR:∀σ',Ext F U σ'->HH σ' (Grow F U) L (H.cC k (QV A c xs))->R (K0 A c xs) (Ha A c xs) σ'):WF.c (aW Y.p) c sl U R:=by
 obtain⟨G,i,g,a⟩:=h.mH hk hy;refine O9 g c hs hi λσ' e b=>?_;obtain⟨e1,d⟩:=a σ' _ (SR A c xs) e b;exact hR σ' e1 d
theorem SU (h:HH U F L H)(hk:H.bX[k]?=some A)(hy:L.ys[k]?=some Y)(c:Int){sl:Sl}{xs:List Int}{X:Rg}(hs:cV sl 1 (Wo xs) U X)(hX:∀b,b<U.size->X b->¬F b)(hi:∀x∈xs,iE x)(hl:xs.length<=1000000)(hcap:sl.len<=sl.cap){R:aN}
 (hR:∀σ',Ext F U σ'->HH σ' (Grow F U) L (H.cC k (Zu A c xs))->R (QL A c xs) σ'):WL.c (aW Y.p) c sl U R:=by
 obtain⟨G,u,s,a⟩:=h.mH hk hy;refine Pf s c hi hl hcap (.inl ⟨X,hs,λb r m g=>hX b r m (u b g)⟩) λσ' e i=>?_;have d:cK (Zu A c xs) Y=cK A Y:=(DH A c xs).cK Y;obtain⟨e1,j⟩:=a σ' _ (DH A c xs).1 e (by rw[d];exact i);exact hR σ' e1 j
theorem R9 (h:HH U F L H)(hk:H.bX[k]?=some A)(hy:L.ys[k]?=some Y)(x:Int)(hf:∀r∈A.runs,r.1<=1000000){R:aN}
 (hR:∀σ',Ext F U σ'->HH σ' (Grow F U) L (H.cC k (Qr A x))->R (KK A x) σ'):WK.c (aW Y.p) x U R:=by
 obtain⟨G,j,i,a⟩:=h.mH hk hy;refine PQ i x hf λσ' e d=>?_;have b:cK (Qr A x) Y=cK A Y:=(E0 A x).cK Y;obtain⟨e1,g⟩:=a σ' _ (E0 A x).1 e (by rw[b];exact d);exact hR σ' e1 g
theorem Mj (h:HH U F L H)(hk:H.bX[k]?=some A)(hy:L.ys[k]?=some Y)(c:Int){R:aN}
 (hR:∀σ',Ext F U σ'->HH σ' (Grow F U) L {H.cC k (cL A H.sp c).1 with sp:=(cL A H.sp c).2}->R (KH A H.sp c) σ'):XQ.c (aW Y.p) c U R:=by
 obtain⟨Y',G,D,a,_,j,b⟩:=h.ox hk;rw[hy]at a;cases a;refine Ml j c λσ' G' D' m e g=>?_;have d:cK (cL A H.sp c).1 Y=cK A Y:=(Ia A H.sp c).cK Y;obtain⟨e1,i⟩:=b σ' _ _ G' D' (Ia A H.sp c).1 e m (by rw[d];exact g);exact hR σ' e1 i
theorem Oq (h:HH U F L H)(hk:H.bX[k]?=some A)(hy:L.ys[k]?=some Y)(m a:Int){R:Int->Int->Hp->Prop}
 (hR:∀σ',Ext F U σ'->HH σ' (Grow F U) L {H.cC k (cA A H.sp m a).1 with sp:=(cA A H.sp m a).2}->R ((ZY A H.sp m a:Nat):Int) (Qm A H.sp m a) σ'):WN.c (aW Y.p) m a U R:=by
 obtain⟨Y',G,D,b,_,r,d⟩:=h.ox hk;rw[hy]at b;cases b;refine Ot r m a λσ' G' D' s e i=>?_;have g:cK (cA A H.sp m a).1 Y=cK A Y:=(ET A H.sp m a).cK Y;obtain⟨e1,j⟩:=d σ' _ _ G' D' (ET A H.sp m a).1 e s (by rw[g];exact i);exact hR σ' e1 j
def Hw.dR (H:Hw)(t:Nat)(g:Th)(ls:List Li):Hw:={H with bQ:=H.bQ.set t {g with ls:=ls}}
theorem HH.k7 (h:HH U F L H)(hx:L.ts[t]?=some x)(hg:H.bQ[t]?=some g):∃G:Rg,(∀b,G b->F b)/\eC U G x.c H.tb H.cf.dA g.ls/\∀(σ':Hp) (ls:List Li) (Y':gS) (Q:Rg),Y'.p=x.c.p->Ext G U σ'->(∀b,Q b->U.size<=b)->eC σ' (λb=>Grow G U b/\¬Q b) Y' H.tb H.cf.dA ls →
 Ext F U σ'/\HH σ' (λb=>Grow F U b/\¬Q b) {L with ts:=L.ts.set t {x with c:=Y'}} (H.dR t g ls):=by
 obtain⟨G,i,m,d⟩:=h.po hx hg;refine⟨G,i,m,λσ' ls Y' Q w e j r=>?_⟩;obtain⟨e1,u⟩:=d σ' ls Y' _ w e (λb a=>a.1) r;refine⟨e1,u.mono (λb _ a=>?_) (h.oG.sub λb a=>a.1) λa=>h.qU a.1⟩;rcases a with a|a
 ·exact⟨.inl a.1,λs=>by have:=a.2.1;have:=j b s;omega⟩
 ·exact⟨a.1.imp (i b) id,a.2⟩
theorem HH.kY (h:HH U F L H)(hx:L.ts[t]?=some x)(hg:H.bQ[t]?=some g):∃G:Rg,(∀b,G b->F b)/\eC U G x.c H.tb H.cf.dA g.ls/\∀(σ':Hp) (ls:List Li) (Y':gS),Y'.p=x.c.p->Ext G U σ'->eC σ' (Grow G U) Y' H.tb H.cf.dA ls →
 Ext F U σ'/\HH σ' (Grow F U) {L with ts:=L.ts.set t {x with c:=Y'}} (H.dR t g ls):=by
 obtain⟨G,s,i,a⟩:=h.k7 hx hg;refine⟨G,s,i,λσ' ls Y' r e j=>?_⟩;obtain⟨e1,m⟩:=a σ' ls Y' (λ_=>False) r e (λb d=>d.elim) (j.mono λb _ d=>⟨d,id⟩);exact⟨e1,m.mono (λb _ d=>d.1) h.oG h.qU⟩
theorem NF (h:HH U F L H)(hx:L.ts[t]?=some x)(hg:H.bQ[t]?=some g)(hc:H.tb[k]?=some c)(hl:g.ls[k]?=some l){R:Int->Int->Hp->Prop}
 (hR:∀σ' ts',Ext F U σ'->HH σ' (Grow F U) {L with ts:=ts'} (H.dR t g (g.ls.set k (Q0 c l).2))->R ((Q0 c l).1.getD 0) (if(Q0 c l).1.isSome then 0 else 4) σ'):X2.c (aW x.c.p) (k:Int) U R:=by
 obtain⟨G,m,i,a⟩:=h.kY hx hg;refine kR i hc hl λσ' Y' e j b=>?_;obtain⟨e1,d⟩:=a σ' _ Y' j e b;exact hR σ' _ e1 d
theorem OZ (h:HH U F L H)(hx:L.ts[t]?=some x)(hg:H.bQ[t]?=some g)(hc:H.tb[k]?=some c)(hl:g.ls[k]?=some l){R:Int->Int->Hp->Prop}
 (hR:∀σ' ts',Ext F U σ'->HH σ' (Grow F U) {L with ts:=ts'} H->R ((nZ c l:Nat):Int) 0 σ'):X7.c (aW x.c.p) (k:Int) U R:=by
 obtain⟨G,m,i,a⟩:=h.kY hx hg;refine Pt i hc hl λσ' Y' e j d=>?_;obtain⟨e1,b⟩:=a σ' _ Y' j e d;have e2:H.dR t g g.ls=H:=by
  unfold Hw.dR;rw[Z9 hg]
 rw[e2]at b;exact hR σ' _ e1 b
theorem SA (h:HH U F L H)(hx:L.ts[t]?=some x)(hg:H.bQ[t]?=some g)(hc:H.tb[k]?=some c)(hl:g.ls[k]?=some l){sl:Sl}{xs:List Int}{X:Rg}(hs:cV sl 1 (Wo xs) U X)(hX:∀q,X q->¬F q)(hfit:l.os.length+xs.length<=256){R:aN}
 (hR:∀σ' ts',Ext F U σ'->HH σ' (Grow F U) {L with ts:=ts'} (H.dR t g (g.ls.set k (dZ xs.reverse l)))->R 0 σ'):XW.c (aW x.c.p) (k:Int) sl U R:=by
 obtain⟨G,r,j,a⟩:=h.kY hx hg;refine SF j hc hl hs (λq b hg=>hX q b (r q hg)) hfit λσ' Y' e m d=>?_;obtain⟨e1,i⟩:=a σ' _ Y' m e d;exact hR σ' _ e1 i
theorem Pm (h:HH U F L H)(hx:L.ts[t]?=some x)(hg:H.bQ[t]?=some g)(hc:H.tb[k]?=some c)(hl:g.ls[k]?=some l)(y:Int){R:Sl->Int->Hp->Prop}
 (hR:∀σ' ts' s e (Q:Rg),Ext F U σ'->(∀q,Q q->U.size<=q)->bR s 1 (Wo (dJ c y l).1) σ' Q->HH σ' (λb=>Grow F U b/\¬Q b) {L with ts:=ts'} (H.dR t g (g.ls.set k (dJ c y l).2))->R s e σ'):Yv.c (aW x.c.p) (k:Int) y U R:=by
 obtain⟨G,z,u,a⟩:=h.k7 hx hg;refine Sf u hc hl y λσ' Y' s i Q e w _ d r j=>?_;obtain⟨e1,m⟩:=a σ' _ Y' Q w e d j;exact hR σ' _ s i Q e1 d r m
theorem JR (h:HH U F L H)(hx:L.ts[t]?=some x)(hg:H.bQ[t]?=some g){R:aO}(hR:∀σ',bK U σ'->R (decide (H.cf.dA<QS H.tb g.ls)) σ'):XT.c (aW x.c.p) U R:=by
 obtain⟨G,d,b,a⟩:=h.kY hx hg;exact NR b hR
theorem IQ (hso:Ga)(h:HH U F L H)(hx:L.ts[t]?=some x)(hg:H.bQ[t]?=some g){R:Sl->Hp->Prop}
 (hR:∀σ' s (Q:Rg),Ext F U σ'->(∀q,Q q->U.size<=q)->iq s (Q1 ZH H.tb g.ls) σ' Q->HH σ' (λb=>Grow F U b/\¬Q b) L (H.dR t g (QX ZH H.tb g.ls))->R s σ'):XE.c (aW x.c.p) U R:=by
 obtain⟨G,u,r,a⟩:=h.k7 hx hg;refine Ju hso r λσ' s Q e d j m=>?_;obtain⟨e1,i⟩:=a σ' _ x.c Q rfl e d j;rw[show L.ts.set t {x with c:=x.c}=L.ts from Z9 hx]at i;exact hR σ' s Q e1 d m i
theorem IM (hso:Ga)(h:HH U F L H)(hx:L.ts[t]?=some x)(hg:H.bQ[t]?=some g){R:Sl->Hp->Prop}
 (hR:∀σ' s (Q:Rg),Ext F U σ'->(∀q,Q q->U.size<=q)->iq s (Q1 KE H.tb g.ls) σ' Q->HH σ' (λb=>Grow F U b/\¬Q b) L (H.dR t g (QX KE H.tb g.ls))->R s σ'):WX.c (aW x.c.p) U R:=by
 obtain⟨G,u,r,a⟩:=h.k7 hx hg;refine N1 hso r λσ' s Q e d j m=>?_;obtain⟨e1,i⟩:=a σ' _ x.c Q rfl e d j;rw[show L.ts.set t {x with c:=x.c}=L.ts from Z9 hx]at i;exact hR σ' s Q e1 d m i
def mY (S:aP)(L:dK)(tb:List bZ):Prop:=∀m,S m->∃(P:Rg) (ts:List eH) (H:Hw),HH m P {L with ts:=ts} H/\H.tb=tb
theorem mY.dD {S:aP}{tb:List bZ}(hS:mY S L tb){K:Sl->Prop}(hK:K L.dD):gC S .s (Addr.add ⟨L.p,0,none⟩ 0) K:=⟨L.dD,λm a=>by obtain⟨_,_,_,h,_⟩:=hS m a;rw[add_lit,h.hd.cell];rfl,hK⟩
theorem mY.fM {S:aP}{tb:List bZ}(hS:mY S L tb){K:Sl->Prop}(hK:K L.fM):gC S .s (Addr.add ⟨L.p,0,none⟩ 7) K:=⟨L.fM,λm a=>by obtain⟨_,_,_,h,_⟩:=hS m a;rw[add_lit,h.hd.cell];rfl,hK⟩
theorem mY.rA {S:aP}{tb:List bZ}(hS:mY S L tb)(h:HH U F L H)(hy:L.ys[k]?=some Y){K:Option Addr->Prop}(hK:K (some ⟨Y.p,0,none⟩)):Ix L.fM.a L.fM.len (k:Int) 1 λa=>gC S .p a K:=by
 have j:(fI (L.ys.map (·.p)))[k]?=some (.pointer (some ⟨Y.p,0,none⟩)):=by simp[fI,hy]
 obtain⟨b,o,i,_⟩:=h.mV.cell j;have y:=(cW.1 hy).1;have u:=h.mP;have:=h.s.ys;rw[i];refine ix O O ⟨_,λm r=>?_,hK⟩;obtain⟨_,_,_,g,_⟩:=hS m r;obtain⟨x,w,d,e⟩:=g.mV.cell j;rw[i]at d;cases d;rw[add_lit,show o+(k:Int).toNat*1=o+k by omega];exact e
theorem mY.rC {S:aP}(hS:mY S L H.tb)(h:HH U F L H)(hc:H.tb[k]?=some c){K:Int->Prop}(hK:K (c.size:Int)):Ix L.dD.a L.dD.len (k:Int) 3 λa=>gC S bN (a.add 0) K:=by
 have j:(fZ H.tb)[3*k+0]?=some (.int .i64 (c.size:Int)):=(Gr hc).1;obtain⟨b,o,r,_⟩:=h.jE.cell j;have y:=(cW.1 hc).1;have u:=h.pv;rw[r];refine ix O O ⟨_,λm s=>?_,hK⟩;obtain⟨_,_,_,g,p⟩:=hS m s;rw[←p]at j;obtain⟨x,w,d,e⟩:=g.jE.cell j;have d:L.dD.a=_:=d;rw[r]at d;cases d;rw[add_lit,add_lit,show o+(k:Int).toNat*3+0=o+(3*k+0) by omega];exact e
end Go.Ar
namespace Go.Ar
open Go Go.Vc Go.Proofs
variable {U u u':Hp}{F B P Q:Rg}{L:dK}{H H':Hw}{t k n pb:Nat}{A:AR}{Y:Lay}{x:eH}{g:Th}{c:bZ}{l:Li}{cs:List Value}{parts:List (List Int)}{xs:List Int}
theorem HK.AP (K:HK F U B u P L H)(e:Ext B u u'){B':Rg}(hB:∀b,B' b->B b\/u.size<=b/\b<u'.size):HK F U B' u' P L H:=by
 have r:=e.1;have j:=K.e.1;have i:iN B/\¬B 1:=⟨K.o.1.sub λb g=>(K.b b g).1,λg=>K.o.2 (K.b _ g).1⟩;refine⟨K.h.bS e (λb _ a d=>(K.p b a).2.1 d) i.1 i.2,K.e.dS e λb m=>.inr (K.b b m).1,λb a=>⟨(K.p b a).1,λg=>?_,by have:=(K.p b a).2.2;omega⟩,λb a=>?_,K.o⟩
 ·rcases hB b g with d|d
  ·exact(K.p b a).2.1 d
  ·have:=(K.p b a).2.2;omega
 ·rcases hB b a with d|d
  ·have:=K.b b d;omega
  ·omega
def sV (s:Sl):Value:=.slice s.a s.len s.cap
def mq (pb:Nat)(parts:List (List Int)):Hp->Rg->Prop:=λu Q=>∃(ps:List Sl) (Qs:Nat->Rg),ps.length=parts.length/\Q pb/\bY u pb (ps.map sV)/\(∀j b,Qs j b->Q b/\b≠pb)/\(∀j j' b,Qs j b->Qs j' b->j=j') ∧
 ∀j s xs,ps[j]?=some s->parts[j]?=some xs->dI s 1 (Wo xs) u (Qs j)
theorem mq.loc (pb:Nat)(parts:List (List Int)):dM (mq pb parts):=by
 rintro U H F G ⟨x,Qs,B,y,r,i,u,w⟩ E g;have p:=g pb r.lt y;obtain⟨e,C⟩:=r;refine⟨x,λj b=>Qs j b/\b<U.size,B,p.1,⟨e,p.2.trans C⟩,λj b d=>⟨(g b d.2 (i j b d.1).1).1,(i j b d.1).2⟩,λj z b a D=>u j z b a.1 D.1,λj s A a b=>(dI.loc _ _ _) _ _ _ _ (w j s A a b) E λb d m=>⟨⟨m,d⟩,(g b d (i j b m).1).2⟩⟩
theorem mq.add (h:mq pb parts u Q){a m e1 e2:Nat}(hm:m=parts.length)(ha:parts[a]?=some xs)(y:Int)(hl:xs.length<=1000000){K:aP}(hK:∀u',Ext Q u u'->mq pb (parts.set a (xs++[y])) u' (Grow Q u)->K u') :
 Ix (some ⟨pb,0,none⟩) m (a:Int) 1 λa1=>jm a1 u λt35=>Nw (.cells #[.int .i64 y] e1 (0,0)) u λn37 v4=>App t35 1 8 e2 [.int .i64 0] ⟨some n37,1,1⟩ v4 λt38 v5=>Ix (some ⟨pb,0,none⟩) m (a:Int) 1 λa39=>dX a39 (.slice t38.a t38.len t38.cap) v5 λv6=>K v6:=by
 obtain⟨B,Qs,W,R,M,A,N,P⟩:=h;have G:=(cW.1 ha).1;have p:B[a]?=some (B[a]' O):=cT _;generalize (B[a]' O)=s at p;have i:=P a s xs p ha;have Y:s.len=xs.length:=by have:=i.1;simp[Wo]at this;omega
 refine ix O O ?_;rw[add_lit,show 0+(a:Int).toNat*1=a by omega];refine M.uj (a:=s.a) (n:=s.len) (c:=s.cap) (by simp[p,sV]) ?_;refine nw (cs:=[.int .i64 y]) λv4 hz e d=>?_;have z:=(dI.loc _ _ _).bO ((dI.loc _ _ _).cut i) e;have F:=e.bT M id;refine z.app (x:=⟨some ⟨u.size,0,none⟩,1,1⟩) (ys:=[.int .i64 y]) rfl rfl ?_ (by simp[dN]) ?_ ?_ mO λs' v5 U E L=>?_
 ·intro j w hw;rw[add_lit,zH,d.cell];exact hw
 ·simp only;omega
 ·simp only;omega
 have aa:=E.1;have J:bY v5 pb (B.map sV):=E.bT F λr=>(A a pb r.1).2 rfl;refine ix O O ?_;rw[add_lit,show 0+(a:Int).toNat*1=a by omega];refine J.s0 aE λu' S g=>?_;have Z:=S.1;have H:Ext (· = pb) v5 u':=S.ext;have eQ:Ext Q u u':=((bK.to e).trans (E.sub λb d=>(A a b d.1).1)).trans (H.sub λb d=>by rw[d];exact R);have hpb:=M.lt;refine hK u' eQ ⟨B.set a s',λj b=>Qs j b/\b<u.size\/j=a/\v4.size<=b/\b<v5.size,by simp[W],.inl R,?_,λj b d=>?_,λj V b d g=>?_,λj s2 ys D C=>?_⟩
 ·rw[xd];exact g
 ·rcases d with d|d
  ·exact⟨.inl (A j b d.1).1,(A j b d.1).2⟩
  ·exact⟨.inr O,O⟩
 ·rcases d with d|d<;>rcases g with g|g
  ·exact N j V b d.1 g.1
  ·omega
  ·omega
  ·omega
 ·by_cases hja:j=a
  ·subst hja;rw[zL O]at D;rw[zL G]at C;cases D;cases C;have:=(dI.loc _ _ _).bS ((dI.loc _ _ _).cut L) H λb _ d r=>by
    rcases d.1 with h7|h7
    ·exact(A j b h7.1).2 r
    ·omega
   have X:Wo (xs++[y])=Wo xs++[.int .i64 y]:=by simp[Wo]
   rw[X];refine(dI.loc _ _ _).mono this λb _ d=>?_;rcases d.1 with h7|h7
   ·exact .inl h7
   ·exact .inr ⟨rfl,h7,d.2⟩
  ·rw[zk (Ne.symm hja)]at D C;have:=(dI.loc _ _ _).cut (P j s2 ys D C);have:=(dI.loc _ _ _).bS ((dI.loc _ _ _).bS ((dI.loc _ _ _).bO this e) E λb _ d r=>hja (N j a b d.1 r.1)) H λb _ d r=>(A j b d.1).2 r;exact(dI.loc _ _ _).mono this λb _ d=>.inl d
theorem mq.get (h:mq pb parts u Q){a m:Nat}(hm:m=parts.length)(ha:parts[a]?=some xs){K:Sl->Prop}(hK:∀s,dI s 1 (Wo xs) u Q->s.len=xs.length->K s):Ix (some ⟨pb,0,none⟩) m (a:Int) 1 λa1=>jm a1 u K:=by
 obtain⟨g,Qs,z,y,j,w,x,i⟩:=h;have r:=(cW.1 ha).1;have e:g[a]?=some (g[a]' O):=cT _;generalize (g[a]' O)=s at e;have d:=i a s xs e ha;refine ix O O ?_;rw[add_lit,show 0+(a:Int).toNat*1=a by omega];refine j.uj (a:=s.a) (n:=s.len) (c:=s.cap) (by simp[e,sV]) (hK s ((dI.loc _ _ _).mono d λb _ p=>(w a b p).1) ?_);have:=d.1;simp[Wo]at this;omega
theorem yY {bX:List AR}{x:Int}(h:0<=XN bX x):(XN bX x).toNat<bX.length/\XN bX x=((XN bX x).toNat:Int):=by
 refine⟨?_,O⟩;unfold XN at *;split at h
 ·omega
 ·rename_i hx;rw[zB hx];split at h
  ·rename_i i hi;have:=(List.findIdx?_eq_some_iff_findIdx_eq.1 hi).1;simp only[dE];exact this
  ·omega
theorem Nl {bX:List AR}{x:Int}{xs:List Int}(h:0<=XN bX x):((List.range bX.length).map (ZF bX xs)).set (XN bX x).toNat (ZF bX xs (XN bX x).toNat++[x])=(List.range bX.length).map (ZF bX (xs++[x])):=by
 have a:=yY h;apply zp;intro j;by_cases hj:j<bX.length
 ·by_cases e:(XN bX x).toNat=j
  ·subst e;rw[zL (by simpa using hj)];simp only[za,nf hj,zX,ZF,uV]
   congr 2
   rw[uO (by rw[←a.2];simp)];rfl
  ·rw[zk e];simp only[za,nf hj,zX,ZF,uV];have:List.filter (λy=>XN bX y==(j:Int)) [x]=[]:=by
    rw[ua (by simp only[zT];omega)];rfl
   rw[this,kI]
 ·rw[zV aE,zV aE]
theorem KJ {K:aO}{body:(Bool->Hp->Prop)->Prop}(P:aO)(h1:∀r w,P r w->K r w)(h2:∀J:Bool->Hp->Prop,(∀r w,P r w->J r w)->body J):bW K body:=bW.intro (h2 K h1)
theorem yL {K:eL [.b]}{body:eL [.b]->Prop}(P:aO)(h1:∀r w,P r w->K r w)(h2:∀J:eL [.b],(∀r w,P r w->J r w)->body J):Jn [.b] K body:=Jn.intro (h2 K h1)
theorem su {K:eL []}{body:eL []->Prop}(P:aP)(h1:∀w,P w->K w)(h2:∀J:eL [],(∀w,P w->J w)->body J):Jn [] K body:=Jn.intro (h2 K h1)
theorem Ve {H:Hw}{k:Nat}{part:Nat->List Int}(j:Nat):Va H k part (List.range (j+1))=(match (Va H k part (List.range j)).bX[j]? with
 | some A=>if part j=[]then Va H k part (List.range j)else(Va H k part (List.range j)).cC j (Zu A (k:Int) (part j))
 | none=>Va H k part (List.range j)):=by
 unfold Va;rw[qm,wX];rfl
theorem Lz {H:Hw}{k:Nat}{part:Nat->List Int}(j:Nat):(Va H k part (List.range j)).bX.length=H.bX.length:=by
 induction j with
 | zero=>rfl
 | succ j ih=>
  rw[Ve];split
  ·split
   ·exact ih
   ·simp[Hw.cC,ih]
  ·exact ih
theorem Mt {H:Hw}{k:Nat}{part:Nat->List Int}(j:Nat):(Va H k part (List.range j)).bQ=H.bQ:=by
 induction j with
 | zero=>rfl
 | succ j ih=>
  rw[Ve];split
  ·split<;>exact ih
  ·exact ih
theorem As (H:Hw)(own k:Nat)(xs:List Int):(Ht H own k xs).bQ=H.bQ:=by
 unfold Ht;split
 ·split
  ·rfl
  ·rw[Mt];split<;>rfl
 ·rfl
def yP (F:Rg)(U:Hp)(L:dK)(H:Hw)(pb:Nat)(parts:List (List Int))(cs:List Value)(w:Hp):Prop:=∃Q P:Rg,HK F U (λb=>b=U.size\/Q b) w P L H/\mq pb parts w Q/\bY w U.size cs/\∀b,Q b->b≠U.size
theorem I3 (h:HH U F L H){own:Nat}(ho:own<H.bX.length)(k:Nat){sl:Sl}{xs:List Int}{X:Rg}(hs:cV sl 1 (Wo xs) U X)(hX:∀b,b<U.size->X b->¬F b)(hcap:sl.len<=sl.cap)(hx:∀x∈xs,iE x/\0<=XN H.bX x)(hl:xs.length<=1000000){R:aP}
 (hR:∀σ',Ext F U σ'->HH σ' (Grow F U) L (Ht H own k xs)->R σ'):Zn.c (aW L.p) (own:Int) (k:Int) sl U R:=by
 refine Zn.o ?_;unfold Zn.v;have hsl:sl.len=xs.length:=by have:=hs.1;simp[Wo]at this;omega
 have ha2:=h.s.a2;have hal:=h.mP;have hs1:∀u,Ext F U u->cV sl 1 (Wo xs) u (λb=>X b/\b<U.size):=λu eu=>aH.bS (aH.cut hs) eu λb _ hx hf=>hX b hx.2 hx.1 hf;refine nw (cs:=[.int .i64 (k:Int),.slice sl.a sl.len sl.cap]) λv hz e d=>?_;have K1:=(HK.start h).box e hz;refine aG (K1.h.hd.rS rfl ?_);simp only;refine mk (n:=L.fM.len) O O λv1 hz1 e1 hb1=>?_;have K2:=K1.box e1 hz1;have hb2:=e1.bT d id;have V:mq v.size ((List.range H.bX.length).map (ZF H.bX [])) v1 (λb=>b=v.size):=by
  refine⟨List.replicate H.bX.length ⟨none,0,0⟩,λ_ _=>False,by simp,rfl,?_,λj b d=>d.elim,λj j' b d=>d.elim,λj s ys g h2=>?_⟩
  ·have:(List.replicate L.fM.len [Value.slice none 0 0]).flatten=(List.replicate H.bX.length (⟨none,0,0⟩:Sl)).map sV:=by
    rw[hal];simp[sV]
   rw[←this];exact hb1
  ·simp only[za,pt]at h2;obtain⟨a,_,rfl⟩:=h2;simp only[mr]at g;split at g
   ·cases g;exact dI.nil _ _ _ _
   ·cases g
 have hpl:∀ys:List Int,L.fM.len=((List.range H.bX.length).map (ZF H.bX ys)).length:=λys=>by simp[hal]
 refine hb2.rS rfl ?_;refine Z0 (a:=bN) (λ(z:Int) w=>∃i:Nat,z=(i:Int)/\i<=xs.length/\yP F U L H v.size ((List.range H.bX.length).map (ZF H.bX (xs.take i))) [.int .i64 (k:Int),.slice sl.a sl.len sl.cap] w) (λz _=>xs.length-z.toNat)
  ⟨0,rfl,O,λb=>b=v.size,_,⟨K2.h,K2.e,λb d=>⟨(K2.p b d).1,λhx=>(K2.p b d).2.1 (hx.imp .inr id),(K2.p b d).2.2⟩,λb d=>K2.b b (d.imp .inr id),K2.o⟩,V,hb2,λb d=>O⟩ ?_
 rintro z w ⟨i,rfl,hi,Q,P,K,V,C,hQ⟩;refine cQ (λE=>?_) λhge=>?_
 ·simp only at E;have hi':i<xs.length:=by omega
  have Z:xs[i]?=some xs[i]:=cT hi';generalize xs[i]=y at Z;have hy:=hx y (zG Z);refine(hs1 w K.e).mf Z (G0 K.h y hy.1 λw1 e1=>?_);have E:=yY hy.2;rw[E.2];have hP1:mq v.size _ w1 (λb=>Q b/\b<w.size):=(mq.loc _ _).bO ((mq.loc _ _).cut V) e1;have hpart:((List.range H.bX.length).map (ZF H.bX (xs.take i)))[(XN H.bX y).toNat]?=some (ZF H.bX (xs.take i) (XN H.bX y).toNat):=by
   simp only[za,nf E.1,zX]
  have hpl1:(ZF H.bX (xs.take i) (XN H.bX y).toNat).length<=1000000:=by
   have:=qX (λx=>XN H.bX x==(((XN H.bX y).toNat:Nat):Int)) (xs.take i);simp only[ZF];rw[zZ]at this;omega
  refine hP1.add (hpl _) hpart y hpl1 λw2 e2 hP2=>?_;rw[Nl hy.2]at hP2;have ht:xs.take i++[y]=xs.take (i+1):=by rw[k8,Z];rfl
  rw[ht]at hP2;have hz1:=e1.1;have hz2:=e2.1;refine cP (m:=i+1) O O ⟨⟨i+1,rfl,O,λb=>(Q b/\b<w.size)\/w1.size<=b/\b<w2.size,P,(K.fr e1).AP (e2.sub λb d=>.inr d.1) λb d=>?_,(mq.loc _ _).mono hP2 λb d S=>?_,?_,λb d=>?_⟩,O⟩
  ·rcases d with d|d|d
   ·exact .inl (.inl d)
   ·exact .inl (.inr d.1)
   ·exact .inr d
  ·rcases S with S|S
   ·exact .inl S
   ·exact .inr ⟨S,d⟩
  ·exact e2.bT (e1.bT C id) λhx=>hQ _ hx.1 rfl
  ·have:=(K.b U.size (.inl rfl)).2;rcases d with d|d
   ·exact hQ b d.1
   ·omega
 ·have hii:i=xs.length:=by simp only at hge;omega
  subst hii;rw[mg]at V;obtain⟨A,hA⟩:∃A,H.bX[own]?=some A:=⟨_,cT ho⟩;obtain⟨Y,hY,_,_⟩:=h.ar hA;have G:Ht H own k xs=(if(ZF H.bX xs own).length=xs.length/\K0 A (k:Int) xs=true then H.cC own (QV A (k:Int) xs)
   else Va (if(ZF H.bX xs own).length=xs.length then H.cC own (QV A (k:Int) xs)else H) k (ZF H.bX xs) (List.range H.bX.length)):=by
   unfold Ht;rw[hA]
  have hown:((List.range H.bX.length).map (ZF H.bX xs))[own]?=some (ZF H.bX xs own):=by
   simp only[za,nf ho,zX]
  refine su (λw=>¬((ZF H.bX xs own).length=xs.length/\K0 A (k:Int) xs=true)/\yP F U L (if(ZF H.bX xs own).length=xs.length then H.cC own (QV A (k:Int) xs)else H) v.size ((List.range H.bX.length).map (ZF H.bX xs)) [.int .i64 (k:Int),.slice sl.a sl.len sl.cap] w) (λw hw=>?_) λJ hJ=>?_
  ·obtain⟨hno,hw⟩:=hw;rw[zB hno]at G;generalize hH1:(if(ZF H.bX xs own).length=xs.length then H.cC own (QV A (k:Int) xs)else H)=H1 at hw G
   have hH1l:H1.bX.length=H.bX.length:=by
    rw[←hH1];split
    ·simp[Hw.cC]
    ·rfl
   refine Z0 (a:=bN) (λ(z:Int) w=>∃j:Nat,z=(j:Int)/\j<=H.bX.length/\yP F U L (Va H1 k (ZF H.bX xs) (List.range j)) v.size ((List.range H.bX.length).map (ZF H.bX xs)) [.int .i64 (k:Int),.slice sl.a sl.len sl.cap] w) (λz _=>H.bX.length-z.toNat) ⟨0,rfl,O,hw⟩ ?_;rintro z w ⟨j,rfl,hj,Q,P,K,V,C,hQ⟩;refine cQ (λE=>?_) λhge=>?_
   ·simp only at E;have hj':j<H.bX.length:=by omega
    have hpj:((List.range H.bX.length).map (ZF H.bX xs))[j]?=some (ZF H.bX xs j):=by
     simp only[za,nf hj',zX]
    refine V.get (hpl _) hpj λs M W=>?_;have hfl:=Lz (H:=H1) (k:=k) (part:=ZF H.bX xs) j;obtain⟨B,hB⟩:∃B,(Va H1 k (ZF H.bX xs) (List.range j)).bX[j]?=some B:=⟨_,cT O⟩;have D:=Ve (H:=H1) (k:=k) (part:=ZF H.bX xs) j;rw[hB]at D;simp only at D;refine cQ (λhpos=>?_) λhz0=>?_
    ·have N:ZF H.bX xs j≠[]:=λe=>by rw[e]at W;simp at W;omega
     rw[zB N]at D;obtain⟨Y,hY,_,_⟩:=K.h.ar hB;refine aG (K.h.hd.rS rfl (K.h.rA hY (C.rI rfl ?_)));refine SU K.h hB hY (k:Int) (dI.gQ M) (λb _ S hp=>(K.p b hp).2.1 (.inr S)) (λx hx'=>(hx x (zI.1 hx').1).1) ?_ (dI.cap M) λw1 e1 g=>?_
     ·have:=qX (λx=>XN H.bX x==(j:Int)) xs;simp only[ZF];omega
     ·have hz1:=e1.1;rw[←D]at g;refine cP (m:=j+1) O O ⟨⟨j+1,rfl,O,Q,_,K.to e1 g λb _ d=>d,(mq.loc _ _).bS V e1 λb _ S hp=>(K.p b hp).2.1 (.inr S),K.cU e1 C (.inl rfl),hQ⟩,O⟩
    ·have N:ZF H.bX xs j=[]:=yO O;rw[zC N]at D;refine cP (m:=j+1) O O ⟨⟨j+1,rfl,O,Q,P,by rw[D];exact K,V,C,hQ⟩,O⟩
   ·have hjj:j=H.bX.length:=by simp only at hge;omega
    subst hjj;rw[G]at hR;exact hR w K.e (K.fin h)
  ·refine V.get (hpl _) hown λs M W=>C.rS rfl ?_;refine cO (λheq=>?_) λN=>?_
   ·have heq':(ZF H.bX xs own).length=xs.length:=by simp only[zT]at heq;omega
    rw[zC heq']at G hJ;have hS:mY (λu=>(∃P' H',HH u P' L H'/\H'.tb=H.tb)/\bY u U.size [.int .i64 (k:Int),.slice sl.a sl.len sl.cap]) L H.tb:=λm hm=>by
     obtain⟨⟨P',H',g,h2⟩,_⟩:=hm;exact⟨P',L.ts,H',g,h2⟩
    refine⟨λu=>(∃P' H',HH u P' L H'/\H'.tb=H.tb)/\bY u U.size [.int .i64 (k:Int),.slice sl.a sl.len sl.cap],⟨⟨_,_,K.h,rfl⟩,C⟩,aG (hS.fM (hS.rA K.h hY ?_))⟩;refine⟨(k:Int),λm hm=>by rw[add_lit,hm.2.cell];rfl,⟨sl,λm hm=>by rw[add_lit,hm.2.cell];rfl,?_⟩⟩;refine LX K.h hA hY (k:Int) (hs1 w K.e) (λx hx'=>(hx x hx').1) λw1 e1 g=>?_;have K1:=K.to e1 g λb _ d=>d;refine⟨⟨⟨_,_,g,rfl⟩,K.cU e1 C (.inl rfl)⟩,?_⟩;have fin:∀r,r=K0 A (k:Int) xs->((r=true->R w1)/\(r=false->J w1)):=λr hr=>by
     refine⟨λhr1=>?_,λhr1=>hJ w1 ⟨λhx=>Bool.noConfusion ((hr1.symm.trans hr).trans hx.2),Q,_,K1,(mq.loc _ _).bS V e1 λb _ S hp=>(K.p b hp).2.1 (.inr S),K.cU e1 C (.inl rfl),hQ⟩⟩;rw[zC ⟨heq',by rw[←hr,hr1]⟩]at G;rw[G]at hR;exact hR w1 K1.e (K1.fin h)
    refine KJ (λr w=>w=w1/\r=K0 A (k:Int) xs) (λr w' ⟨hw,hr⟩=>?_) λJ3 hJ3=>?_
    ·subst hw;exact cO (λg=>(fin r hr).1 g) λg=>(fin r hr).2 g
    ·refine cO (λg=>hJ3 _ _ ⟨rfl,?_⟩) λg=>hJ3 _ _ ⟨rfl,g.symm⟩;have:Ha A (k:Int) xs=0:=by
      unfold K0 at g;simp only[zF,zU]at g;exact g.1
     rw[this,g];rfl
   ·have hne':¬(ZF H.bX xs own).length=xs.length:=by
     simp only[mJ]at N;omega
    rw[zB hne']at hJ;exact hJ w ⟨λhx=>hne' hx.1,Q,P,K,V,C,hQ⟩
theorem gD {w:Hp}(K:HK F U B w P L H)(hB:B n){p q:Int}(hb:bY w n [.int .i64 p,.int .i64 q]){x y:Int}{K':Int->Int->Hp->Prop}(hK:∀w',HK F U B w' P L H->K' x y w') :
 dX (Addr.add ⟨n,0,none⟩ 0) (.int .i64 x) w λv3=>dX (Addr.add ⟨n,0,none⟩ 1) (.int .i64 y) v3 λv4=>gA .i64 (Addr.add ⟨n,0,none⟩ 0) v4 λres=>gA .i64 (Addr.add ⟨n,0,none⟩ 1) v4 λoQ=>K' res oQ v4:=
 hb.s1 aA λv3 o3 a=>a.s1 aA λv4 o4 b4=>b4.rI rfl (b4.rI rfl (hK v4 ((K.own o3 hB).own o4 hB)))
theorem Nr (h:HH U F L H)(ht:t<H.bQ.length)(x:Int)(hx:iE x)(hr:bV H.live x=none->∀A∈H.bX,iK A)(hlen:∀g,H.bQ[t]?=some g->g.bP.length<=1000)(h0:∀b,bV H.live x=some b->0<=x){R:Value->Int->Int->Hp->Prop}
 (hR:∀σ' ts',Ext F U σ'->HH σ' (Grow F U) {L with ts:=ts'} (UO H t x).1->R (mM (UO H t x).2.1) (UO H t x).2.2.1 (UO H t x).2.2.2 σ'):Zl.c (aW L.p) (t:Int) x U R:=by
 refine Zl.o ?_;unfold Zl.v;refine nw (cs:=[.int .i64 0,.int .i64 0]) λv hz e hb=>?_;have K1:=(HK.start h).box e hz;refine aG (K1.h.hd.rM rfl ⟨_,K1.h.kC,?_⟩);refine nw (cs:=[.int .i64 0,.int .i64 0,.int .i64 0,.int .i64 0]) λv1 hz1 e1 hb1=>?_;have K2:=K1.box e1 hz1;have hbv:=e1.bT hb id;have m:U.size≠v.size:=by omega
 refine hb1.s1 aA λv2 o2 b2=>b2.s1 aA λv3 o3 b3=>b3.s1 aA λv4 o4 b4=>b4.s1 aA λv5 o5 b5=>?_;have K5:=(((K2.own o2 (.inr rfl)).own o3 (.inr rfl)).own o4 (.inr rfl)).own o5 (.inr rfl);have B:=Ws o5 (Ws o4 (Ws o3 (Ws o2 hbv m) m) m) m;have hL:L = {L with ts:=L.ts}:=rfl;cases hm:bV H.live x with
 | none=>
  have hno:UO H t x=(H,none,0,lC H x):=by unfold UO;rw[hm]
  rw[hno]at hR;simp only at hR;refine cD rfl ?_;refine su (λw=>lC H x=8/\bK v5 w) (λw ⟨h8,ew⟩=>?_) λJ W=>?_
  ·rw[h8]at hR;exact gD (n:=U.size) (K5.fr ew) (.inl (.inr rfl)) (ew.bT B id) λD K'=>hR D L.ts K'.e (K'.fin h)
  ·refine G0 K5.h x hx λv9 K=>?_;have K9:=K5.fr K;have hb9:=K.bT B id;refine cQ (λac=>?_) λhlt=>W v9 ⟨zB O,K⟩;have Q:=yY ac;obtain⟨A,hA⟩:∃A,H.bX[(XN H.bX x).toNat]?=some A:=⟨_,cT Q.1⟩;obtain⟨Y,hY,_,hAY⟩:=K9.h.ar hA;have a:lC H x=(match UR A x with
    | some (k,y)=>if 0<=k/\(y:Int)=x then(9:Int)else 8
    | none=>8):=by unfold lC;rw[zC ac,hA];rfl
   rw[Q.2];refine aG (K9.h.hd.rS rfl (K9.h.rA hY ?_));refine Rb hAY (hr hm A (zG hA)) x hx (λG k y d hf=>?_) λG d hf=>?_
   ·rw[hf]at a;simp only at a;rw[a]at hR W;have K10:=K9.fr d;have ab:=d.bT hb9 id;refine KJ (λr w=>w=G/\r=decide (0<=k)) (λr w ⟨X,i⟩=>?_) λJ1 z=>?_
    ·subst X;subst i;refine KJ (λr w2=>w2=w/\r=decide (0<=k/\(y:Int)=x)) (λr w2 ⟨X,i⟩=>?_) λJ2 M=>?_
     ·subst i;rw[X];refine cQ (λC=>?_) λC=>?_
      ·rw[zC C]at hR;exact gD (n:=U.size) K10 (.inl (.inr rfl)) ab λD K'=>hR D L.ts K'.e (K'.fin h)
      ·exact W w ⟨zB C,K.trans d⟩
     ·refine cQ (λC=>M _ _ ⟨rfl,?_⟩) λC=>M _ _ ⟨rfl,?_⟩
      ·by_cases hyx:(y:Int)=x
       ·rw[zJ (⟨C,hyx⟩:0<=k/\(y:Int)=x),zT.2 hyx]
       ·rw[zM (λhx=>hyx hx.2),mJ.2 hyx]
      ·rw[zM (λhx=>C hx.1)]
    ·exact cD rfl (z _ _ ⟨rfl,rfl⟩)
   ·rw[hf]at a;simp only at a;rw[a]at W;refine KJ (λr w=>w=G/\r=false) (λr w ⟨X,i⟩=>?_) λJ1 z=>cB rfl (z _ _ ⟨rfl,rfl⟩);subst X;subst i;exact bW.intro (cB rfl (cB rfl (W w ⟨rfl,K.trans d⟩)))
 | some b=>
  have hb0:=h0 b hm;have hfd:UO H t x=(if b.2.2.1<0 then({H with live:=cR H.live x},some (.dC (x/256) b.2.2.2),0,0)
   else(QI {H with live:=cR H.live x} t b.2.2.1.toNat [x],some (.put b.2.2.1.toNat x),0,0)):=by unfold UO;rw[hm]
  rw[hfd]at hR;have hgb:(bV H.live x).getD ((0,0,0,0):Bk)=b:=by rw[hm];rfl
  rw[hgb]at b5;refine cB rfl ?_;refine aG (K5.h.hd.rM rfl ?_);obtain⟨hF,Z⟩:=K5.h.rk;refine⟨_,K5.h.kC,λv6 o6 _ hm6=>?_⟩;obtain⟨e6,h6⟩:=Z v6 _ (o6 _ rfl) hm6;have K6:=K5.to e6 h6 λb _ hb=>.inl hb;have aa:=K5.cU e6 B (.inl (.inr rfl));have s:=K5.cU e6 b5 (.inr rfl);refine s.rI rfl (cQ (λV=>?_) λhnn=>?_)
  ·have E:b.2.2.1<0:=V;rw[zC E]at hR;refine nz aB (ar (by rw[Yr O];omega) (by rw[Yr O];unfold iE at hx;omega) (s.rI rfl ?_));rw[Yr O];exact gD (n:=U.size) K6 (.inl (.inr rfl)) aa λD K'=>hR D L.ts K'.e (K'.fin h)
  ·have N:¬b.2.2.1<0:=hnn;rw[zB N]at hR;refine s.rI rfl (nw (cs:=[.int .i64 x]) λv7 hz7 e7 hb7=>?_);have K7:=K6.box e7 hz7;have P:=e7.bT aa id;have hc7:=e7.bT s id;have S:b.2.2.1=((b.2.2.1.toNat:Nat):Int):=by omega
   have hs7:cV ⟨some ⟨v6.size,0,none⟩,1,1⟩ 1 (Wo [x]) v7 (· = v6.size):=hb7.gQ (o:=0) rfl rfl λj hj=>by rw[zH];rfl
   have hz6:=K6.e.1;rw[S];refine GB K7.h (t:=t) ht b.2.2.1.toNat hs7 (zD _) aA (λq _ u hp=>(K7.p q hp).2.1 (.inr u)) (K7.o.1.sub λq u=>O) (λu=>K7.o.2 O) hlen λv8 ts8 e8 h8=>?_;have K8:=(K6.fr e7).si e8 h8 λq hql u=>by
    rcases u with u|u
    ·exact u.imp id .inl
    ·refine .inr (.inr ⟨.inr O,λhB=>?_⟩);have:=(K6.b q hB).2;omega
   have hb8:=K7.cU e8 P (.inl (.inl (.inr rfl)));have hc8:=K7.cU e8 hc7 (.inl (.inr rfl));refine hc8.rI (x:=((b.2.2.1.toNat:Nat):Int)) (by rw[←S];rfl) ?_;exact gD (n:=U.size) K8 (.inl (.inr rfl)) hb8 λD K'=>hR D ts8 K'.e (K'.fin h)
end Go.Ar
namespace Go.Ar
open Go Go.Vc Go.Proofs
variable {U u u':Hp}{F B P Q:Rg}{L:dK}{H H':Hw}{t k n pb:Nat}{A:AR}{Y:Lay}{x:eH}{g:Th}{c:bZ}{l:Li}{cs:List Value}
theorem ri {t' t:TypeId}{w:Value}{A B:Prop}(hne:t'≠t)(h:B):∃is:Bool,kb (.iface t' w) t [] [] is/\If is A B:=⟨false,⟨rfl,.inr ⟨_,_,rfl,hne⟩⟩,cB rfl h⟩
theorem ld {t' t:TypeId}{w:Value}{A B:Int->Prop}(hne:t'≠t)(h:B 0):∃x:Int,∃is:Bool,kb (.iface t' w) t [.int .i64 x] [.int .i64 0] is/\If is (A x) (B x):=⟨0,false,⟨rfl,.inr ⟨_,_,rfl,hne⟩⟩,cB rfl h⟩
theorem jc {t' t:TypeId}{w:Value}{A B:Int->Int->Prop}(hne:t'≠t)(h:B 0 0):∃x:Int,∃y:Int,∃is:Bool,kb (.iface t' w) t [.int .i64 x,.int .i64 y] [.int .i64 0,.int .i64 0] is/\If is (A x y) (B x y):=⟨0,0,false,⟨rfl,.inr ⟨_,_,rfl,hne⟩⟩,cB rfl h⟩
theorem Cn {t:TypeId}{A B:Prop}(h:A):∃is:Bool,kb (.iface t (.agg #[])) t [] [] is/\If is A B:=⟨true,rfl,cD rfl h⟩
theorem B1 {t:TypeId}{a:Int}{A B:Int->Prop}(h:A a):∃x:Int,∃is:Bool,kb (.iface t (.agg #[.int .i64 a])) t [.int .i64 x] [.int .i64 0] is/\If is (A x) (B x):=⟨a,true,rfl,cD rfl h⟩
theorem xj {t:TypeId}{a b:Int}{A B:Int->Int->Prop}(h:A a b):∃x:Int,∃y:Int,∃is:Bool,kb (.iface t (.agg #[.int .i64 a,.int .i64 b])) t [.int .i64 x,.int .i64 y] [.int .i64 0,.int .i64 0] is/\If is (A x y) (B x y):=⟨a,b,true,rfl,cD rfl h⟩
theorem HH.tc (h:HH u P L H)(hx:L.ts[t]?=some x)(hg:H.bQ[t]?=some g){b o:Nat}(ha:L.cN.a=some ⟨b,o,none⟩){d:Nat}(hd:d<3){v:Value}(hv:(jv (x,g))[d]?=some v):cell u (Addr.add ⟨b,o+3*t,none⟩ d)=some v:=by
 obtain⟨j,m,e,i⟩:=GR h.mX hx hg hd hv;rw[ha]at e;cases e;rw[add_lit,show o+3*t+d=o+(3*t+d) by omega];exact i
theorem HH.wh (h:HH u P L H)(hP:∀b,P b->b<u.size)(hx:L.ts[t]?=some x)(hg:H.bQ[t]?=some g)(N:Rg)(hN:∀b,b<u.size->P b->¬N b)(oN:iN N)(oN2:¬N 1) :
 ∃G D:Rg,(∀b,G b->P b)/\(∀b,D b->P b)/\(∀b,G b->¬D b)/\iq x.h g.bP u G/\(∀u1,Ext G u u1->cV L.cN 3 (gI L.ts H.bQ) u1 D) ∧
 ∀(u1:Hp) (s:Sl) (bs:List Bt) (G':Rg),Ext G u u1->(∀b,G' b->G b\/N b)->iq s bs u1 G'->∀{b o:Nat} (ha:L.cN.a=some ⟨b,o,none⟩) {K:aP},
  (∀u2,Ext D u1 u2->HH u2 (λb=>P b/\¬G b\/G' b/\b<u1.size) {L with ts:=L.ts.set t {x with h:=s}} {H with bQ:=H.bQ.set t {g with bP:=bs}}->K u2) →
  dX (Addr.add ⟨b,o+3*t,none⟩ 1) (.slice s.a s.len s.cap) u1 K:=by
 have W:=h.lW;have F:=Ho h.s.ts;have S:=(cW.1 hg).1;obtain⟨G,D,z,y,hd,R,E,_,w⟩:=h.rr hx hg N hN oN oN2;have p:∀u1,Ext G u u1->bR L.cN 3 (gI L.ts H.bQ) u1 D:=λu1 e=>aI.bS E e λb _ d hx=>hd b hx d;refine⟨G,D,z,y,hd,R,λu1 e=>bR.gQ (p u1 e),λu1 s bs G' e i C b o ha K M=>?_⟩;have Q:o=0:=by
  rcases E.2 with⟨h0,_⟩|⟨J,_,_,ha',_⟩
  ·omega
  ·rw[ha]at ha';cases ha';rfl
 subst Q;have m:∀b,G' b->¬D b:=λb d hx=>by
  rcases i b d with h1|h1
  ·exact hd b h1 hx
  ·exact hN b (hP b (y b hx)) (y b hx) h1
 refine(p u1 e).st (j:=3*t+1) O (λJ r=>by rw[ha]at r;cases r;rw[add_lit];congr 1;omega) λu2 e2 A=>?_;have B:=(iq.loc _ _).bS ((iq.loc _ _).cut C) e2 λb _ d hx=>m b d.1 hx;obtain⟨V,U⟩:=w u2 s bs (Cut G' u1) D ((e.sub λb d=>.inl d).trans (e2.sub λb d=>.inr d)) (λb d=>(i b d.1).imp .inl id) (λb d=>.inl (.inr d)) (λb d=>m b d.1) B A;refine M u2 e2 (U.mono (λb _ d=>?_) (λb (d:P b/\¬G b\/G' b/\b<u1.size)=>?_) λ(d:P _/\¬G _\/G' _/\_<u1.size)=>?_)
 ·rcases d with d|d|d
  ·exact .inl ⟨d.1,λhx=>d.2.2 (.inl hx)⟩
  ·exact .inr d
  ·exact .inl ⟨y b d,λhx=>hd b hx d⟩
 ·rcases d with d|d
  ·exact h.o b d.1
  ·exact(i b d.1).elim (λhx=>h.o b (z b hx)) (oN b)
 ·rcases d with d|d
  ·exact h.o2 d.1
  ·exact(i _ d.1).elim (λhx=>h.o2 (z _ hx)) oN2
theorem iq.my {s:Sl}{G:Rg}{xs:List Int}{r:List Bt}(h:iq s ((k,xs)::r) u G):∃(so:Sl) (ps:List (Nat×Sl)) (D:Rg),dI s 2 (fD ((k,so)::ps)) u (λb=>G b/\¬D b)/\cV so 1 (Wo xs) u (λb=>D b/\kG so b)/\so.len<=so.cap/\ku ps r u (λb=>D b/\¬kG so b)/\(∀b,D b->G b)/\uS ps/\(∀x∈r,x.2≠[])/\xs≠[]:=by
 obtain⟨ps,D,g,j,E,M,d⟩:=h;cases ps with
 | nil=>have:=j.1;simp at this
 | cons p ps=>
  obtain⟨B,so⟩:=p;obtain⟨e1,w,z⟩:=j.2 0 (B,so) (k,xs) rfl rfl;simp only at e1 w z;subst e1;have e:=r9.1 M;refine⟨so,ps,D,g,w.lD,z,⟨by have:=j.1;simpa using this,λi p x y m=>?_⟩,E,e.2,λx m=>d x (nA _ m),d _ oT⟩;obtain⟨K,C,J⟩:=j.2 (i+1) p x (by simpa using y) (by simpa using m);refine⟨K,aH.mono C.lD λb _ A=>⟨A.1,?_⟩,J⟩;rintro⟨a,h1,h2⟩;obtain⟨H,F,L⟩:=A.2;exact e.1 p (zG y) a H h1 F (h2.trans L.symm)
theorem iq.lI {s:Sl}{G:Rg}{b:Bt}{r:List Bt}(h:iq s (b::r) u G):iq ⟨if s.cap=1 then s.a else s.a.map (·.add (1*2)),s.len-1,s.cap-1⟩ r u G:=by
 have i:=h.len;obtain⟨k,x⟩:=b;obtain⟨y,g,D,d,A,B,j,m,w,e,z⟩:=h.my;exact⟨g,D,d.from (lo:=1) (by simp at i;omega),(ku.loc _ _).mono j λb _ p=>p.1,m,w,e⟩
theorem CQ {s so:Sl}{ps:List (Nat×Sl)}{G:Rg}(h:cV s 2 (fD ((k,so)::ps)) u G){K:Addr->Prop}(hK:∀a,cell u (Addr.add a 0)=some (.int .i64 (k:Int))->cell u (Addr.add a 1)=some (.slice so.a so.len so.cap)->K a):Ix s.a s.len 0 2 K:=by
 obtain⟨b,o,g,m⟩:=h.cell (j:=0) (v:=.int .i64 (k:Int)) rfl;obtain⟨p,r,d,e⟩:=h.cell (j:=1) (v:=.slice so.a so.len so.cap) rfl;have i:=h.1;rw[Kz]at i;simp only[zY]at i;rw[g]at d;cases d;rw[g];refine ix O O ?_;rw[add_lit];exact hK _ (by rw[add_lit];exact m) (by rw[add_lit];exact e)
theorem iq.app {s s2:Sl}{G Q:Rg}{bs bs2:List Bt}{e:Nat}(h:iq s bs u G)(h2:iq s2 bs2 u Q)(hd:∀b,G b->¬Q b)(hl:bs.length+bs2.length<=1000){K:Sl->Hp->Prop}
 (hK:∀s' u',Ext G u u'->iq s' (bs++bs2) u' (λb=>G b\/Q b\/u.size<=b)->K s' u'):App s 2 32 e [.int .i64 0,.slice none 0 0] s2 u K:=by
 have l1:=h.len;have l2:=h2.len;obtain⟨M,D,y,E,S,F,z⟩:=h;obtain⟨J,D2,A,m,r,V,w⟩:=h2;by_cases h0:s2.len=0
 ·have N:bs2=[]:=yO O;subst N;refine y.sR h0 (by
   have:s.len*32<=1000*32:=l0 (by simp at hl;omega) O;omega) (by simp at hl;omega) λP=>hK _ u (Ext.refl _ _) ?_
  rw[kI];exact⟨M,D,(dI.loc _ _ _).mono P λb _ d=>⟨.inl d.1,d.2⟩,E,λb d=>.inl (S b d),F,z⟩
 ·have e1:(s.len+s2.len)*32<=1000*32:=l0 O O;refine((dI.loc _ _ _).cut y).app (ys:=fD J) rfl (by rw[Kz];have:=m.1;omega) A.gQ.rd US O O O λs' u' _ L P=>hK s' u' (L.sub λb d=>d.1.1) ?_;have hz:=L.1;have R:=E.1;refine⟨M++J,λb=>D b/\b<u.size\/D2 b/\b<u.size,?_,⟨by simp[E.1,m.1],λi p x C g=>?_⟩,λb d=>?_,pD.2 ⟨F,V,λp C q hq a a' Z Y e3=>?_⟩,λx g=>(zK.1 g).elim (z x) (w x)⟩
  ·rw[UK];refine(dI.loc _ _ _).mono P λb _ d=>?_;rcases d with d|d
   ·exact⟨.inl d.1.1,λg=>g.elim (λg=>d.1.2 g.1) λg=>hd b d.1.1 (r b g.1)⟩
   ·exact⟨.inr (.inr d),λg=>by rcases g with g|g<;>omega⟩
  ·rcases kg i M.length with B|B
   ·rw[ze B]at C;rw[ze O]at g;obtain⟨X,U,W⟩:=E.2 i p x C g;exact⟨X,aH.mono (aH.bS (aH.cut U) L λb _ d g=>g.1.2 d.1) λb _ d=>.inl d,W⟩
   ·rw[zr B]at C;rw[zr O,←R]at g;obtain⟨X,U,W⟩:=m.2 _ p x C g;exact⟨X,aH.mono (aH.bS (aH.cut U) L λb _ d g=>hd b g.1.1 (r b d.1)) λb _ d=>.inr d,W⟩
  ·rcases d with d|d
   ·exact .inl (S b d.1)
   ·exact .inr (.inl (r b d.1))
  ·obtain⟨i,B⟩:=zQ C;obtain⟨j,F⟩:=zQ hq;have hil:=(cW.1 B).1;have hjl:=(cW.1 F).1;have hy:bs[i]?=some (bs[i]' O):=cT _;have H:bs2[j]?=some (bs2[j]'(by have:=m.1;omega)):=cT _;have b1:=(E.2 i p _ B hy).2.1.bT (by simpa[Wo]using z _ (zG hy)) ⟨a,Z,rfl⟩;have b2:=(m.2 j q _ F H).2.1.bT (by simpa[Wo]using w _ (zG H)) ⟨a',Y,rfl⟩;rw[e3]at b1;exact hd _ (S _ b1.1) (r _ b2.1)
theorem HK.vT (K:HK F U B u P L H){B':Rg}(h1:∀b,B' b->U.size<=b/\b<u.size/\¬P b):HK F U (λb=>B b\/B' b) u P L H:=
 ⟨K.h,K.e,λb a=>⟨(K.p b a).1,λg=>g.elim (K.p b a).2.1 λd=>(h1 b d).2.2 a,(K.p b a).2.2⟩,λb a=>a.elim (K.b b) λd=>⟨(h1 b d).1,(h1 b d).2.1⟩,K.o⟩
theorem Zr (hg:H.bQ[t]?=some g)(f:Th->Th):H.dT t f = {H with bQ:=H.bQ.set t (f g)}:=by
 unfold Hw.dT;rw[KP hg]
theorem H6 (hg:H.bQ[t]?=some g):H.jK t=g:=by unfold Hw.jK;rw[zP,hg];rfl
theorem VY (hc:H.tb[k]?=some c):H.cls k=c:=by unfold Hw.cls;rw[zP,hc];rfl
theorem xM (hl:g.ls[k]?=some l):g.li k=l:=by unfold Th.li;rw[zP,hl];rfl
theorem yZ (ha:H.bX[H.own t]?=some A):H.eB t=A:=by unfold Hw.eB;rw[zP,ha];rfl
theorem jY (h:HS L H)(t:Nat):H.own t<H.bX.length:=uG _ (by have:=h.a1;omega)
theorem HH.Bs (h:HH u P L H)(hx:L.ts[t]?=some x)(hg:H.bQ[t]?=some g):g.ls.length=H.tb.length:=by
 obtain⟨G,_,a,_⟩:=h.po hx hg;exact a.len
theorem CM (ha:H.bX[k]?=some A):H.cC k A=H:=by unfold Hw.cC;rw[Z9 ha]
theorem MC (l:List Nat):ints l=Wo (l.map λ(x:Nat)=>(x:Int)):=by simp[ints,Wo]
theorem GL (f:bZ->Li->List Int×Li)(tb:List bZ)(ls:List Li):(Q1 f tb ls).length<=tb.length:=by
 unfold Q1;exact zh (List.length_filterMap_le _ _) aA
theorem HH.qV (h:HH u P L H):H.tb.length<=40:=by
 obtain⟨x,g,d,b⟩:=h.th (t:=0) h.s.t1;obtain⟨G,_,a,_⟩:=h.po d b;exact a.nC
theorem N2 {s:Sl}{b o:Nat}(ha:s.a=some ⟨b,o,none⟩)(hl:0<s.len){K:Addr->Prop}(hK:K ⟨b,o+0,none⟩):Ix s.a s.len 0 1 K:=by
 rw[ha];exact ix (uY _) O (by rw[add_lit];exact hK)
theorem RF {s:Sl}{ps:List (Nat×Sl)}{G:Rg}(h:cV s 2 (fD ps) U G)(hl:s.len<=1000000){R:Sl->Hp->Prop}(hR:∀s' σ',s'.len=s.len->bK U σ'->bR s' 2 (fD ps) σ' (λb=>U.size<=b)->R s' σ'):Wq.c s U R:=by
 refine Wq.o ?_;unfold Wq.v;exact DK h O rfl US O hl hR
def ui (H:Hw)(t:Nat):Ph->Prop
 | .take k=>k<H.tb.length/\∀y l,Q0 (H.cls k) ((H.jK t).li k)=(some y,l)->iE y
 | .cI k _=>k<H.tb.length/\(ZZ (H.eB t) (k:Int)=0->Yp (H.eB t) (k:Int)≠[])
 | .cJ _ _=>True
 | .grow _ _=>True
 | .fill=>∃k x xs r,(H.jK t).bP=(k,x::xs)::r/\k<H.tb.length/\iE x/\((H.jK t).li k).os.length+xs.length<=256
 | .eD m=>ZY (H.eB t) H.sp (m:Int) 1<=1000000
 | .find x=>iE x/\(bV H.live x=none->∀A∈H.bX,iK A)/\∀b,bV H.live x=some b->0<=x
 | .put k _=>k<H.tb.length/\(H.jK t).bP≠[]
 | .back=>∃k xs r,(H.jK t).bP=(k,xs)::r/\(∀x∈xs,iE x/\0<=XN H.bX x)/\xs.length<=1000000
 | .dC _ a=>0<=a/\a.toNat<H.bX.length/\∀A∈H.bX,∀r∈A.runs,r.1<=1000000
 | .drain=>True
def Lo (U:Hp)(F:Rg)(L:dK)(o:sD)(R:Value->Int->Int->Hp->Prop):Prop:=∀σ' ts',Ext F U σ'->HH σ' (Grow F U) {L with ts:=ts'} o.1->R (mM o.2.1) o.2.2.1 o.2.2.2 σ'
set_option maxRecDepth 8000 in
theorem MG (hso:Ga)(h:HH U F L H)(ht:t<H.bQ.length)(p:Ph)(hp:ui H t p)(hlen:∀g,H.bQ[t]?=some g->g.bP.length<=900){R:Value->Int->Int->Hp->Prop}(hR:Lo U F L (Wt H t p) R) :
 Zi.c (aW L.p) (t:Int) (mM (some p)) U R:=by
 refine Zi.o ?_;unfold Zi.v;have hlen':∀g,H.bQ[t]?=some g->g.bP.length<=1000:=λg hg=>by have:=hlen g hg;omega
 refine nw (cs:=[.int .i64 0,.int .i64 0]) λv hz e i=>?_;have K1:=(HK.start h).box e hz;obtain⟨x,g,E,hg⟩:=h.th ht;have hlen:=hlen g hg;have htg:=H6 hg;have hol:=jY h.s t;obtain⟨A,hA⟩:∃A,H.bX[H.own t]?=some A:=⟨_,cT hol⟩;have hAe:=yZ hA;obtain⟨Y,hY,_,_⟩:=h.ar hA;refine aG (K1.h.hd.rS rfl ?_);refine Ba K1.h.mX K1.h.s.ts E hg (d:=0) O rfl λtb0 to0 ha _=>?_;have hS1:mY (λu=>u=v) L H.tb:=λm hm=>by cases hm;exact⟨_,L.ts,H,K1.h,rfl⟩
 refine⟨λu=>u=v,rfl,aG (hS1.fM (DL K1.h t ⟨rfl,K1.h.rA hY ⟨rfl,?_⟩⟩))⟩;refine su (λw=>∃P ts',HK F U (λb=>False\/b=U.size) w P {L with ts:=ts'} (Wt H t p).1/\bY w U.size [.int .i64 0,.int .i64 0]/\(Wt H t p).2=(none,0,0)) (λw ⟨P,ts',K,hbw,Z⟩=>?_) λJ hJ=>?_
 ·refine gD (n:=U.size) K (.inr rfl) hbw λw' K'=>?_;have:=hR w' ts' K'.e (K'.fin h);rw[Z]at this;exact this
 cases p with
 | take k=>
  obtain⟨hk,hy9⟩:k<H.tb.length/\∀y l,Q0 (H.cls k) ((H.jK t).li k)=(some y,l)->iE y:=hp;obtain⟨c,hc⟩:∃c,H.tb[k]?=some c:=⟨_,cT hk⟩;have hll:=h.Bs E hg;obtain⟨l,hl⟩:∃l,g.ls[k]?=some l:=⟨_,cT (by rw[hll];exact hk)⟩;have hce:=VY hc;have hle:=xM hl;rw[hce,htg,hle]at hy9;refine B1 (nw (cs:=[.int .i64 0]) λv5 M W N=>?_);have K5:=K1.box W M;refine N.s0 aA λv6 o6 hb6=>?_;have K6:=K5.own o6 (.inr rfl);have C:=Ws o6 (W.bT i id) O;refine⟨λu=>u=v6,rfl,aG ⟨some ⟨x.c.p,0,none⟩,λu V=>by cases V;exact K6.h.tc E hg ha O rfl,⟨(k:Int),λu V=>by cases V;rw[add_lit,hb6.cell];rfl,?_⟩⟩⟩;refine NF K6.h E hg hc hl λv7 ts7 X h7=>?_;have K7:=K6.to X h7 λb _ i=>i;have hb7:=K6.cU X hb6 (.inr rfl);have B:=K6.cU X C (.inl (.inr rfl));cases htk:Q0 c l with
  | mk o l'=>
  rw[htk]at h7 K7;cases o with
  | some y=>
   have Z:Wt H t (.take k)=(Vt (H.dR t g (g.ls.set k l')) y (c.size:Int) (k:Int),none,y,0):=by
    simp only[Wt,hce,htg,hle,htk,Zr hg];rfl
   rw[Z]at hR;have hS2:mY (λu=>(∃P ts H',HH u P {L with ts:=ts} H'/\H'.tb=H.tb)/\bY u v.size [.int .i64 (k:Int)]) L H.tb:=λm hm=>hm.1;refine cD rfl ⟨λu=>(∃P ts H',HH u P {L with ts:=ts} H'/\H'.tb=H.tb)/\bY u v.size [.int .i64 (k:Int)],⟨⟨_,_,_,K7.h,rfl⟩,hb7⟩,aG (hS2.dD ⟨(k:Int),λu V=>by rw[add_lit,V.2.cell];rfl,?_⟩)⟩;refine mY.rC (L:={L with ts:=ts7}) (H:=H.dR t g (g.ls.set k l')) hS2 K7.h hc ⟨(k:Int),λu V=>by rw[add_lit,V.2.cell];rfl,?_⟩;refine Bm K7.h y (c.size:Int) (k:Int) (hy9 y l' htk) λv8 e8 h8=>?_;have K8:=K7.to e8 h8 λb _ i=>.inl i;refine⟨⟨⟨_,_,_,h8,rfl⟩,K7.cU e8 hb7 (.inr rfl)⟩,?_⟩;exact gD (n:=U.size) K8 (.inl (.inr rfl)) (K7.cU e8 B (.inl (.inr rfl))) λw' K'=>hR w' ts7 K'.e (K'.fin h)
  | none=>
   have Z:Wt H t (.take k)=(H.dR t g (g.ls.set k l'),some (.cI k (nZ c l')),0,0):=by
    simp only[Wt,hce,htg,hle,htk,Zr hg];rfl
   rw[Z]at hR;have htlt:=(cW.1 hg).1;have hklt:=(cW.1 hl).1;have hg7:(H.dR t g (g.ls.set k l')).bQ[t]?=some {g with ls:=g.ls.set k l'}:=by simp[Hw.dR,htlt]
   obtain⟨x7,g7,hx7,_⟩:=K7.h.th (t:=t) (by simp[Hw.dR,htlt]);have hl7:({g with ls:=g.ls.set k l'}:Th).ls[k]?=some l':=by simp[hklt]
   refine cB rfl ⟨λu=>u=v7,rfl,aG ⟨some ⟨x7.c.p,0,none⟩,λu V=>by cases V;exact K7.h.tc hx7 hg7 ha O rfl,⟨(k:Int),λu V=>by cases V;rw[add_lit,hb7.cell];rfl,?_⟩⟩⟩;refine OZ K7.h hx7 hg7 hc hl7 λv8 ts8 e8 h8=>?_;have K8:=K7.to e8 h8 λb _ i=>i;refine(K7.cU e8 hb7 (.inr rfl)).rI rfl ?_;exact gD (n:=U.size) K8 (.inl (.inr rfl)) (K7.cU e8 B (.inl (.inr rfl))) λw' K'=>hR w' ts8 K'.e (K'.fin h)
 | cI k w=>
  obtain⟨hk,hne0⟩:k<H.tb.length/\(ZZ (H.eB t) (k:Int)=0->Yp (H.eB t) (k:Int)≠[]):=hp;rw[hAe]at hne0;obtain⟨c,hc⟩:∃c,H.tb[k]?=some c:=⟨_,cT hk⟩;have hce:=VY hc;refine ld aB (xj (nw (cs:=[.int .i64 0,.int .i64 0]) λv5 M W N=>?_));have K5:=K1.box W M;refine N.s1 aA λv5b o5 b5=>b5.s1 aA λv6 o6 b6=>?_;have K6:=(K5.own o5 (.inr rfl)).own o6 (.inr rfl);have S:U.size≠v.size:=by omega
  have C:=Ws o6 (Ws o5 (W.bT i id) S) S;refine su (λu=>(∃P',HK F U (λb=>(False\/b=U.size)\/b=v.size) u P' L H)/\bY u U.size [.int .i64 0,.int .i64 0]/\bY u v.size [.int .i64 (k:Int),.int .i64 (w:Int)]/\Wt H t (.cI k w)=(H,some (.cJ k w),0,0)) (λu ⟨⟨P',K⟩,hbw,hbx,Z⟩=>?_) λJ1 hJ1=>?_
  ·rw[Z]at hR;exact hbx.rI rfl (hbx.rI rfl (gD (n:=U.size) K (.inl (.inr rfl)) hbw λw' K'=>hR w' L.ts K'.e (K'.fin h)))
  ·refine b6.rI rfl (aG (K6.h.hd.rS rfl (b6.rI rfl (GV K6.h.jE hc (d:=2) O ?_))));simp only[zB (show ¬(2=0) by omega),zB (show ¬(2=1) by omega)];refine cO (λheq=>b6.rI rfl ?_) λhne'=>hJ1 v6 ⟨⟨_,K6⟩,C,b6,?_⟩
   ·have heq':w=c.batch:=by simp only[zT]at heq;omega
    refine Gf K6.h hA hY (k:Int) λs v7 Q X hQ hs7 hcap h7=>?_;have K7:=K6.to X h7 λb _ i=>i.1;have b7:=K6.cU X b6 (.inr rfl);have B:=K6.cU X C (.inl (.inr rfl));refine cO (λh0=>b7.rI rfl ?_) λhn0=>?_
    ·have h0':ZZ A (k:Int)=0:=by simpa using h0
     have Z:Wt H t (.cI k w)=(QI (H.cC (H.own t) (Zx A (k:Int))) t k (Yp A (k:Int)),some .fill,0,0):=by
      simp only[Wt,hce,hAe,heq',h0',zS]
     rw[Z]at hR;refine GB K7.h (t:=t) ht k hs7 hcap (hne0 h0') (λb _ z E=>E.1.2 z) (K6.h.o.sub hQ) (λz=>K6.h.o2 (hQ _ z)) hlen' λv8 ts8 e8 h8=>?_;have K8:=K7.si e8 h8 λb i z=>by
      rcases z with z|z
      ·exact z.imp id .inl
      ·exact .inr (.inr ⟨(K6.p b (hQ b z)).1,(K6.p b (hQ b z)).2.1⟩)
     exact gD (n:=U.size) K8 (.inl (.inr rfl)) (K7.cU e8 B (.inl (.inr rfl))) λw' K'=>hR w' ts8 K'.e (K'.fin h)
    ·have hn0':ZZ A (k:Int)≠0:=by simpa using hn0
     have hsame:Zx A (k:Int)=A:=by unfold Zx;rw[zB hn0']
     rw[hsame,CM hA]at K7;refine hJ1 v7 ⟨⟨_,K7⟩,B,b7,?_⟩;simp only[Wt,hce,hAe,heq',zB hn0',zS]
   ·have hne2:w≠c.batch:=λe=>by rw[e]at hne';simp at hne'
    simp only[Wt,hce,zB hne2]
 | cJ k w=>
  refine ld aB (jc aB (xj (nw (cs:=[.int .i64 0,.int .i64 0]) λv5 M W N=>?_)));have K5:=K1.box W M;refine N.s1 aA λv5b o5 b5=>b5.s1 aA λv6 o6 b6=>?_;have K6:=(K5.own o5 (.inr rfl)).own o6 (.inr rfl);have S:U.size≠v.size:=by omega
  have C:=Ws o6 (Ws o5 (W.bT i id) S) S;refine b6.rI rfl (b6.rI rfl (LR K6.h hA hY (k:Int) (w:Int) λs v7 Q X hQ hs7 h7=>?_));have K7:=K6.to X h7 λb _ i=>i.1;have b7:=K6.cU X b6 (.inr rfl);have B:=K6.cU X C (.inl (.inr rfl));have hsl:s.len=(Ya A (k:Int) (w:Int)).length:=by have:=hs7.1;simp[ints]at this;omega
  by_cases hemp:Ya A (k:Int) (w:Int)=[]
  ·have Z:Wt H t (.cJ k w)=(H.cC (H.own t) (Yt A (k:Int) (w:Int)),some (.grow k w),0,0):=by
    simp only[Wt,hAe,zC hemp]
   rw[Z]at hR;refine fT (by rw[hsl,hemp];simp) (b7.rI rfl (b7.rI rfl ?_));exact gD (n:=U.size) K7 (.inl (.inr rfl)) B λw' K'=>hR w' L.ts K'.e (K'.fin h)
  ·have Z:Wt H t (.cJ k w)=(QI (H.cC (H.own t) (Yt A (k:Int) (w:Int))) t k ((Ya A (k:Int) (w:Int)).map λ(x:Nat)=>(x:Int)),some .fill,0,0):=by
    simp only[Wt,hAe,zB hemp]
   rw[Z]at hR;have hpos:=pX.2 hemp;refine lQ (by rw[hsl];omega) (b7.rI rfl ?_);have hs7':=bR.gQ hs7;rw[MC]at hs7';have hz6:=K6.e.1;refine GB K7.h (t:=t) ht k hs7' (bR.qP hs7) (by simpa using hemp) (λb _ z E=>E.1.2 z) (K6.o.1.sub λb i=>by have:=hQ b i;omega) (λz=>K6.o.2 (by have:=hQ _ z;omega)) hlen' λv8 ts8 e8 h8=>?_;have K8:=K7.si e8 h8 λb i z=>by
    rcases z with z|z
    ·exact z.imp id .inl
    ·have:=hQ b z;exact .inr (.inr ⟨.inr O,λhB=>by have:=(K6.b b hB).2;omega⟩)
   exact gD (n:=U.size) K8 (.inl (.inr rfl)) (K7.cU e8 B (.inl (.inr rfl))) λw' K'=>hR w' ts8 K'.e (K'.fin h)
 | grow k w=>
  refine ld aB (jc aB (jc aB (xj (nw (cs:=[.int .i64 0,.int .i64 0]) λv5 M W N=>?_))));have K5:=K1.box W M;refine N.s1 aA λv5b o5 b5=>b5.s1 aA λv6 o6 b6=>?_;have K6:=(K5.own o5 (.inr rfl)).own o6 (.inr rfl);have S:U.size≠v.size:=by omega
  have C:=Ws o6 (Ws o5 (W.bT i id) S) S;refine b6.rI rfl (Mj K6.h hA hY (k:Int) λv7 X h7=>?_);have K7:=K6.to X h7 λb _ i=>i;have b7:=K6.cU X b6 (.inr rfl);have B:=K6.cU X C (.inl (.inr rfl));refine cO (λhn0=>?_) λh0=>?_
  ·have hn0':KH A H.sp (k:Int)≠0:=by simpa using hn0
   have Z:Wt H t (.grow k w)=({H.cC (H.own t) (cL A H.sp (k:Int)).1 with sp:=(cL A H.sp (k:Int)).2},none,0,KH A H.sp (k:Int)):=by
    simp only[Wt,hAe,zB hn0']
   rw[Z]at hR;exact gD (n:=U.size) K7 (.inl (.inr rfl)) B λw' K'=>hR w' L.ts K'.e (K'.fin h)
  ·have h0':KH A H.sp (k:Int)=0:=by simpa using h0
   have Z:Wt H t (.grow k w)=({H.cC (H.own t) (cL A H.sp (k:Int)).1 with sp:=(cL A H.sp (k:Int)).2},some (.cJ k w),0,0):=by
    simp only[Wt,hAe,zC h0']
   rw[Z]at hR;refine b7.rI rfl (b7.rI rfl ?_);exact gD (n:=U.size) K7 (.inl (.inr rfl)) B λw' K'=>hR w' L.ts K'.e (K'.fin h)
 | fill=>
  obtain⟨k,y,ys,r,hh,hk,hy9,hfit⟩:∃k x xs r,(H.jK t).bP=(k,x::xs)::r/\k<H.tb.length/\iE x/\((H.jK t).li k).os.length+xs.length<=256:=hp;rw[htg]at hh hfit;obtain⟨c,hc⟩:∃c,H.tb[k]?=some c:=⟨_,cT hk⟩;have hll:=h.Bs E hg;obtain⟨l,hl⟩:∃l,g.ls[k]?=some l:=⟨_,cT (by rw[hll];exact hk)⟩;have hce:=VY hc;have hle:=xM hl;rw[hle]at hfit;refine ld aB (jc aB (jc aB (jc aB (Cn (nw (cs:=[]) λv5 M W N=>?_)))));have K5:=K1.box W M;have hbv5:=W.bT i id;obtain⟨G,D,hG,hD,hd,aa,hr,hput⟩:=K5.h.wh (λb i=>(K5.p b i).2.2) E hg (λ_=>False) (λb _ _ z=>z) (K5.o.1.sub λb i=>i.elim) (λz=>z);rw[hh]at aa;obtain⟨so,ps,Dn,hrow,hso1,hcap,hBr,hDn,hj,S,hxne⟩:=aa.my;have hz5':=K5.e.1;have hsol:so.len=ys.length+1:=by have:=hso1.1;simp[Wo]at this;omega
  refine aG (nH (K5.h.tc E hg ha (d:=1) O rfl) (CQ (dI.gQ hrow) λa ha0 ha1=>nR ha0 (nH ha1 ?_)));refine nw (cs:=[.int .i64 0,.slice none 0 0]) λv43 hz43 e43 hb43=>hb43.s1 aA λv44 o44 b44=>b44.s1 aA λv45 o45 b45=>?_;have e45:bK v5 v45:=(e43.only o44 (.inr (zD _))).only o45 (.inr (zD _));have hz45:v5.size<v45.size:=b45.lt;refine aG (hput v45 ⟨none,0,0⟩ [] (λ_=>False) (bK.to e45) (λb i=>i.elim) (iq.nil _ _ _) ha λv46 e46 h46=>?_);have hz46:=e46.1;have e546:Ext _ v5 v46:=(bK.to e45).trans (e46.sub hD);have K46:=K5.to e546 h46 λb _ z=>by
   rcases z with z|z
   ·exact .inl z.1
   ·exact z.1.elim
  have hbv46:=K5.cU e546 hbv5 (.inl (.inr rfl));have b46:bY v46 v5.size _:=e46.bT b45 λE=>by have:=(K5.p _ (hD _ E)).2.2;omega
  have K46b:=K46.vT (B':=λb=>b=v5.size) λb i=>⟨O,O,λE=>by
   subst i;rcases E.1 with h1|h1
   ·have:=(K5.p _ h1.1).2.2;omega
   ·exact h1.1⟩
  have hso46:=aH.bS (aH.bO (aH.cut hso1) e45) e46 λb _ i E=>hd b (hDn b i.1.1) E;have hXn:∀b,(Dn b/\kG so b)/\b<v5.size->¬Cut (λb=>(Cut F U b/\¬G b)\/False/\b<v45.size) v46 b:=λb i E=>by
   rcases E.1 with h1|h1
   ·exact h1.2 (hDn b i.1.1)
   ·exact h1.1
  have hg46:({H with bQ:=H.bQ.set t {g with bP:=[]}}:Hw).bQ[t]?=some {g with bP:=[]}:=by simp[ht]
  have hx46:(L.ts.set t {x with h:=⟨none,0,0⟩})[t]?=some {x with h:=⟨none,0,0⟩}:=zL (cW.1 E).1;refine aG (uu (K46b.h.tc hx46 hg46 ha (d:=0) O rfl) (b46.rI rfl (b46.rS (a:=so.a) (n:=so.len) (c:=so.cap) rfl (iT (lo:=1) (by show 1<=so.len;omega) hcap (zD _) ?_))));have hsub:=cV.sub hso46 (lo:=1) (hi:=so.len) (mx:=so.cap) O (zD _) hcap;have hsx:((Wo (y::ys)).drop (1*1)).take ((so.len-1)*1)=Wo ys:=by
   rw[mN (by simp[Wo];omega)];rfl
  rw[hsx]at hsub;have hl46:({g with bP:=[]}:Th).ls[k]?=some l:=hl;refine SA K46b.h hx46 hg46 hc hl46 hsub hXn hfit λv47 ts47 e47 h47=>?_;have K47:=K46b.to e47 h47 λb _ i=>i;have hso47:=aH.bS hso46 e47 λb _ i E=>hXn b i E;have b47:=K46b.cU e47 b46 (.inr rfl);have hbv47:=K46b.cU e47 hbv46 (.inl (.inl (.inr rfl)));have Z:Wt H t .fill=(Vt {H with bQ:=H.bQ.set t {g with ls:=g.ls.set k (dZ ys.reverse l),bP:=[]}} y (c.size:Int) (k:Int),none,y,0):=by
   simp only[Wt,htg,hh,Zr hg,hle,hce]
  rw[Z]at hR;obtain⟨b0,o0,ha0',hc0⟩:=hso47.cell (j:=0) (v:=.int .i64 y) rfl;have hS4:mY (λu=>((∃P ts H',HH u P {L with ts:=ts} H'/\H'.tb=H.tb)/\bY u v5.size [.int .i64 (k:Int),.slice so.a so.len so.cap])/\cell u ⟨b0,o0+0,none⟩=some (.int .i64 y)) L H.tb:=λm hm=>hm.1.1;refine⟨λu=>((∃P ts H',HH u P {L with ts:=ts} H'/\H'.tb=H.tb)/\bY u v5.size [.int .i64 (k:Int),.slice so.a so.len so.cap])/\cell u ⟨b0,o0+0,none⟩=some (.int .i64 y),⟨⟨⟨_,_,_,K47.h,rfl⟩,b47⟩,hc0⟩,⟨so,λu V=>by rw[add_lit,V.1.2.cell];rfl,?_⟩⟩;refine N2 ha0' O ⟨y,λu V=>V.2,aG (hS4.dD ⟨(k:Int),λu V=>by rw[add_lit,V.1.2.cell];rfl,?_⟩)⟩;refine mY.rC (L:={L with ts:=ts47}) (H:=Hw.dR {H with bQ:=H.bQ.set t {g with bP:=[]}} t {g with bP:=[]} (g.ls.set k (dZ ys.reverse l))) hS4 K47.h hc ⟨(k:Int),λu V=>by rw[add_lit,V.1.2.cell];rfl,?_⟩;refine Bm K47.h y (c.size:Int) (k:Int) hy9 λv48 e48 h48=>?_;have K48:=K47.to e48 h48 λb _ i=>.inl i;have hz4747:=e47.1;have hso48:=aH.bS hso47 e48 λb _ i E=>by
   rcases E.1 with h1|h1
   ·exact hXn b i h1
   ·have:=i.2;omega
  refine⟨⟨⟨⟨_,_,_,h48,rfl⟩,K47.cU e48 b47 (.inr rfl)⟩,?_⟩,?_⟩
  ·obtain⟨b1,o1,ha1',hc1⟩:=hso48.cell (j:=0) (v:=.int .i64 y) rfl;rw[ha0']at ha1';cases ha1';exact hc1
  ·have K49:=K48;simp only[Hw.dR,nE]at K49;exact gD (n:=U.size) K49 (.inl (.inl (.inr rfl))) (K47.cU e48 hbv47 (.inl (.inl (.inr rfl)))) λw' K'=>hR w' ts47 K'.e (K'.fin h)
 | eD m=>
  have hp:ZY (H.eB t) H.sp (m:Int) 1<=1000000:=hp;rw[hAe]at hp;refine ld aB (jc aB (jc aB (jc aB (ri aB (B1 (nw (cs:=[.int .i64 0]) λv5 M W N=>?_))))));have K5:=K1.box W M;refine N.s0 aA λv6 o6 b6=>?_;have K6:=K5.own o6 (.inr rfl);have C:=Ws o6 (W.bT i id) O;refine b6.rI rfl (Oq K6.h hA hY (m:Int) 1 λv7 X h7=>?_);have K7:=K6.to X h7 λb _ i=>i;have b7:=K6.cU X b6 (.inr rfl);have B:=K6.cU X C (.inl (.inr rfl));refine cO (λhn0=>?_) λh0=>?_
  ·have hn0':Qm A H.sp (m:Int) 1≠0:=by simpa using hn0
   have Z:Wt H t (.eD m)=({H.cC (H.own t) (cA A H.sp (m:Int) 1).1 with sp:=(cA A H.sp (m:Int) 1).2},none,0,Qm A H.sp (m:Int) 1):=by
    simp only[Wt,hAe,zB hn0']
   rw[Z]at hR;exact gD (n:=U.size) K7 (.inl (.inr rfl)) B λw' K'=>hR w' L.ts K'.e (K'.fin h)
  ·have h0':Qm A H.sp (m:Int) 1=0:=by simpa using h0
   have hm:m<=64:=by
    unfold Qm at h0';split at h0'
    ·rename_i hpo;simp only[Q9,zF,zU]at hpo;omega
    ·omega
   have Z:Wt H t (.eD m)=(Vt {H.cC (H.own t) (cA A H.sp (m:Int) 1).1 with sp:=(cA A H.sp (m:Int) 1).2} ((ZY A H.sp (m:Int) 1*256:Nat):Int) ((m*256:Nat):Int) (-1),none,((ZY A H.sp (m:Int) 1*256:Nat):Int),0):=by
    simp only[Wt,hAe,zC h0']
   rw[Z]at hR;refine cP (m:=ZY A H.sp (m:Int) 1*256) O O (b7.rI rfl (cP (m:=m*256) O O ?_));refine Bm K7.h _ _ _ O λv8 e8 h8=>?_;have K8:=K7.to e8 h8 λb _ i=>.inl i;exact gD (n:=U.size) K8 (.inl (.inr rfl)) (K7.cU e8 B (.inl (.inr rfl))) λw' K'=>hR w' L.ts K'.e (K'.fin h)
 | find x=>
  obtain⟨hx9,hro,hlv⟩:iE x/\(bV H.live x=none->∀A∈H.bX,iK A)/\∀b,bV H.live x=some b->0<=x:=hp;refine ld aB (jc aB (jc aB (jc aB (ri aB (ld aB (B1 (nw (cs:=[.int .i64 0]) λv5 M W N=>?_)))))));have K5:=K1.box W M;refine N.s0 aA λv6 o6 b6=>?_;have K6:=K5.own o6 (.inr rfl);have C:=Ws o6 (W.bT i id) O;refine b6.rI rfl (Nr K6.h ht x hx9 hro hlen' hlv λv7 ts7 X h7=>?_);have K7:=K6.to X h7 λb _ i=>i;have B:=K6.cU X C (.inl (.inr rfl));exact gD (n:=U.size) K7 (.inl (.inr rfl)) B λw' K'=>hR w' ts7 K'.e (K'.fin h)
 | put k y=>
  obtain⟨hk,hne0⟩:k<H.tb.length/\(H.jK t).bP≠[]:=hp;rw[htg]at hne0;obtain⟨c,hc⟩:∃c,H.tb[k]?=some c:=⟨_,cT hk⟩;have hll:=h.Bs E hg;obtain⟨l,hl⟩:∃l,g.ls[k]?=some l:=⟨_,cT (by rw[hll];exact hk)⟩;have hce:=VY hc;have hle:=xM hl;refine ld aB (jc aB (jc aB (jc aB (ri aB (ld aB (ld aB (xj (nw (cs:=[.int .i64 0,.int .i64 0]) λv5 M W N=>?_))))))));have K5:=K1.box W M;refine N.s1 aA λv5b o5 b5=>b5.s1 aA λv6 o6 b6=>?_;have K6:=(K5.own o5 (.inr rfl)).own o6 (.inr rfl);have S:U.size≠v.size:=by omega
  have C:=Ws o6 (Ws o5 (W.bT i id) S) S;generalize hgg:(if(dJ c y l).1=[]then({g with ls:=g.ls.set k (dJ c y l).2}:Th)else{g with ls:=g.ls.set k (dJ c y l).2,bP:=g.bP++[(k,(dJ c y l).1)]})=g2
  have hg2n:g2.bP≠[]/\g2.bP.length<=901:=by
   rw[←hgg];split
   ·exact⟨hne0,by simp;omega⟩
   ·exact⟨by simp,by simp;omega⟩
  refine su (λw=>∃P ts',HK F U (λb=>(False\/b=U.size)\/b=v.size) w P {L with ts:=ts'} {H with bQ:=H.bQ.set t g2}/\bY w U.size [.int .i64 0,.int .i64 0]) (λw ⟨P,ts2,K,hbw⟩=>?_) λJ2 hJ2=>?_
  ·have hg3:({H with bQ:=H.bQ.set t g2}:Hw).bQ[t]?=some g2:=by simp[ht]
   obtain⟨x2,_,hx2,_⟩:=K.h.th (t:=t) (by simpa using ht);obtain⟨G,D,hG,hD,hd,aa,hr,hput⟩:=K.h.wh (λb i=>(K.p b i).2.2) hx2 hg3 (λ_=>False) (λb _ _ z=>z) (K.o.1.sub λb i=>i.elim) (λz=>z);have hbl:=aa.len;have hbc:=aa.cap;obtain⟨b0,r0,hbr⟩:∃b r,g2.bP=b::r:=by
    cases hh:g2.bP with
    | nil=>exact absurd hh hg2n.1
    | cons b r=>exact⟨b,r,rfl⟩
   have tK:g2.bP.drop 1=r0:=by rw[hbr];rfl
   rw[hbr]at aa;have hpos:1<=x2.h.len:=by rw[hbl,hbr];simp
   refine aG (nH (K.h.tc hx2 hg3 ha (d:=1) O rfl) ?_);refine iT (lo:=1) hpos hbc (zD _) ?_;refine aG (hput w _ _ G (Ext.refl _ _) (λb i=>.inl i) aa.lI ha λw1 e1 h1=>?_);have e1':=e1.sub hD;have K1b:=K.to e1' h1 λb _ z=>by
    rcases z with z|z
    ·exact .inl z.1
    ·exact .inl (hG b z.1)
   have hbw1:=K.cU e1' hbw (.inl (.inr rfl));have K3:=K1b;simp only[nE]at K3;generalize hg3':({g2 with bP:=r0}:Th)=g3 at K3;have hl3:g3.bP=r0/\g3.ls=g2.ls:=by rw[←hg3'];exact⟨rfl,rfl⟩
   have hr0:r0.length<=900:=by have:=hg2n.2;rw[hbr]at this;simp at this;omega
   have hg3e:({H with bQ:=H.bQ.set t g3}:Hw).bQ[t]?=some g3:=by simp[ht]
   have hpe:ir H t k y=(if H.cf.dA<QS H.tb g3.ls then{H with bQ:=H.bQ.set t {g3 with ls:=QX KE H.tb g3.ls,bP:=g3.bP++Q1 KE H.tb g3.ls}}else{H with bQ:=H.bQ.set t g3}):=by
    have e2:(if(dJ c y l).1=[]then H.dT t λh=>h.gP k (dJ c y l).2 else QI (H.dT t λh=>h.gP k (dJ c y l).2) t k (dJ c y l).1) = {H with bQ:=H.bQ.set t g2}:=by
     rw[←hgg];split
     ·rw[Zr hg];rfl
     ·rw[Zr hg];unfold QI Hw.dT;simp only;rw[KP (t:=g.gP k (dJ c y l).2) (by simp[ht]),nE];rfl
    have e3:({H with bQ:=H.bQ.set t g2}:Hw).dT t (λh=>{h with bP:=h.bP.drop 1}) = {H with bQ:=H.bQ.set t g3}:=by
     rw[Zr hg3];simp only[nE,tK,hg3']
    unfold ir;simp only[hce,htg,hle,e2,e3,H6 hg3e,Zr hg3e,nE]
   have hx3:(ts2.set t {x2 with h:=⟨if x2.h.cap=1 then x2.h.a else x2.h.a.map (·.add (1*2)),x2.h.len-1,x2.h.cap-1⟩})[t]?=some {x2 with h:=⟨if x2.h.cap=1 then x2.h.a else x2.h.a.map (·.add (1*2)),x2.h.len-1,x2.h.cap-1⟩}:=zL (cW.1 hx2).1
   generalize hx3':({x2 with h:=⟨if x2.h.cap=1 then x2.h.a else x2.h.a.map (·.add (1*2)),x2.h.len-1,x2.h.cap-1⟩}:eH)=x3 at hx3 K3
   generalize ts2.set t x3=ts3 at hx3 K3;refine su (λw=>∃P ts',HK F U (λb=>(False\/b=U.size)\/b=v.size) w P {L with ts:=ts'} (ir H t k y)/\bY w U.size [.int .i64 0,.int .i64 0]) (λw ⟨P,ts',K,hbw⟩=>?_) λJ3 hJ3=>?_
   ·have Z:Wt H t (.put k y)=(ir H t k y,jO (ir H t k y) t,0,0):=rfl;rw[Z]at hR;refine VS K.h (t:=t) ?_ ?_
    ·rw[hpe];split<;>simpa using ht
    ·exact gD (n:=U.size) K (.inl (.inr rfl)) hbw λw' K'=>hR w' ts' K'.e (K'.fin h)
   ·refine aG (uu (K3.h.tc hx3 hg3e ha (d:=0) O rfl) ?_);refine JR K3.h hx3 hg3e λv10 e10=>?_;have K10:=K3.fr e10;have hbw10:=e10.bT hbw1 id;refine cQ (λhov=>?_) λhno=>hJ3 v10 ⟨_,ts3,by rw[hpe,zB hno];exact K10,hbw10⟩;refine⟨λu=>cell u (Addr.add ⟨tb0,to0+3*t,none⟩ 1)=some (.slice x3.h.a x3.h.len x3.h.cap)/\cell u (Addr.add ⟨tb0,to0+3*t,none⟩ 0)=some (.pointer (some ⟨x3.c.p,0,none⟩)),⟨K10.h.tc hx3 hg3e ha (d:=1) O rfl,K10.h.tc hx3 hg3e ha (d:=0) O rfl⟩,aG ⟨x3.h,λu V=>V.1,aG ⟨some ⟨x3.c.p,0,none⟩,λu V=>V.2,?_⟩⟩⟩;refine IM hso K10.h hx3 hg3e λv11 s Q e11 hQ hB h11=>?_;have K11:=K10.to e11 h11 λb _ i=>i.1;have hbw11:=K10.cU e11 hbw10 (.inl (.inr rfl));have hg11:(Hw.dR {H with bQ:=H.bQ.set t g3} t g3 (QX KE H.tb g3.ls)).bQ[t]?=some {g3 with ls:=QX KE H.tb g3.ls}:=by simp[Hw.dR,ht]
    refine⟨⟨K11.h.tc hx3 hg11 ha (d:=1) O rfl,K11.h.tc hx3 hg11 ha (d:=0) O rfl⟩,?_⟩;have hz0:=K10.e.1;obtain⟨G,D,hG,hD,hd,aa,hr,hput⟩:=K11.h.wh (λb i=>i.2) hx3 hg11 (λb=>Q b\/v11.size<=b) (λb i hP z=>z.elim (λz=>hP.1.2 z) λz=>O) (K10.o.1.sub λb i=>i.elim (λi=>by have:=hQ b i;omega) λi=>by have:=K11.e.1;omega) (λz=>K10.o.2 (z.elim (λi=>by have:=hQ _ i;omega) λi=>by have:=K11.e.1;omega));refine iq.app aa hB (λb hg z=>(hG b hg).1.2 z) ?_ λs' v12 e12 hB12=>?_
    ·have:=GL KE H.tb g3.ls;have:H.tb.length<=40:=K3.h.qV;simp only[hl3.1];omega
    have hcell:∀{d:Nat} {w:Value},d<3->(jv (x3,({g3 with ls:=QX KE H.tb g3.ls}:Th)))[d]?=some w->cell v12 (Addr.add ⟨tb0,to0+3*t,none⟩ d)=some w:=λhd3 hv=>by
     obtain⟨b',o',ha',hc'⟩:=GR (hr v12 e12) hx3 hg11 hd3 hv;rw[ha]at ha';cases ha';rw[add_lit,wD];exact hc'
    refine⟨⟨hcell (d:=1) O rfl,hcell (d:=0) O rfl⟩,aG (hput v12 s' _ _ e12 (λb i=>i.imp id id) hB12 ha λv13 e13 h13=>?_)⟩;have e13':=(e12.sub hG).trans (e13.sub hD);have K13:=K11.si e13' h13 λb i z=>by
     rcases z with z|z
     ·exact .inl z.1
     ·rcases z.1 with h1|h1|h1
      ·exact .inl (hG b h1)
      ·have:=hQ b h1;exact .inr (.inr ⟨.inr O,λhB=>by have:=(K10.b b hB).2;omega⟩)
      ·exact .inr (.inl h1)
    have hbw13:=K11.cU e13' hbw11 (.inl (.inr rfl));have K14:=K13;simp only[Hw.dR,nE]at K14;have hpe':=hpe;rw[zC hov]at hpe';rw[hpe']at hJ3;exact hJ3 v13 ⟨_,_,K14,hbw13⟩
  ·refine⟨λu=>u=v6,rfl,aG ⟨some ⟨x.c.p,0,none⟩,λu V=>by cases V;exact K6.h.tc E hg ha (d:=0) O rfl,⟨(k:Int),λu V=>by cases V;rw[add_lit,b6.cell];rfl,⟨y,λu V=>by cases V;rw[add_lit,b6.cell];rfl,?_⟩⟩⟩⟩;refine Pm K6.h E hg hc hl y λv7 ts7 s ee Q X hQ hs7 h7=>?_;have K7:=K6.to X h7 λb _ i=>i.1;have b7:=K6.cU X b6 (.inr rfl);have B:=K6.cU X C (.inl (.inr rfl));have hsl:s.len=(dJ c y l).1.length:=by have:=hs7.1;simp[Wo]at this;omega
   by_cases hemp:(dJ c y l).1=[]
   ·rw[zC hemp]at hgg;rw[←hgg]at hJ2;exact fT (by rw[hsl,hemp];simp) (hJ2 v7 ⟨_,ts7,K7,B⟩)
   ·rw[zB hemp]at hgg;have hpos:=pX.2 hemp;have hz6:=K6.e.1;refine lQ (by rw[hsl];omega) (b7.rI rfl ?_);refine GB K7.h (t:=t) (by simpa[Hw.dR]using ht) k (bR.gQ hs7) (bR.qP hs7) hemp (λb _ z E=>E.1.2 z) (K6.o.1.sub λb i=>by have:=hQ b i;omega) (λz=>K6.o.2 (by have:=hQ _ z;omega)) (λg' hg'=>?_) λv8 ts8 e8 h8=>?_
    ·have:(H.dR t g (g.ls.set k (dJ c y l).2)).bQ[t]?=some {g with ls:=g.ls.set k (dJ c y l).2}:=by simp[Hw.dR,ht]
     rw[this]at hg';cases hg';simp only;omega
    ·have K8:=K7.si e8 h8 λb i z=>by
      rcases z with z|z
      ·exact z.imp id .inl
      ·have:=hQ b z;exact .inr (.inr ⟨.inr O,λhB=>by have:=(K6.b b hB).2;omega⟩)
     have e9:QI (H.dR t g (g.ls.set k (dJ c y l).2)) t k (dJ c y l).1 = {H with bQ:=H.bQ.set t g2}:=by
      rw[←hgg];unfold QI Hw.dT Hw.dR;simp only;rw[KP (t:={g with ls:=g.ls.set k (dJ c y l).2}) (by simp[ht]),nE]
     rw[e9]at K8;exact hJ2 v8 ⟨_,ts8,K8,K7.cU e8 B (.inl (.inr rfl))⟩
 | back=>
  obtain⟨k,xs,r,hh,hxs,hxl⟩:∃k xs r,(H.jK t).bP=(k,xs)::r/\(∀x∈xs,iE x/\0<=XN H.bX x)/\xs.length<=1000000:=hp;rw[htg]at hh;refine ld aB (jc aB (jc aB (jc aB (ri aB (ld aB (ld aB (jc aB (Cn (nw (cs:=[]) λv5 M W N=>?_)))))))));have K5:=K1.box W M;have hbv5:=W.bT i id;obtain⟨G,D,hG,hD,hd,aa,hr,hput⟩:=K5.h.wh (λb i=>(K5.p b i).2.2) E hg (λb=>v5.size<=b) (λb i _ z=>O) K5.h.mE.1 K5.h.mE.2;have hbl:=aa.len;have hbc:=aa.cap;rw[hh]at aa;obtain⟨so,ps,Dn,hrow,hso1,hcap,hBr,hDn,hj,S,hxne⟩:=aa.my;have hz5':=K5.e.1;refine aG (nH (K5.h.tc E hg ha (d:=1) O rfl) (CQ (dI.gQ hrow) λa ha0 ha1=>nR ha0 (nH ha1 ?_)));refine nw (cs:=[.int .i64 0,.slice none 0 0]) λv81 hz81 e81 hb81=>hb81.s1 aA λv82 o82 b82=>b82.s1 aA λv83 o83 b83=>?_;have e83:bK v5 v83:=(e81.only o82 (.inr (zD _))).only o83 (.inr (zD _));have hz83:v5.size<v83.size:=b83.lt;have hcell:∀{u1:Hp},Ext G v5 u1->∀{d:Nat} {w:Value},d<3->(jv (x,g))[d]?=some w->cell u1 (Addr.add ⟨tb0,to0+3*t,none⟩ d)=some w:=λhe _ _ hd3 hv=>by
   obtain⟨b',o',ha',hc'⟩:=GR (hr _ he) E hg hd3 hv;rw[ha]at ha';cases ha';rw[add_lit,wD];exact hc'
  refine aG (nH (hcell (bK.to e83) (d:=1) (w:=.slice x.h.a x.h.len x.h.cap) O rfl) ?_);have hpos:1<=x.h.len:=by rw[hbl,hh];simp
  refine iT (lo:=1) hpos hbc (zD _) ?_;have hrow':=aH.bO (aH.cut (dI.gQ (hrow.from (lo:=1) hpos))) e83;have tK:(fD ((k,so)::ps)).drop (1*2)=fD ps:=rfl;rw[tK]at hrow';refine RF hrow' aC λs' v84 hs'l e84 hs'=>?_;have hBt':iq s' r v84 (λb=>Dn b/\¬kG so b/\b<v5.size\/v83.size<=b):=by
   refine⟨ps,λb=>Dn b/\¬kG so b/\b<v5.size,(dI.loc _ _ _).mono hs'.o λb _ i=>⟨.inr i,λE=>O⟩,(ku.loc _ _).bO ((ku.loc _ _).bO ((ku.loc _ _).mono ((ku.loc _ _).cut hBr) λb _ i=>⟨i.1.1,i.1.2,i.2⟩) e83) e84,λb i=>.inl i,hj,S⟩
  have e584:bK v5 v84:=e83.trans e84;refine aG (hput v84 s' r _ (bK.to e584) (λb i=>i.elim (λi=>.inl (hDn b i.1)) λi=>.inr O) hBt' ha λv85 e85 h85=>?_);have hz84:=e84.1;have hz85:=e85.1;have e585:Ext _ v5 v85:=(bK.to e584).trans (e85.sub hD);have K85:=K5.to e585 h85 λb _ z=>by
   rcases z with z|z
   ·exact .inl z.1
   ·rcases z.1 with h1|h1
    ·exact .inl (hG b (hDn b h1.1))
    ·exact .inr O
  have hbv85:=K5.cU e585 hbv5 (.inl (.inr rfl));have b85:bY v85 v5.size _:=e85.bT (e84.bT b83 id) λE=>by have:=(K5.p _ (hD _ E)).2.2;omega
  have K85b:=K85.vT (B':=λb=>b=v5.size) λb i=>⟨O,O,λE=>by
   subst i;rcases E.1 with h1|h1
   ·have:=(K5.p _ h1.1).2.2;omega
   ·rcases h1.1 with h2|h2<;>omega⟩
  have hso5:=aH.bS (aH.bO (aH.cut hso1) e584) e85 λb _ i E=>hd b (hDn b i.1.1) E;have Z:Wt H t .back=(Ht {H with bQ:=H.bQ.set t {g with bP:=r}} (H.own t) k xs,jO (Ht {H with bQ:=H.bQ.set t {g with bP:=r}} (H.own t) k xs) t,0,0):=by
   simp only[Wt,htg,hh,Zr hg]
  rw[Z]at hR;refine⟨λu=>u=v85,rfl,⟨(k:Int),λu V=>by cases V;rw[add_lit,b85.cell];rfl,⟨so,λu V=>by cases V;rw[add_lit,b85.cell];rfl,?_⟩⟩⟩;refine DL K85b.h t ⟨rfl,I3 K85b.h hol k hso5 (λb _ i E=>?_) hcap hxs hxl λv87 e87 h87=>?_⟩
  ·rcases E.1 with h1|h1
   ·exact h1.2 (hDn b i.1.1)
   ·rcases h1.1 with h2|h2
    ·exact h2.2.1 i.1.2
    ·have:=i.2;omega
  have K87:=K85b.to e87 h87 λb _ i=>i;have hbl7:(Ht {H with bQ:=H.bQ.set t {g with bP:=r}} (H.own t) k xs).bQ.length=H.bQ.length:=by
   rw[As];simp
  refine VS K87.h (t:=t) (by rw[hbl7];exact ht) ?_;exact gD (n:=U.size) K87 (.inl (.inl (.inr rfl))) (K85b.cU e87 hbv85 (.inl (.inl (.inr rfl)))) λw' K'=>hR w' _ K'.e (K'.fin h)
 | dC s a=>
  obtain⟨ha0,hal,hru⟩:0<=a/\a.toNat<H.bX.length/\∀A∈H.bX,∀r∈A.runs,r.1<=1000000:=hp;obtain⟨A2,hA2⟩:∃A,H.bX[a.toNat]?=some A:=⟨_,cT hal⟩;have hae:a=((a.toNat:Nat):Int):=by omega
  refine ld aB (jc aB (jc aB (jc aB (ri aB (ld aB (ld aB (jc aB (ri aB (xj (nw (cs:=[.int .i64 0,.int .i64 0]) λv5 M W N=>?_))))))))));have K5:=K1.box W M;refine N.s1 aA λv5b o5 b5=>b5.s1 aA λv6 o6 b6=>?_;have K6:=(K5.own o5 (.inr rfl)).own o6 (.inr rfl);have S:U.size≠v.size:=by omega
  have C:=Ws o6 (Ws o5 (W.bT i id) S) S;obtain⟨Y2,hY2,_,_⟩:=K6.h.ar hA2;refine aG (K6.h.hd.rS rfl (b6.rI (x:=((a.toNat:Nat):Int)) (by rw[←hae];rfl) (K6.h.rA hY2 (b6.rI rfl ?_))));refine R9 K6.h hA2 hY2 s (hru A2 (zG hA2)) λv7 X h7=>?_;have K7:=K6.to X h7 λb _ i=>i;have B:=K6.cU X C (.inl (.inr rfl));have Z:Wt H t (.dC s a)=(H.cC a.toNat (Qr A2 s),none,0,0):=by
   simp only[Wt,hA2]
  refine hJ v7 ⟨_,L.ts,⟨?_,K7.e,λb i=>⟨(K7.p b i).1,λE=>(K7.p b i).2.1 (.inl E),(K7.p b i).2.2⟩,λb i=>K7.b b (.inl i),K7.o⟩,B,by rw[Z]⟩;rw[Z];exact K7.h
 | drain=>
  refine ld aB (jc aB (jc aB (jc aB (ri aB (ld aB (ld aB (jc aB (ri aB (jc aB (Cn (nw (cs:=[]) λv5 M W N=>?_)))))))))));have K5:=K1.box W M;have hbv5:=W.bT i id;refine aG (uu (K5.h.tc E hg ha (d:=0) O rfl) ?_);refine IQ hso K5.h E hg λv7 s Q X hQ hB h7=>?_;have K7:=K5.to X h7 λb _ i=>i.1;have B:=K5.cU X hbv5 (.inl (.inr rfl));have hz0:=K5.e.1;have hg7:(H.dR t g (QX ZH H.tb g.ls)).bQ[t]?=some {g with ls:=QX ZH H.tb g.ls}:=by simp[Hw.dR,ht]
  obtain⟨G,D,hG,hD,hd,aa,hr,hput⟩:=K7.h.wh (λb i=>i.2) E hg7 Q (λb _ i z=>i.1.2 z) (K5.o.1.sub λb i=>by have:=hQ b i;omega) (λz=>K5.o.2 (by have:=hQ _ z;omega));refine aG (hput v7 s _ Q (Ext.refl _ _) (λb i=>.inr i) hB ha λv8 e8 h8=>?_);have e8':=e8.sub hD;have K8:=K7.si e8' h8 λb _ z=>by
   rcases z with z|z
   ·exact .inl z.1
   ·have:=hQ b z.1;exact .inr (.inr ⟨.inr O,λhB=>by have:=(K5.b b hB).2;omega⟩)
  have hbv8:=K7.cU e8' B (.inl (.inr rfl));have Z:Wt H t .drain=({H with bQ:=H.bQ.set t {g with ls:=QX ZH H.tb g.ls,bP:=Q1 ZH H.tb g.ls}},jO {H with bQ:=H.bQ.set t {g with ls:=QX ZH H.tb g.ls,bP:=Q1 ZH H.tb g.ls}} t,0,0):=by
   simp only[Wt,Zr hg]
  have K9:=K8;simp only[Hw.dR,nE]at K9;rw[Z]at hR;refine VS K9.h (t:=t) (by simpa using ht) ?_;exact gD (n:=U.size) K9 (.inl (.inr rfl)) hbv8 λw' K'=>hR w' _ K'.e (K'.fin h)
def eM (H:Hw)(t:Nat)(p:Option Ph):Hw:=H.dT t λh=>{h with ph:=p}
theorem Vj (H:Hw)(t:Nat)(f:Th->Th):(H.dT t f).bQ.length=H.bQ.length:=by simp[Hw.dT]
theorem MI (H:Hw)(t k:Nat)(x:Int):(ir H t k x).bQ.length=H.bQ.length:=by
 unfold ir;simp only;split<;>split<;>simp[Vj,QI]
theorem EC (H:Hw)(t:Nat)(p:Ph):(Wt H t p).1.bQ.length=H.bQ.length:=by
 cases p with
 | take k=>simp only[Wt];split<;>simp[Vt,Vj]
 | cI k w=>
  simp only[Wt];split
  ·split<;>simp[QI,Vj,Hw.cC]
  ·rfl
 | cJ k w=>simp only[Wt];split<;>simp[QI,Vj,Hw.cC]
 | grow k w=>simp only[Wt];split<;>simp[Hw.cC]
 | fill=>simp only[Wt];split<;>simp[Vt,Vj]
 | eD m=>simp only[Wt];split<;>simp[Vt,Hw.cC]
 | find x=>
  simp only[Wt,UO];split
  ·rfl
  ·split<;>simp[QI,Vj]
 | put k x=>exact MI H t k x
 | back=>simp only[Wt];split<;>simp[As,Vj]
 | dC s a=>simp only[Wt];split<;>simp[Hw.cC]
 | drain=>simp[Wt,Vj]
def uz (H:Hw)(t:Nat)(p:Ph):Prop:=ui H t p/\∀g,H.bQ[t]?=some g->g.bP.length<=900
def Qu (H:Hw)(t:Nat)(p:Ph):Hw:=eM (Wt H t p).1 t (Wt H t p).2.1
theorem R7 (hso:Ga)(h:HH U F L H)(hg:H.bQ[t]?=some g){p:Ph}(hp:g.ph=some p)(hok:uz H t p){R:Bool->Int->Int->Int->Hp->Prop}
 (hR:∀σ' ts',Ext F U σ'->HH σ' (Grow F U) {L with ts:=ts'} (Qu H t p)->R (Wt H t p).2.1.isNone (Wt H t p).2.2.1 (Wt H t p).2.2.2 0 σ'):YV.c (aW L.p) (t:Int) U R:=by
 refine YV.o ?_;unfold YV.v;have G:=(cW.1 hg).1;refine nw (cs:=[.int .i64 0,.int .i64 0]) λv X e m=>?_;have K1:=(HK.start h).box e X;obtain⟨x,g',Q,z⟩:=h.th G;rw[hg]at z;cases z;refine VJ K1.h (cB rfl (yT K1.h (t:Int) (cB (by rw[zJ O];rfl) ?_)));refine aG (K1.h.hd.rS rfl (K1.h.tR Q hg ?_));rw[hp];refine⟨uh _,cB (by rw[G3];rfl) (aG (K1.h.hd.rS rfl (K1.h.tR Q hg ?_)))⟩;rw[hp];refine MG hso K1.h G p hok.1 hok.2 λV C P h9=>?_;have K9:=K1.to P h9 λb _ m=>m;have w:=K1.cU P m (.inr rfl);refine nw (cs:=[.int .i64 0,.int .i64 0]) λv10 y r u=>?_;have K10:=K9.box r y;refine u.s1 aA λZ A E=>E.s1 aA λY j K=>?_;have K12:=(K10.own A (.inr rfl)).own j (.inr rfl);have s:U.size≠V.size:=by have:=(K9.b U.size (.inr rfl)).2;omega
 have d:=Ws j (Ws A (r.bT w id) s) s;have N:t<(Wt H t p).1.bQ.length:=by rw[EC];exact G
 obtain⟨x9,g9,D,B⟩:=K12.h.th N;have M:Qu H t p = {(Wt H t p).1 with bQ:=(Wt H t p).1.bQ.set t {g9 with ph:=(Wt H t p).2.1}}:=Zr B _;refine aG (K12.h.hd.rS rfl (K12.h.rE D B (Wt H t p).2.1 λW i J=>?_));have K13:=K12.to i J λb _ m=>.inl m;have a:=K12.cU i K (.inr rfl);rw[←M]at K13;refine⟨uh _,a.rI rfl (a.rI rfl ?_)⟩;refine gD (n:=U.size) K13 (.inl (.inr rfl)) (K12.cU i d (.inl (.inr rfl))) λS K'=>?_;rw[G3];exact hR S C K'.e (K'.fin h)
theorem A9 {p:Nat->Prop}(h:∃n,p n):∃n,p n/\∀m,p m->n<=m:=by
 obtain⟨n,d⟩:=h
 induction n using Nat.strongRecOn with
 | _ n ih=>
  by_cases hm:∃m,m<n/\p m
  ·obtain⟨m,b,a⟩:=hm;exact ih m b a
  ·exact⟨n,d,λm a=>Nat.le_of_not_lt λb=>hm ⟨m,b,a⟩⟩
theorem NS {start:eL []->Prop}{round:eL []->eL []}(Inv:Nat->Hp->Prop)(h0:start λh=>∃n,Inv n h)(hr:∀n h,Inv n h->∀J:Hp->Prop,(∀m h',m<n->Inv m h'->J h')->round J h):X9 [] start round:=by
 classical
 refine Ib (λh=>∃n,Inv n h) (λh=>if hx:∃n,Inv n h then(A9 hx).choose else 0) h0 λh d=>?_
 have g:=(A9 d).choose_spec;refine hr _ h g.1 _ λm h' e b=>⟨⟨m,b⟩,?_⟩;have a:∃n,Inv n h':=⟨m,b⟩;rw[dif_pos a,dif_pos d];exact Ag ((A9 a).choose_spec.2 m b) e
inductive iB:Nat->Hw->Nat->Ph->Hw->Int->Int->Prop
 | done {H:Hw} {t:Nat} {p:Ph}:uz H t p->(Wt H t p).2.1=none->iB 1 H t p (Qu H t p) (Wt H t p).2.2.1 (Wt H t p).2.2.2
 | next {n:Nat} {H:Hw} {t:Nat} {p p':Ph} {H':Hw} {a e:Int}:uz H t p->(Wt H t p).2.1=some p'->iB n (Qu H t p) t p' H' a e->iB (n+1) H t p H' a e
theorem Ds {p:Ph}(ht:t<H.bQ.length):∃g,(Qu H t p).bQ[t]?=some g/\g.ph=(Wt H t p).2.1:=by
 have a:t<(Wt H t p).1.bQ.length:=by rw[EC];exact ht
 exact⟨{(Wt H t p).1.bQ[t]with ph:=(Wt H t p).2.1},by simp[Qu,eM,Hw.dT,sT,cT a],rfl⟩
end Go.Ar
namespace Go.Ar
open Go Go.Vc Go.Proofs
open Go.Bu (eV)
variable {U:Hp}{F:Rg}
def UB (size align:Int):Bool:=decide (1<=size)&&(decide (1<=align)&&(decide (align<=256)&&eV align))
def gT (tb:List bZ)(size align:Int):Option Nat:=tb.findIdx? λc=>decide (size<=(c.size:Int))&&((c.size:Int)%align==0)
theorem II (n:Int)(h1:1<=n)(h2:n<=256){R:aN}(hR:∀p:Int,(p != n) = !eV n->R p U):Z6.c n U R:=by
 refine Z6.o ?_;unfold Z6.v;refine UC (a:=bN) (bb:=bN) (λ(p q:Int) w=>w=U/\(p=0/\q=1\/∃k:Nat,k<=8/\p=((2^k:Nat):Int)/\q=((2^(k+1):Nat):Int)/\p<=n)) (λp q _=>1000-q.toNat) ⟨rfl,.inl ⟨rfl,rfl⟩⟩ ?_;rintro(p:Int) (q:Int) w ⟨rfl,hpq⟩;refine cQ (λd=>?_) λg=>?_
 ·rcases hpq with⟨rfl,rfl⟩|⟨k,hk,rfl,rfl,hp⟩
  ·exact cP (m:=2) O O ⟨⟨rfl,.inr ⟨0,O,by simp,by simp,O⟩⟩,by simp⟩
  ·have s:k<=7:=by
    apply Classical.byContradiction;intro hc;have:2^9<=2^(k+1):=pj aB O;omega
   have r:=kD (k+1);exact cP (m:=2^(k+1+1)) (by rw[mb 2 (k+1)];omega) (by rw[mb 2 (k+1)];omega) ⟨⟨rfl,.inr ⟨k+1,O,rfl,rfl,d⟩⟩,by rw[mb 2 (k+1)];omega⟩
 ·rcases hpq with⟨rfl,rfl⟩|⟨k,hk,rfl,rfl,hp⟩
  ·omega
  ·refine hR _ ?_;by_cases e:((2^k:Nat):Int)=n
   ·have:eV n=true:=by
     unfold eV;rw[kf];exact⟨k,zg.2 O,by simp[←e]⟩
    rw[this,e];simp
   ·have:eV n=false:=by
     unfold eV;rw[mB];intro j hj he;have b:n=((2^j:Nat):Int):=by simpa using he
     rcases pO j k with h3|h3|h3
     ·have:2^(j+1)<=2^k:=pj aB h3;rw[mb]at this;have:=kD j;omega
     ·subst h3;exact e b.symm
     ·have:2^(k+1)<=2^j:=pj aB h3;omega
    rw[this];simpa using e
theorem My {s:Sl}{xs:List (Int×Int×Int)}(ha:ig U s xs)(hv:Qg xs=true)(size align:Int){R:Int->Int->Hp->Prop}
 (hR:∀σ',bK U σ'->R (if UB size align then((gT (xs.map Z3) size align).getD 0:Nat)else 0) (if UB size align then(if(gT (xs.map Z3) size align).isSome then 0 else 4)else 1) σ'):Z5.c s size align U R:=by
 refine Z5.o ?_;unfold Z5.v;refine nw (cs:=[.int .i64 size]) λv hz e hb=>nw (cs:=[.int .i64 align]) λv1 hz1 e1 V=>?_;have X:=e1.bT hb id;refine Gp (ZR ha (e.trans e1)) λg e2=>?_;rw[hv];have D:=e2.bT X id;have y:=e2.bT V id;have x:=(e.trans e1).trans e2;refine cB rfl ?_;have key:∀r,r = !UB size align->(If r (R 0 1 g) (Wl.c s ⟨203,#[],#[.pointer (some ⟨U.size,0,none⟩),.pointer (some ⟨v.size,0,none⟩)]⟩ g λk v4=>If (decide (k<0)) (R 0 4 v4) (R k 0 v4))):=by
  intro r b;cases hok:UB size align with
  | false=>
   rw[hok]at b;have:=hR g x;rw[hok]at this;exact cD (by rw[b];rfl) this
  | true=>
   rw[hok]at b;refine cB (by rw[b];rfl) ?_;have K:=hok;simp only[UB,zF,zU]at K;refine Wl.o ?_;unfold Wl.v;have hlen:=ha.1;have hxl:=((Qd xs).1 hv).2.1;refine Z0 (a:=bN) (λ(z:Int) w=>∃i:Nat,z=(i:Int)/\i<=xs.length/\bK g w/\∀j c,j<i->(xs.map Z3)[j]?=some c->(decide (size<=(c.size:Int))&&((c.size:Int)%align==0))=false) (λz _=>xs.length-z.toNat) ⟨0,rfl,O,Ext.refl _ _,λj c h=>O⟩ ?_;rintro(z:Int) w ⟨i,rfl,hi,ew,hno⟩;refine cQ (λhlt=>?_) λW=>?_
   ·have S:i<xs.length:=by omega
    have B:(xs.map Z3)[i]?=some (Z3 xs[i]):=by simp[S]
    generalize Z3 xs[i]=c at B;have F:=ZR ha (x.trans ew);obtain⟨hx,hcok⟩:=U9 F hv B;refine yd F hx ?_;refine pV (all := #[.agg #[.int .i64 (c.size:Int),.int .i64 (c.aF:Int),.int .i64 (c.batch:Int)],.pointer (some ⟨U.size,0,none⟩),.pointer (some ⟨v.size,0,none⟩)]) (by kernel_rfl) aA ?_;refine ZO.o ?_;unfold ZO.v;refine nw (cs:=[.int .i64 (c.size:Int),.int .i64 (c.aF:Int),.int .i64 (c.batch:Int)]) λC hz1 e1 L=>?_;have hs1:=e1.bT (ew.bT D id) id;have Z:=e1.bT (ew.bT y id) id;have G:=ew.trans e1;have go:∀r,r=(decide (size<=(c.size:Int))&&((c.size:Int)%align==0))->If r (If (decide ((i:Int)<0)) (R 0 4 C) (R (i:Int) 0 C)) (Ar .i64 ((i:Int)+1) λH=>(∃i:Nat,H=(i:Int)/\i<=xs.length/\bK g C/\∀j c,j<i->(xs.map Z3)[j]?=some c->(decide (size<=(c.size:Int))&&((c.size:Int)%align==0))=false)/\xs.length-H.toNat<xs.length-(i:Int).toNat):=by
     intro r b;refine cO (λM=>fT O ?_) λh0=>?_
     ·have Q:gT (xs.map Z3) size align=some i:=by
       obtain⟨N,rfl⟩:=cW.1 B;exact ng.2 ⟨N,by rw[←b];exact M,λj E=>by rw[hno j _ E (cT O)];simp⟩
      have:=hR C (x.trans G);rw[hok,Q]at this;exact this
     ·exact cP (m:=i+1) O O ⟨⟨i+1,rfl,O,G,λj d E hd=>by
       by_cases e:j=i
       ·subst e;rw[B]at hd;cases hd;rw[←b];exact h0
       ·exact hno j d O hd⟩,O⟩
    refine L.rI rfl (hs1.uF rfl ?_);refine KJ (λr w=>w=C/\r=(decide (size<=(c.size:Int))&&((c.size:Int)%align==0))) (λr w ⟨Y,b⟩=>by subst Y;exact go r b) λJ A=>?_;refine cQ (λW=>L.rI rfl (Z.uF rfl (nz O (A _ _ ⟨rfl,?_⟩)))) λhlt2=>A _ _ ⟨rfl,?_⟩
    ·rw[Qz O,zJ (by omega:size<=(c.size:Int)),qp]
    ·rw[zM O,ug]
   ·have Q:gT (xs.map Z3) size align=none:=by
     unfold gT;rw[tY];intro c B;obtain⟨j,E⟩:=zQ B;have:=(cW.1 E).1;simp at this;exact hno j c O E
    have:=hR w (x.trans ew);rw[hok,Q]at this;exact lQ aB this
 refine yL (λr w=>w=g/\r = !UB size align) (λr w ⟨Y,b⟩=>by subst Y;exact key r b) λJ A=>?_;have P:∀m,m=g->cell m ⟨U.size,0,none⟩=some (.int .i64 size):=λm hm=>by rw[hm,D.cell];rfl
 have u:∀m,m=g->cell m ⟨v.size,0,none⟩=some (.int .i64 align):=λm hm=>by rw[hm,y.cell];rfl
 refine⟨λm=>m=g,rfl,⟨size,P,?_⟩⟩;refine cQ (λM=>A _ _ ⟨rfl,?_⟩) λM=>⟨align,u,cQ (λh2=>A _ _ ⟨rfl,?_⟩) λh2=>⟨align,u,cQ (λh3=>A _ _ ⟨rfl,?_⟩) λh3=>⟨align,u,⟨align,u,?_⟩⟩⟩⟩
 ·simp only[UB,zM (by omega:¬1<=size),ug,wz]
 ·simp only[UB,zM (by omega:¬1<=align),ug,sL,wz]
 ·simp only[UB,zM (by omega:¬align<=256),ug,sL,wz]
 ·refine II align O O λp hp=>⟨rfl,A _ _ ⟨rfl,?_⟩⟩;rw[hp];simp only[UB,zJ (by omega:1<=size),zJ (by omega:1<=align),zJ (by omega:align<=256),qp]
end Go.Ar
namespace Go.Ar
open Go Go.Vc Go.Proofs
variable {U u u':Hp}{F B P Q:Rg}{L:dK}{H H':Hw}{t k n pb:Nat}{A:AR}{Y:Lay}{x:eH}{g:Th}{c:bZ}{l:Li}{cs:List Value}
def mI (c:bZ):Int×Int×Int:=((c.size:Int),(c.aF:Int),(c.batch:Int))
theorem Rn (tb:List bZ):(tb.map mI).map Z3=tb:=by
 rw[lh]
 conv=>rhs;rw[←uD tb]
 apply ka;intro c _;rfl
theorem Mf {s:Sl}{tb:List bZ}(h:cV s 3 (fZ tb) U F):ig U s (tb.map mI):=by
 have w:=h.1;rw[VV]at w;refine⟨by simp;omega,λi x y z j=>?_⟩;rw[za,pt]at j;obtain⟨c,B,g⟩:=j;obtain⟨D,C,u⟩:=Gr B;simp only[mI,Prod.mk.injEq]at g;obtain⟨rfl,rfl,rfl⟩:=g;obtain⟨b,o,d,e⟩:=h.cell D;obtain⟨r,A,a,p⟩:=h.cell C;rw[d]at a;cases a;obtain⟨r,A,a,m⟩:=h.cell u;rw[d]at a;cases a;exact⟨b,o,d,Q8 e,by rw[show o+i*3=o+3*i by omega];exact e,by rw[show o+i*3+1=o+(3*i+1) by omega];exact p,by rw[show o+i*3+2=o+(3*i+2) by omega];exact m⟩
def mC (tb:List bZ):Prop:=Qg (tb.map mI)=true
def iG (tb:List bZ)(kind size align addr:Int):Option Ph:=
 if kind=0 then(if 1<=size/\size<=16384 then(if UB size align then(match gT tb size align with
  | some k=>some (.take k)
  | none=>some (.eD ((size+255).toNat/256)))else none)else none)
 else if kind=1 then some (.find addr)else if kind=2 then some .drain else none
theorem Jz (h:HH U F L H)(hv:mC H.tb)(kind size align addr:Int){R:Value->Hp->Prop}(hR:∀σ',bK U σ'->R (mM (iG H.tb kind size align addr)) σ'):Yk.c (aW L.p) kind size align addr U R:=by
 refine Yk.o ?_;unfold Yk.v;refine nw (cs:=[.int .i64 kind,.int .i64 size,.int .i64 align,.int .i64 addr]) λv M e s=>s.rI rfl ?_;have B:=h.bO e;have a:=hR v e;refine cO (λA=>?_) λA=>?_
 ·have g:kind=0:=by simpa using A
  have D:iG H.tb kind size align addr=(if 1<=size/\size<=16384 then(if UB size align then(match gT H.tb size align with
   | some k=>some (.take k)
   | none=>some (.eD ((size+255).toNat/256)))else none)else none):=by unfold iG;rw[zC g]
  rw[D]at hR a;refine s.rI rfl (KJ (λr w=>w=v/\r = !decide (1<=size/\size<=16384)) (λr w ⟨K,y⟩=>?_) λJ C=>?_)
  ·subst K;by_cases hs:1<=size/\size<=16384
   ·rw[zC hs]at hR;rw[zJ hs]at y;refine cB (by rw[y];rfl) ⟨λm=>m=w,rfl,aG ⟨L.dD,λm x=>by rw[x,add_lit,B.hd.cell];rfl,⟨size,λm x=>by rw[x,add_lit,s.cell];rfl,⟨align,λm x=>by rw[x,add_lit,s.cell];rfl,?_⟩⟩⟩⟩;refine My (Mf B.jE) hv size align λE e2=>?_;rw[Rn];have z:=e2.bT s id;have b:=hR E (e.trans e2);cases hok:UB size align with
    | false=>
     rw[hok]at b;exact cB rfl (cB rfl b)
    | true=>
     rw[hok]at b;simp only[zS]at b ⊢;cases hcl:gT H.tb size align with
     | some k=>rw[hcl]at b;exact cD rfl b
     | none=>
      rw[hcl]at b;refine cB rfl (cD rfl (z.rI rfl (ar O O (ar O O (nz aB (ar (by rw[Yr O];omega) (by rw[Yr O];omega) ?_))))));rw[Yr O];have:(size+256-1)/256=(((size+255).toNat/256:Nat):Int):=by omega
      rw[this];exact b
   ·rw[zB hs]at a;rw[zM hs]at y;exact cD (by rw[y];rfl) a
  ·refine cQ (λG=>C _ _ ⟨rfl,?_⟩) λG=>s.rI rfl (C _ _ ⟨rfl,?_⟩)
   ·rw[zM O];rfl
   ·by_cases h2:size>16384
    ·rw[zJ h2,zM O];rfl
    ·rw[zM h2,zJ O];rfl
 ·have g:kind≠0:=by simpa using A
  refine cO (λu=>s.rI rfl ?_) λu=>?_
  ·have d:kind=1:=by simpa using u
   unfold iG at a;rw[zB g,zC d]at a;exact a
  ·have d:kind≠1:=by simpa using u
   refine cO (λj=>?_) λj=>?_
   ·have i:kind=2:=by simpa using j
    unfold iG at a;rw[zB g,zB d,zC i]at a;exact a
   ·have i:kind≠2:=by simpa using j
    unfold iG at a;rw[zB g,zB d,zB i]at a;exact a
def Kg (H:Hw)(thread kind size align addr:Int):Int ⊕ (Nat×Ph):=
 if 0<=thread/\thread<(H.bQ.length:Int)then(match H.bQ[thread.toNat]? with
  | some g=>(if g.ph=none then(match iG H.tb kind size align addr with
   | some p=>.inr (thread.toNat,p)
   | none=>.inl 1)else .inl 5)
  | none=>.inl 1)else .inl 1
theorem Pb (h:HH U F L H)(hv:mC H.tb)(thread kind size align addr:Int){R:aN}(h0:∀e,Kg H thread kind size align addr=.inl e->e≠0->∀σ',Ext F U σ'->HH σ' (Grow F U) L H->R e σ')
 (h1:∀t p,Kg H thread kind size align addr=.inr (t,p)->thread=(t:Int)->t<H.bQ.length->∀σ',Ext F U σ'->HH σ' (Grow F U) L (eM H t (some p))->R 0 σ'):Y5.c (aW L.p) thread kind size align addr U R:=by
 refine Y5.o ?_;unfold Y5.v;refine nw (cs:=[.int .i64 kind,.int .i64 size,.int .i64 align,.int .i64 addr]) λv y e d=>?_;have K1:=(HK.start h).box e y;refine VJ K1.h (cB rfl (yT K1.h thread ?_));by_cases hth:0<=thread/\thread<(H.bQ.length:Int)
 ·obtain⟨t,rfl⟩:∃t:Nat,thread=(t:Int):=⟨thread.toNat,O⟩;have m:t<H.bQ.length:=by omega
  obtain⟨x,g,j,i⟩:=h.th m;have a:Kg H (t:Int) kind size align addr=(if g.ph=none then(match iG H.tb kind size align addr with
   | some p=>.inr (t,p)
   | none=>.inl 1)else .inl 5):=by
   unfold Kg;rw[zC hth,dE,i]
  refine cB (by rw[zJ hth];rfl) (aG (K1.h.hd.rS rfl (K1.h.tR j i ⟨uh _,?_⟩)));cases hp:g.ph with
  | some p=>
   rw[hp,zB aA]at a;exact cD (by rw[G3];rfl) (h0 5 a aB v K1.e (K1.fin h))
  | none=>
   rw[hp,zC rfl]at a;refine cB rfl (d.rI rfl (d.rI rfl (d.rI rfl (d.rI rfl (Jz K1.h hv kind size align addr λv3 s=>⟨uh _,?_⟩)))));have K3:=K1.fr s;rw[G3];cases hq:iG H.tb kind size align addr with
   | none=>
    rw[hq]at a;exact cD rfl (h0 1 a aB v3 K3.e (K3.fin h))
   | some p=>
    rw[hq]at a;refine cB rfl (aG (K3.h.hd.rS rfl (K3.h.rE j i (some p) λr u w=>?_)));have K4:=K3.to u w λb _ d=>.inl d;have z:eM H t (some p) = {H with bQ:=H.bQ.set t {g with ph:=some p}}:=Zr i _;rw[←z]at K4;exact h1 t p a rfl m r K4.e (K4.fin h)
 ·have a:Kg H thread kind size align addr=.inl 1:=by unfold Kg;rw[zB hth]
  exact cD (by rw[zM hth];rfl) (h0 1 a aB v K1.e (K1.fin h))
theorem OA {p:Option Ph}(ht:t<H.bQ.length):∃g,(eM H t p).bQ[t]?=some g/\g.ph=p:=
 ⟨{H.bQ[t]with ph:=p},by simp[eM,Hw.dT,sT,cT ht],rfl⟩
theorem Fm (hso:Ga)(h:HH U F L H)(hv:mC H.tb)(thread kind size align addr:Int){R:Int->Int->Hp->Prop}(h0:∀e,Kg H thread kind size align addr=.inl e->e≠0->∀σ',Ext F U σ'->HH σ' (Grow F U) L H->R 0 e σ')
 (h1:∀t p,Kg H thread kind size align addr=.inr (t,p)->∃n H' a e,iB n (eM H t (some p)) t p H' a e/\∀σ' ts',Ext F U σ'->HH σ' (Grow F U) {L with ts:=ts'} H'->R a e σ'):X6.c (aW L.p) thread kind size align addr U R:=by
 refine X6.o ?_;unfold X6.v;refine nw (cs:=[.int .i64 kind,.int .i64 size,.int .i64 align,.int .i64 addr]) λv hz e i=>i.rI rfl (i.rI rfl (i.rI rfl (i.rI rfl ?_)));have K1:=(HK.start h).box e hz;refine Pb K1.h hv thread kind size align addr (λG he x v1 e1 u=>?_) λt p ag N ht v1 e1 u=>?_
 ·have K2:=K1.to e1 u λb _ i=>i;exact cD (by simpa using x) (h0 G he x v1 K2.e (K2.fin h))
 ·subst N;have K2:=K1.to e1 u λb _ i=>i;obtain⟨n,Hf,a,G,d,E⟩:=h1 t p ag;refine cB rfl (NS (λn w=>∃(B P:Rg) (ts:List eH) (H:Hw) (p:Ph),HK F U B w P {L with ts:=ts} H/\(∃g,H.bQ[t]?=some g/\g.ph=some p)/\iB n H t p Hf a G) ⟨n,_,_,L.ts,_,p,K2,OA ht,d⟩ ?_);rintro n w ⟨B,P,ts,H2,r,K,⟨g,hg,Z⟩,d⟩ J hJ;have go:uz H2 t r->((Wt H2 t r).2.1.isNone=true->(Wt H2 t r).2.2.1=a/\(Wt H2 t r).2.2.2=G/\Qu H2 t r=Hf)->((Wt H2 t r).2.1.isNone=false->∃m M,m<n/\(Wt H2 t r).2.1=some M/\iB m (Qu H2 t r) t M Hf a G)->YV.c (aW L.p) (t:Int) w λac C y t223 v3=>Nw (.cells #[.int .i64 0,.int .i64 0] 125 (0,0)) v3 λj v4=>dX (j.add 0) (.int .i64 C) v4 λv5=>dX (j.add 1) (.int .i64 y) v5 λs=>If ac (gA .i64 (j.add 0) s λad=>gA .i64 (j.add 1) s λaa=>R ad aa s) (J s):=by
   intro hok hd hn;refine R7 hso K.h hg Z hok λv3 z e3 Q=>?_;have K3:=K.to e3 Q λb _ i=>i;refine nw (cs:=[.int .i64 0,.int .i64 0]) λv4 S e4 W=>?_;have K4:=K3.box e4 S;refine W.s1 aA λv5 o5 b5=>b5.s1 aA λs o6 b6=>?_;have K6:=(K4.own o5 (.inr rfl)).own o6 (.inr rfl);refine cO (λaf=>?_) λY=>?_
   ·obtain⟨q1,q2,q3⟩:=hd af;rw[q3]at K6;refine b6.rI rfl (b6.rI rfl ?_);rw[q1,q2];exact E s z K6.e (K6.fin h)
   ·obtain⟨m,M,hm,V,ae⟩:=hn Y;have ab:t<H2.bQ.length:=(cW.1 hg).1;obtain⟨g',X,A⟩:=Ds (p:=r) ab;exact hJ m s hm ⟨_,_,z,_,M,K6,⟨g',X,by rw[A,V]⟩,ae⟩
  cases d with
  | done hok hnone=>exact go hok (λ_=>⟨rfl,rfl,rfl⟩) λD=>by rw[hnone]at D;cases D
  | next hok hsome hrun'=>exact go hok (λD=>by rw[hsome]at D;cases D) λ_=>⟨_,_,Nat.lt_succ_self _,hsome,hrun'⟩
end Go.Ar
namespace Go.Ar
open Go Go.Vc Go.Proofs
variable {U u w w':Hp}{F B P Q:Rg}{n:Nat}{cs:List Value}{tb:List bZ}{cf:Cf}
def VM (tb:List bZ)(cf:Cf):Hw:=⟨tb,cf,Vf cf.aF,List.replicate cf.gW (fo cf.aF cf.room tb),List.replicate cf.threads ⟨List.replicate tb.length ik,[],none⟩,[]⟩
def rQ (p a t b r:Int):Bool:=decide (32<=p)&&decide (p<=1024)&&(p%16==0)&&decide (1<=a)&&decide (a<=4)&&decide (1<=t)&&decide (t<=4)&&decide (0<=b)&&decide (b<=65536)&&decide (0<=r)&&decide (r<=8)
theorem lvl {K:aO}{r:Bool}{a:Addr}{x:Int}{k:IntKind}{f:Int->Bool}(hl:∀{K':Int->Prop},K' x->gA k a w K')(h:K (r&&f x) w):bW K λJ=>If r (gA k a w λt=>J (f t) w) (J false w):=
 bW.intro (cO (λb=>hl (by rw[b]at h;exact h)) λb=>by rw[b]at h;exact h)
theorem Ms (p a t b r:Int){R:aO}(hR:∀σ',bK U σ'->R (rQ p a t b r) σ'):Qp.c p a t b r U R:=by
 refine Qp.o ?_;unfold Qp.v;refine nw (cs:=[.int .i64 p,.int .i64 a,.int .i64 t,.int .i64 b,.int .i64 r]) λv A e g=>g.rI rfl ?_;have i:=hR v e;unfold rQ at i;refine KJ (λm w=>w=v/\m=(decide (32<=p)&&decide (p<=1024))) (λm w ⟨u,x⟩=>?_) λJ j=>?_
 ·subst u;subst x;refine KJ (λm z=>z=w/\m=(decide (32<=p)&&decide (p<=1024)&&(p%16==0))) (λm z ⟨u,x⟩=>?_) λJ j=>?_
  ·rw[u];subst x;exact lvl (λd=>g.rI rfl d) (lvl (λd=>g.rI rfl d) (lvl (λd=>g.rI rfl d) (lvl (λd=>g.rI rfl d) (lvl (λd=>g.rI rfl d) (lvl (λd=>g.rI rfl d) (lvl (λd=>g.rI rfl d) (lvl (λd=>g.rI rfl d) i)))))))
  ·refine cO (λs=>g.rI rfl (nz aB (j _ _ ⟨rfl,?_⟩))) λy=>j _ _ ⟨rfl,?_⟩
   ·simp only[zF,zU]at s;rw[Qz O,zJ s.1,zJ s.2];rfl
   ·rw[y];rfl
 ·refine cQ (λs=>g.rI rfl (j _ _ ⟨rfl,?_⟩)) λy=>j _ _ ⟨rfl,?_⟩
  ·rw[zJ (by omega:32<=p)];rfl
  ·rw[zM O];rfl
structure oz where
 p:Nat
 dD:Sl
 lm:Nat
 hs:Option Nat
 hp:Option Nat
 aw:Sl
 al:List Nat
 ha:Sl
 tw:Sl
 tl:List Value
 ht:Sl
 ys:List Lay
 cs:List gS
def qn (cf:Cf)(N:oz):List Value:=[.slice N.dD.a N.dD.len N.dD.cap,.int .i64 (cf.aF:Int),.int .i64 (cf.gW:Int),.int .i64 (cf.threads:Int),.int .i64 (cf.dA:Int),.int .i64 (cf.room:Int),
 .pointer (N.hp.map λq=>⟨q,0,none⟩),.slice N.ha.a N.ha.len N.ha.cap,.slice N.ht.a N.ht.len N.ht.cap,.map (some N.lm)]
def rW (n room:Nat)(tb:List bZ)(y:Option Lay):Hp->Rg->Prop:=λU F=>match y with
 | some Y=>dG U F Y (fo n room tb) (cK (fo n room tb) Y)
 | none=>True
def rq (tb:List bZ)(bud:Nat)(y:Option gS):Hp->Rg->Prop:=λU F=>match y with
 | some Y=>eC U F Y tb bud (List.replicate tb.length ik)
 | none=>True
def yp (n:Nat)(q:Option Nat):Hp->Rg->Prop:=λU F=>match q with
 | some q=>dL U F q (Vf n)
 | none=>True
def iV (tb:List bZ)(cf:Cf)(N:oz):kM->Hp->Rg->Prop
 | .hd=>iw N.p (qn cf N)
 | .dD=>cV N.dD 3 (fZ tb)
 | .sp=>yp cf.aF N.hs
 | .fM=>bR N.aw 1 (fI N.al)
 | .cN=>bR N.tw 3 N.tl
 | .live=>jB N.lm .i64 (.ag 4) []
 | .ar k=>rW cf.aF cf.room tb N.ys[k]?
 | .ca k=>rq tb cf.dA N.cs[k]?
 | .hn _=>λ_ _=>True
theorem rW.loc (n room:Nat)(tb:List bZ)(y:Option Lay):dM (rW n room tb y):=by
 intro U σ' F G h hz hs;cases y with
 | some Y=>exact dG.loc _ _ _ _ h hz hs
 | none=>trivial
theorem rq.loc (tb:List bZ)(bud:Nat)(y:Option gS):dM (rq tb bud y):=by
 intro U σ' F G h hz hs;cases y with
 | some Y=>exact eC.loc _ _ _ _ h hz hs
 | none=>trivial
theorem yp.loc (n:Nat)(q:Option Nat):dM (yp n q):=by
 intro U σ' F G h hz hs;cases q with
 | some q=>exact dL.loc _ _ _ _ h hz hs
 | none=>trivial
theorem iV.loc {N:oz}:∀i,dM (iV tb cf N i)
 | .hd=>iw.loc _ _
 | .dD=>cV.loc _ _ _
 | .sp=>yp.loc _ _
 | .fM=>bR.loc _ _ _
 | .cN=>bR.loc _ _ _
 | .live=>jB.loc _ _ _ _
 | .ar k=>rW.loc _ _ _ _
 | .ca k=>rq.loc _ _ _
 | .hn _=>λ_ _ _ _ _ _ _=>trivial
structure NK (U:Hp) (B:Rg) (w:Hp) (P:Rg) (tb:List bZ) (cf:Cf) (N:oz):Prop where
 sep:Sep (iV tb cf N) w P
 e:bK U w
 p:∀b,P b->U.size<=b/\¬B b/\b<w.size
 b:∀b,B b->U.size<=b/\b<w.size
variable {N N':oz}
theorem NK.fr (K:NK U B w P tb cf N)(e:bK w w'):NK U B w' P tb cf N:=
 ⟨(Sep.loc iV.loc).bO K.sep e,K.e.trans e,λb a=>⟨(K.p b a).1,(K.p b a).2.1,by have:=(K.p b a).2.2;have:=e.1;omega⟩,λb a=>by have:=K.b b a;have:=e.1;omega⟩
theorem NK.box (K:NK U B w P tb cf N)(e:bK w w')(hz:w'.size=w.size+1):NK U (λb=>B b\/b=w.size) w' P tb cf N:=by
 have h:=K.fr e;have i:=K.e.1;exact⟨h.sep,h.e,λb a=>⟨(K.p b a).1,λg=>g.elim (K.p b a).2.1 λd=>by have:=(K.p b a).2.2;omega,(h.p b a).2.2⟩,λb a=>a.elim (h.b b) λd=>O⟩
theorem NK.drop (K:NK U B w P tb cf N){B':Rg}(hb:∀b,B' b->B b):NK U B' w P tb cf N:=⟨K.sep,K.e,λb h=>⟨(K.p b h).1,λa=>(K.p b h).2.1 (hb b a),(K.p b h).2.2⟩,λb h=>K.b b (hb b h)⟩
theorem NK.put (K:NK U B w P tb cf N)(e:bK w w')(i:kM)(hj:∀j,j≠i->iV tb cf N' j=iV tb cf N j)(hi:iV tb cf N' i w' (λb=>w.size<=b)):NK U B w' (λb=>P b\/w.size<=b/\b<w'.size) tb cf N':=by
 have h:=K.fr e;have m:=K.e.1;refine⟨h.sep.put iV.loc i (G:=λb=>w.size<=b/\b<w'.size) (λb a g=>by have:=(K.p b g).2.2;omega) hj ((iV.loc i).mono hi λb a d=>⟨d,a⟩) (iV.loc i),h.e,λb a=>?_,h.b⟩;rcases a with a|a
 ·exact h.p b a
 ·exact⟨O,λd=>by have:=(K.b b d).2;omega,a.2⟩
theorem NK.step (K:NK U B w P tb cf N)(i:kM):∃G:Rg,(∀b,G b->P b)/\iV tb cf N i w G/\∀(w':Hp) (N':oz) (G':Rg),(∀j,j≠i->iV tb cf N' j=iV tb cf N j)->Ext G w w'->(∀b,G' b->G b\/w.size<=b/\¬B b)->iV tb cf N' i w' G'->(∀b,B b->b<w'.size) →
 NK U B w' (λb=>(P b/\¬G b\/G' b)/\b<w'.size) tb cf N':=by
 obtain⟨G,m,x,_,g⟩:=K.sep.jW iV.loc i;refine⟨G,m,x,λw' N' G' y e r s u=>⟨?_,?_,λb a=>?_,λb a=>⟨(K.b b a).1,u b a⟩⟩⟩
 ·have:=g w' (iV tb cf N') G' y e (λb a=>(r b a).imp id λd=>d.1) s (iV.loc _);refine(Sep.loc iV.loc).mono this λb a d=>⟨?_,a⟩;exact d.imp (λd=>⟨d.1,d.2.2⟩) id
 ·exact Ext.dS K.e e λb a=>.inr (K.p b (m b a)).1
 ·have z:=K.e.1;rcases a.1 with h1|h1
  ·exact⟨(K.p b h1.1).1,(K.p b h1.1).2.1,a.2⟩
  ·rcases r b h1 with h2|h2
   ·exact⟨(K.p b (m b h2)).1,(K.p b (m b h2)).2.1,a.2⟩
   ·exact⟨O,h2.2,a.2⟩
theorem AQ {K:eL [.p]}{body:eL [.p]->Prop}(P:Option Addr->Hp->Prop)(h1:∀r w,P r w->K r w)(h2:∀J:eL [.p],(∀r w,P r w->J r w)->body J):Jn [.p] K body:=Jn.intro (h2 K h1)
def gE:Sl:=⟨none,0,0⟩
def pN (cs:List gS):List Value:=cs.flatMap λc=>[.pointer (some ⟨c.p,0,none⟩),.slice none 0 0,.nilIface]
def N0 (p:Nat)(dD:Sl)(lm:Nat):oz:=⟨p,dD,lm,none,none,gE,[],gE,gE,[],gE,[],[]⟩
def NB (p:Nat)(dD:Sl)(lm q:Nat)(aw:Sl)(ys:List Lay)(tw:Sl)(cs:List gS):oz:=⟨p,dD,lm,some q,some q,aw,ys.map (·.p),aw,tw,pN cs,tw,ys,cs⟩
theorem Dr {p lm:Nat}{dD:Sl}{D:Rg}(e:bK U w)(hz:U.size<w.size)(hp:bY w p (qn cf (N0 p dD lm)))(hm:dH w lm .i64 (.ag 4) [])(ht:cV dD 3 (fZ tb) w D)(hD:∀b,D b->U.size<b/\b<w.size/\b≠p/\b≠lm)(hpl:p≠lm)(h1:U.size<p)(h2:U.size<lm) :
 NK U (· = U.size) w (λb=>D b\/b=p\/b=lm) tb cf (N0 p dD lm):=by
 have g:=hp.lt;have d:=hm.lt;refine⟨⟨λb=>if b=p then .hd else if b=lm then .live else .dD,λi=>?_⟩,e,λb a=>?_,λb a=>O⟩
 ·cases i with
  | hd=>exact⟨⟨.inr (.inl rfl),zC rfl⟩,hp⟩
  | live=>exact⟨⟨.inr (.inr rfl),by show(if lm=p then kM.hd else if lm=lm then kM.live else kM.dD)=.live;rw[zB (Ne.symm hpl),zC rfl]⟩,hm⟩
  | dD=>exact aH.mono ht λb _ a=>⟨.inl a,by show(if b=p then kM.hd else if b=lm then kM.live else kM.dD)=.dD;rw[zB (hD b a).2.2.1,zB (hD b a).2.2.2]⟩
  | sp=>trivial
  | fM=>exact bR.nil _ _ _ _
  | cN=>exact bR.nil _ _ _ _
  | ar k=>trivial
  | ca k=>trivial
  | hn k=>trivial
 ·rcases a with a|a|a
  ·have:=hD b a;omega
  ·omega
  ·omega
theorem NK.xI (K:NK U B w P tb cf N):P N.p/\bY w N.p (qn cf N):=by
 obtain⟨G,b,a⟩:=K.sep.get .hd;exact⟨b _ a.1,a.2⟩
theorem NK.tK (K:NK U B w P tb cf N)(N':oz)(hN':∀j,j≠.hd->iV tb cf N' j=iV tb cf N j)(hp:N'.p=N.p){i:Nat}{v:Value}(hs:(qn cf N).set i v=qn cf N')(hi:i<10){Kk:aP}(hK:∀w' P',NK U B w' P' tb cf N'->Qq w w' N.p->Kk w'):dX (Addr.add ⟨N.p,0,none⟩ i) v w Kk:=by
 obtain⟨G,m,e,a⟩:=K.step .hd;have e:iw N.p (qn cf N) w G:=e;refine e.2.s1 (by simpa[qn]using hi) λw' o g=>hK w' _ (a w' N' G hN' (o.ext.sub λx d=>by rw[d];exact e.1) (λx d=>.inl d) ?_ λx d=>by have:=(K.b x d).2;have:=o.1;omega) o;show iw N'.p (qn cf N') w' G;rw[zH,hs]at g;rw[hp];exact⟨e.1,g⟩
theorem Jp {Y:Lay}(h:N'.ys=N.ys++[Y])(hr:∀j,(∀k,j≠.ar k)->iV tb cf N' j=iV tb cf N j):∀j,j≠kM.ar N.ys.length->iV tb cf N' j=iV tb cf N j:=by
 intro j hj;cases j with
 | ar k=>
  have a:k≠N.ys.length:=λe=>hj (by rw[e]);show rW _ _ _ N'.ys[k]?=rW _ _ _ N.ys[k]?;rw[h]
  congr 1
  rcases Nat.lt_or_gt_of_ne a with h1|h1
  ·rw[ze h1]
  ·rw[zV aE,zV O]
 | _=>exact hr _ (λk e=>by cases e)
theorem Na {Y:gS}(h:N'.cs=N.cs++[Y])(hr:∀j,(∀k,j≠.ca k)->iV tb cf N' j=iV tb cf N j):∀j,j≠kM.ca N.cs.length->iV tb cf N' j=iV tb cf N j:=by
 intro j hj;cases j with
 | ca k=>
  have a:k≠N.cs.length:=λe=>hj (by rw[e]);show rq _ _ N'.cs[k]?=rq _ _ N.cs[k]?;rw[h]
  congr 1
  rcases Nat.lt_or_gt_of_ne a with h1|h1
  ·rw[ze h1]
  ·rw[zV aE,zV O]
 | _=>exact hr _ (λk e=>by cases e)
end Go.Ar
namespace Go.Ar
open Go Go.Vc Go.Proofs
variable {U u w w':Hp}{F B P Q:Rg}{n:Nat}{cs:List Value}{tb:List bZ}{cf:Cf}{N:oz}
theorem EX (p a t b r:Int):rQ p a t b r=true↔(32<=p/\p<=1024/\p%16=0)/\(1<=a/\a<=4)/\(1<=t/\t<=4)/\(0<=b/\b<=65536)/\0<=r/\r<=8:=by
 simp only[rQ,zF,zU,zT];omega
theorem yN (g:Gl U)(gd:Gd U):iN (λb=>U.size<=b)/\¬(U.size<=1):=by
 refine⟨?_,λh=>by have:=Ai gd;omega⟩;have d:iN (λ_=>False):=λb a=>a.elim;exact(d.grow g).sub λb a=>.inr a
theorem JM (cs:List gS)(ls:List Li):gI (cs.map λc=>⟨c,gE⟩) (List.replicate cs.length ⟨ls,[],none⟩)=pN cs:=by
 induction cs with
 | nil=>rfl
 | cons c cs ih=>
  have e1:gI ((c::cs).map λc=>(⟨c,gE⟩:eH)) (List.replicate (c::cs).length ⟨ls,[],none⟩)=jv (⟨c,gE⟩,⟨ls,[],none⟩)++gI (cs.map λc=>(⟨c,gE⟩:eH)) (List.replicate cs.length ⟨ls,[],none⟩):=rfl;rw[e1,ih];rfl
theorem Jv (cs:List gS):(pN cs).length=cs.length*3:=by
 induction cs with
 | nil=>rfl
 | cons c cs ih=>simp only[pN,nG,zO,zY,lE]at *;omega
set_option maxRecDepth 8000 in
theorem B0 {s:Sl}{xs:List (Int×Int×Int)}(ha:ig U s xs)(g:Gl U)(gd:Gd U)(p a t b r:Int){R:Option Addr->Int->Hp->Prop}
 (h2:Qg xs=false->∀σ',bK U σ'->R none 2 σ')
 (h1:Qg xs=true->rQ p a t b r=false->∀σ',bK U σ'->R none 1 σ')
 (h0:Qg xs=true->rQ p a t b r=true->∀σ' L,bK U σ'->HH σ' (λq=>U.size<=q) L (VM (xs.map Z3) ⟨p.toNat,a.toNat,t.toNat,b.toNat,r.toNat⟩)->R (some ⟨L.p,0,none⟩) 0 σ') :
 Ks.c s p a t b r U R:=by
 refine Ks.o ?_;unfold Ks.v;refine nw (cs:=[.int .i64 p,.int .i64 a,.int .i64 t,.int .i64 b,.int .i64 r]) λv hz e y=>?_;refine Gp (ZR ha e) λv1 e1=>?_;cases hv:Qg xs with
 | false=>exact cD rfl (h2 hv v1 (e.trans e1))
 | true=>
 have X:=e1.bT y id;refine cB rfl (X.rI rfl (X.rI rfl (X.rI rfl (X.rI rfl (X.rI rfl (Ms p a t b r λv2 e2=>?_))))));have W:=(e.trans e1).trans e2;cases hc:rQ p a t b r with
 | false=>exact cD rfl (h1 hv hc v2 W)
 | true=>
 have hcf:=(EX p a t b r).1 hc;obtain⟨p,rfl⟩:∃n:Nat,p=(n:Int):=⟨p.toNat,O⟩;obtain⟨a,rfl⟩:∃n:Nat,a=(n:Int):=⟨a.toNat,O⟩;obtain⟨t,rfl⟩:∃n:Nat,t=(n:Int):=⟨t.toNat,O⟩;obtain⟨b,rfl⟩:∃n:Nat,b=(n:Int):=⟨b.toNat,O⟩;obtain⟨r,rfl⟩:∃n:Nat,r=(n:Int):=⟨r.toNat,O⟩;simp only[dE]at h0;have h0:=h0 hv hc;have A:=e2.bT X id;have hxl:=(Qd xs).1 hv;have hz2:=W.1;have hz02:U.size<v2.size:=A.lt;generalize hcfd:(⟨p,a,t,b,r⟩:Cf)=cf at h0;generalize htbd:xs.map Z3=tb at h0;have hdE:∀(q:Nat) (dD:Sl) (C:Nat),qn cf (N0 q dD C)=[.slice dD.a dD.len dD.cap,.int .i64 (p:Int),.int .i64 (a:Int),.int .i64 (t:Int),.int .i64 (b:Int),.int .i64 (r:Int),.pointer none,.slice none 0 0,.slice none 0 0,.map (some C)]:=λq dD C=>by rw[←hcfd];rfl
 refine cB rfl (AQ (λvh w=>∃P q dD C,vh=some ⟨q,0,none⟩/\NK U (· = U.size) w P tb cf (N0 q dD C)/\bY w U.size [.int .i64 (p:Int),.int .i64 (a:Int),.int .i64 (t:Int),.int .i64 (b:Int),.int .i64 (r:Int)]) (λvh w ⟨P,q,dD,C,hvh,K,hbw⟩=>?_) λJ hJ=>?_)
 ·subst hvh;refine hbw.rI rfl (SC (n:=p) O O λv4 sp e4 _ hS=>?_);have hp:cf.aF=p:=by rw[←hcfd]
  have hroom:cf.room=r:=by rw[←hcfd]
  have hbud:cf.dA=b:=by rw[←hcfd]
  have K1:NK U (· = U.size) v4 _ tb cf {N0 q dD C with hs:=some sp}:=K.put e4 .sp (λj M=>by cases j<;>first|rfl|exact absurd rfl M) (by
   show dL v4 _ sp (Vf cf.aF);rw[hp];exact hS)
  have hbw4:=e4.bT hbw id;refine aG (K1.tK (NB q dD C sp gE [] gE []) (λj M=>by cases j<;>first|rfl|exact absurd rfl M) rfl (i:=6) rfl O λv5 P5 K5 o5=>?_)
  have ak:∀{w:Hp} {P:Rg} {N:oz},NK U (· = U.size) w P tb cf N->U.size≠N.p:=λK e=>(K.p _ K.xI.1).2.1 e.symm;have hbw5:=Ws o5 hbw4 (ak K1);refine hbw5.rI rfl ?_;refine Z0 (a:=bN) (λ(z:Int) w=>∃(P:Rg) (aw:Sl) (ys:List Lay),z=(ys.length:Int)/\ys.length<=a/\(∀Y∈ys,Y.hs=sp)/\NK U (· = U.size) w P tb cf (NB q dD C sp aw ys gE [])/\bY w U.size [.int .i64 (p:Int),.int .i64 (a:Int),.int .i64 (t:Int),.int .i64 (b:Int),.int .i64 (r:Int)]) (λz _=>a-z.toNat) ⟨P5,gE,[],rfl,by simp,by simp,K5,hbw5⟩ ?_;rintro(z:Int) w6 ⟨P6,aw,ys,rfl,hyl,hys,K6,hbw6⟩;refine cQ (λhlt=>?_) λhge=>?_
  ·refine⟨λu=>u=w6,rfl,aG ⟨some ⟨sp,0,none⟩,λu hu=>by cases hu;rw[add_lit];exact(bY.cell (b:=q) K6.xI.2).trans rfl,⟨(r:Int),λu hu=>by cases hu;rw[add_lit,hbw6.cell];rfl,?_⟩⟩⟩;obtain⟨GS,hGS,hSp⟩:=K6.sep.get .sp;have hSp:dL w6 GS sp (Vf cf.aF):=hSp;have hnl:(Vf cf.aF).st.length=p:=by rw[hp];simp[Vf]
   have hnE:kS xs (Vf cf.aF).st.length (r:Int)=0:=by
    unfold kS;rw[zC hv,hnl,zC O]
   refine NY (ZR ha K6.e) hSp (r:Int) (λhne=>absurd hnE hne) λ_ v7 Y e7 hYh hA=>?_;rw[hnl,dE,htbd]at hA;have K7:NK U (· = U.size) v7 _ tb cf {NB q dD C sp aw ys gE []with ys:=ys++[Y]}:=K6.put e7 (.ar ys.length) (Jp (N:=NB q dD C sp aw ys gE []) rfl (λj M=>by
    cases j with
    | ar k=>exact absurd rfl (M k)
    | _=>rfl)) (by
    show rW cf.aF cf.room tb (ys++[Y])[ys.length]? v7 _;rw[zr (zD _),qT,hp,hroom];exact hA)
   have S:=e7.bT hbw6 id;refine aG (K7.xI.2.rS (a:=aw.a) (n:=aw.len) (c:=aw.cap) rfl (nw (cs:=[.pointer (some ⟨Y.p,0,none⟩)]) λv8 hz8 e8 hb8=>?_));have K8:=K7.box e8 hz8;obtain⟨G,hG,d,aj⟩:=K8.step .fM;have d:bR aw 1 (fI (ys.map (·.p))) v8 G:=d;have hal:aw.len=ys.length:=by have:=d.1;simp[fI]at this;omega
   refine d.app (ys:=[.pointer (some ⟨Y.p,0,none⟩)]) rfl rfl ?_ (by simp[dN]) ?_ ?_ mO λs' v9 _ e9 hr9=>?_
   ·intro j u hu;rw[add_lit,zH,hb8.cell];exact hu
   ·simp only;omega
   ·simp only;omega
   have hz9:=e9.1;have hbw9:bY v9 U.size _:=e9.bT (e8.bT S id) λF=>(K8.p _ (hG _ F)).2.1 (.inl rfl);have K9:=(aj v9 {NB q dD C sp aw ys gE []with ys:=ys++[Y],aw:=s',al:=(ys++[Y]).map (·.p)} (λb=>Grow G v8 b/\b<v9.size) (λj M=>by cases j<;>first|rfl|exact absurd rfl M) e9 (λb y=>y.1.imp id λF=>⟨F,λhB=>by have:=(K8.b b hB).2;omega⟩) (by
    show bR s' 1 (fI ((ys++[Y]).map (·.p))) v9 _;have:fI ((ys++[Y]).map (·.p))=fI (ys.map (·.p))++[.pointer (some ⟨Y.p,0,none⟩)]:=by simp[fI]
    rw[this];exact aI.mono hr9 λb y F=>⟨F,y⟩) λb hB=>by have:=(K8.b b hB).2;omega).drop (B':=(· = U.size)) λb y=>.inl y
   refine aG (K9.tK (NB q dD C sp s' (ys++[Y]) gE []) (λj M=>by cases j<;>first|rfl|exact absurd rfl M) rfl (i:=7) rfl O λai P10 K10 gH=>?_)
   have H:=Ws gH hbw9 (ak K9);exact cP (m:=ys.length+1) O O ⟨⟨P10,s',ys++[Y],by simp,by simp;omega,λZ hZ=>(zK.1 hZ).elim (hys Z) λh=>by
    rw[zN]at h;rw[h];exact hYh,K10,H⟩,O⟩
  ·have hya:ys.length=a:=by omega
   refine hbw6.rI rfl ?_;refine Z0 (a:=bN) (λ(z:Int) w=>∃(P:Rg) (tw:Sl) (cs:List gS),z=(cs.length:Int)/\cs.length<=t/\NK U (· = U.size) w P tb cf (NB q dD C sp aw ys tw cs)/\bY w U.size [.int .i64 (p:Int),.int .i64 (a:Int),.int .i64 (t:Int),.int .i64 (b:Int),.int .i64 (r:Int)]) (λz _=>t-z.toNat) ⟨P6,gE,[],rfl,by simp,K6,hbw6⟩ ?_;rintro(z:Int) w7 ⟨P7,tw,cs,rfl,hcsl,K7,S⟩;refine cQ (λhlt=>?_) λhge2=>?_
   ·refine S.rI rfl (Mm (ZR ha K7.e) (b:Int) (λhvf=>by rw[hv]at hvf;cases hvf) (λ_ hn=>absurd ⟨O,O⟩ hn) λ_ _ _ v8 Y e8 hC=>?_);rw[dE,htbd]at hC;have K8:NK U (· = U.size) v8 _ tb cf {NB q dD C sp aw ys tw cs with cs:=cs++[Y]}:=K7.put e8 (.ca cs.length) (Na (N:=NB q dD C sp aw ys tw cs) rfl (λj M=>by
     cases j with
     | ca k=>exact absurd rfl (M k)
     | _=>rfl)) (by
     show rq tb cf.dA (cs++[Y])[cs.length]? v8 _;rw[zr (zD _),qT,hbud];exact hC)
    have hbw8:=e8.bT S id;refine aG (K8.xI.2.rS (a:=tw.a) (n:=tw.len) (c:=tw.cap) rfl (nw (cs:=[.pointer (some ⟨Y.p,0,none⟩),.slice none 0 0,.nilIface]) λv9 hz9 e9 hb9=>?_));have K9:=K8.box e9 hz9;obtain⟨G,hG,d,aj⟩:=K9.step .cN;have d:bR tw 3 (pN cs) v9 G:=d;have hal:tw.len=cs.length:=by have:=d.1;rw[Jv]at this;omega
    refine d.app (ys:=[.pointer (some ⟨Y.p,0,none⟩),.slice none 0 0,.nilIface]) rfl rfl ?_ (by simp[dN]) ?_ ?_ mO λs' ai _ e10 hr10=>?_
    ·intro j u hu;rw[add_lit,zH,hb9.cell];exact hu
    ·simp only;omega
    ·simp only;omega
    have hz10:=e10.1;have H:bY ai U.size _:=e10.bT (e9.bT hbw8 id) λF=>(K9.p _ (hG _ F)).2.1 (.inl rfl);have K10:=(aj ai {NB q dD C sp aw ys tw cs with cs:=cs++[Y],tw:=s',tl:=pN (cs++[Y])} (λb=>Grow G v9 b/\b<ai.size) (λj M=>by cases j<;>first|rfl|exact absurd rfl M) e10 (λb y=>y.1.imp id λF=>⟨F,λhB=>by have:=(K9.b b hB).2;omega⟩) (by
     show bR s' 3 (pN (cs++[Y])) ai _;have:pN (cs++[Y])=pN cs++[.pointer (some ⟨Y.p,0,none⟩),.slice none 0 0,.nilIface]:=by simp[pN]
     rw[this];exact aI.mono hr10 λb y F=>⟨F,y⟩) λb hB=>by have:=(K9.b b hB).2;omega).drop (B':=(· = U.size)) λb y=>.inl y
    refine aG (K10.tK (NB q dD C sp aw ys s' (cs++[Y])) (λj M=>by cases j<;>first|rfl|exact absurd rfl M) rfl (i:=8) rfl O λv11 P11 K11 o11=>?_)
    have hbw11:=Ws o11 H (ak K10);exact cP (m:=cs.length+1) O O ⟨⟨P11,s',cs++[Y],by simp,by simp;omega,K11,hbw11⟩,O⟩
   ·have hct:cs.length=t:=by omega
    have V:cf.threads=cs.length:=by rw[←hcfd,hct]
    have ah:cf.gW=ys.length:=by rw[←hcfd,hya]
    have hN:=yN g gd;refine h0 w7 ⟨q,sp,C,dD,aw,tw,ys,cs.map λc=>⟨c,gE⟩⟩ K7.e ⟨⟨?_,hys,?_,?_,?_,?_,?_,?_⟩,?_,g.bO K7.e,gd.bO K7.e,hN.1,hN.2⟩
    ·simp[VM,ah]
    ·simp[VM,V]
    ·simp[VM,ah];omega
    ·simp[VM,ah];omega
    ·simp[VM,V];omega
    ·simp[VM,V];omega
    ·intro B hB;have:=BU hB;rw[this];rfl
    ·refine(Sep.loc CH.loc).mono (G:=λq=>U.size<=q) ?_ λb _ y=>y;obtain⟨ρ,hs⟩:=(Sep.loc iV.loc).mono K7.sep (G:=λq=>U.size<=q) λb _ y=>(K7.p b y).1;refine⟨ρ,λi=>?_⟩;have Q:=hs i;cases i with
     | hd=>exact Q
     | dD=>exact Q
     | sp=>exact Q
     | fM=>exact bR.gQ Q
     | cN=>
      show bR tw 3 (gI (cs.map λc=>⟨c,gE⟩) (List.replicate cf.threads ⟨List.replicate tb.length ik,[],none⟩)) w7 _;rw[V,JM];exact Q
     | live=>exact Q
     | ar k=>
      show nK ys[k]? (List.replicate cf.gW (fo cf.aF cf.room tb))[k]? w7 _;have Q:rW cf.aF cf.room tb ys[k]? w7 _:=Q;unfold nK;by_cases hk:k<ys.length
      ·rw[mr,zC O,cT hk];rw[cT hk]at Q;exact Q
      ·rw[zV O];trivial
     | ca k=>
      show qh (cs.map λc=>(⟨c,gE⟩:eH))[k]? (List.replicate cf.threads (⟨List.replicate tb.length ik,[],none⟩:Th))[k]? tb cf.dA w7 _;have Q:rq tb cf.dA cs[k]? w7 _:=Q;unfold qh;by_cases hk:k<cs.length
      ·rw[mr,zC O,za,cT hk];rw[cT hk]at Q;exact Q
      ·rw[za,zV O];trivial
     | hn k=>
      show pS (cs.map λc=>(⟨c,gE⟩:eH))[k]? (List.replicate cf.threads (⟨List.replicate tb.length ik,[],none⟩:Th))[k]? w7 _;unfold pS;by_cases hk:k<cs.length
      ·rw[mr,zC O,za,cT hk];exact iq.nil _ _ _
      ·rw[za,zV O];trivial
 ·have rd:∀(i:Nat) (x:Int),[Value.int .i64 (p:Int),.int .i64 (a:Int),.int .i64 (t:Int),.int .i64 (b:Int),.int .i64 (r:Int)][i]?=some (.int .i64 x)->∀m,bY m U.size [.int .i64 (p:Int),.int .i64 (a:Int),.int .i64 (t:Int),.int .i64 (b:Int),.int .i64 (r:Int)]->cell m (Addr.add ⟨U.size,0,none⟩ i)=some (.int .i64 x):=λi x F m hm=>by
   rw[add_lit,hm.cell,zH];exact F
  refine⟨λm=>bY m U.size [.int .i64 (p:Int),.int .i64 (a:Int),.int .i64 (t:Int),.int .i64 (b:Int),.int .i64 (r:Int)],A,⟨(p:Int),rd 0 _ rfl,⟨(a:Int),rd 1 _ rfl,⟨(t:Int),rd 2 _ rfl,⟨(b:Int),rd 3 _ rfl,⟨(r:Int),rd 4 _ rfl,⟨?_,?_⟩⟩⟩⟩⟩⟩⟩
  ·refine VR (ZR ha W) hv λdD v16 ab E=>⟨ab.bT A id,tv λv17 z17 af hm=>⟨af.bT (ab.bT A id) id,?_⟩⟩;rw[htbd]at E;have hz16:=ab.1;refine nw (cs:=[.slice dD.a dD.len dD.cap,.int .i64 (p:Int),.int .i64 (a:Int),.int .i64 (t:Int),.int .i64 (b:Int),.int .i64 (r:Int),.pointer none,.slice none 0 0,.slice none 0 0,.map (some v16.size)]) λv18 z18 ad hb18=>⟨ad.bT (af.bT (ab.bT A id) id) id,hJ _ _ ⟨_,v17.size,dD,v16.size,rfl,Dr (D:=λq=>v2.size<=q/\q<v16.size) (((W.trans ab).trans af).trans ad) O (by rw[hdE];exact hb18) (ad.fO (hm .i64 (.ag 4)) id) ?_ (λb y=>O) O O O,ad.bT (af.bT (ab.bT A id) id) id⟩⟩;exact aH.bO (aH.bO (aH.mono E (G:=λq=>v2.size<=q/\q<v16.size) λb y F=>⟨F,y⟩) af) ad
  ·refine tv λv19 z19 ac hm=>⟨ac.bT A id,VR (ZR ha (W.trans ac)) hv λdD v20 aa E=>⟨aa.bT (ac.bT A id) id,?_⟩⟩;rw[htbd]at E;have hz20:=aa.1;refine nw (cs:=[.slice dD.a dD.len dD.cap,.int .i64 (p:Int),.int .i64 (a:Int),.int .i64 (t:Int),.int .i64 (b:Int),.int .i64 (r:Int),.pointer none,.slice none 0 0,.slice none 0 0,.map (some v2.size)]) λv21 z21 ae hb21=>⟨ae.bT (aa.bT (ac.bT A id) id) id,hJ _ _ ⟨_,v20.size,dD,v2.size,rfl,Dr (D:=λq=>v19.size<=q/\q<v20.size) (((W.trans ac).trans aa).trans ae) O (by rw[hdE];exact hb21) (ae.fO (aa.fO (hm .i64 (.ag 4)) id) id) ?_ (λb y=>O) O O O,ae.bT (aa.bT (ac.bT A id) id) id⟩⟩;exact aH.bO (aH.mono E (G:=λq=>v19.size<=q/\q<v20.size) λb y F=>⟨F,y⟩) ae
end Go.Ar
namespace Go.Ar
open Go Go.Vc Go.Proofs
variable {U u w w':Hp}{F B P Q:Rg}{L:dK}{H:Hw}{t:Nat}{g:Th}
theorem IK (u:Value){R:ByteArray->Hp->Prop}(h:Wc Tryz.prog 346 #[u] [.one .str] U R):iX Tryz.prog (.iface 218 u) "freehold/heap.name" [] [.one .str] U R :=
 ⟨218,u,346,rfl,λw=>by kernel_rfl,λxs w=>by kernel_rfl,h⟩
theorem JL (u:Value){R:ByteArray->Hp->Prop}(h:Wc Tryz.prog 350 #[u] [.one .str] U R):iX Tryz.prog (.iface 228 u) "freehold/heap.name" [] [.one .str] U R :=
 ⟨228,u,350,rfl,λw=>by kernel_rfl,λxs w=>by kernel_rfl,h⟩
theorem RW (u:Value){R:ByteArray->Hp->Prop}(h:Wc Tryz.prog 352 #[u] [.one .str] U R):iX Tryz.prog (.iface 231 u) "freehold/heap.name" [] [.one .str] U R :=
 ⟨231,u,352,rfl,λw=>by kernel_rfl,λxs w=>by kernel_rfl,h⟩
theorem LZ (u:Value){R:ByteArray->Hp->Prop}(h:Wc Tryz.prog 353 #[u] [.one .str] U R):iX Tryz.prog (.iface 233 u) "freehold/heap.name" [] [.one .str] U R :=
 ⟨233,u,353,rfl,λw=>by kernel_rfl,λxs w=>by kernel_rfl,h⟩
theorem NO (u:Value){R:ByteArray->Hp->Prop}(h:Wc Tryz.prog 351 #[u] [.one .str] U R):iX Tryz.prog (.iface 230 u) "freehold/heap.name" [] [.one .str] U R :=
 ⟨230,u,351,rfl,λw=>by kernel_rfl,λxs w=>by kernel_rfl,h⟩
theorem La (u:Value){R:ByteArray->Hp->Prop}(h:Wc Tryz.prog 347 #[u] [.one .str] U R):iX Tryz.prog (.iface 220 u) "freehold/heap.name" [] [.one .str] U R :=
 ⟨220,u,347,rfl,λw=>by kernel_rfl,λxs w=>by kernel_rfl,h⟩
theorem J7 (u:Value){R:ByteArray->Hp->Prop}(h:Wc Tryz.prog 348 #[u] [.one .str] U R):iX Tryz.prog (.iface 222 u) "freehold/heap.name" [] [.one .str] U R :=
 ⟨222,u,348,rfl,λw=>by kernel_rfl,λxs w=>by kernel_rfl,h⟩
theorem Md (u:Value){R:ByteArray->Hp->Prop}(h:Wc Tryz.prog 354 #[u] [.one .str] U R):iX Tryz.prog (.iface 238 u) "freehold/heap.name" [] [.one .str] U R :=
 ⟨238,u,354,rfl,λw=>by kernel_rfl,λxs w=>by kernel_rfl,h⟩
theorem OG (u:Value){R:ByteArray->Hp->Prop}(h:Wc Tryz.prog 355 #[u] [.one .str] U R):iX Tryz.prog (.iface 241 u) "freehold/heap.name" [] [.one .str] U R :=
 ⟨241,u,355,rfl,λw=>by kernel_rfl,λxs w=>by kernel_rfl,h⟩
theorem Sd (u:Value){R:ByteArray->Hp->Prop}(h:Wc Tryz.prog 356 #[u] [.one .str] U R):iX Tryz.prog (.iface 245 u) "freehold/heap.name" [] [.one .str] U R :=
 ⟨245,u,356,rfl,λw=>by kernel_rfl,λxs w=>by kernel_rfl,h⟩
theorem NH (u:Value){R:ByteArray->Hp->Prop}(h:Wc Tryz.prog 349 #[u] [.one .str] U R):iX Tryz.prog (.iface 224 u) "freehold/heap.name" [] [.one .str] U R :=
 ⟨224,u,349,rfl,λw=>by kernel_rfl,λxs w=>by kernel_rfl,h⟩
def nT (s:ByteArray):Prop:=(s.toList==(ByteArray.mk #[]).toList)=false
theorem MB (p:Ph){R:ByteArray->Hp->Prop}(hR:∀s σ',bK U σ'->nT s->R s σ'):iX Tryz.prog (mM (some p)) "freehold/heap.name" [] [.one .str] U R := by
 cases p with
 | take k=>
  refine IK _ (ZK.o ?_);unfold ZK.v;exact nw (cs:=[.int .i64 (k:Int)]) λv hz e hb=>hR _ v e (by unfold nT;decide +kernel)
 | cI k w=>
  refine JL _ (YQ.o ?_);unfold YQ.v;exact nw (cs:=[.int .i64 (k:Int),.int .i64 (w:Int)]) λv hz e hb=>hR _ v e (by unfold nT;decide +kernel)
 | cJ k w=>
  refine RW _ (Zd.o ?_);unfold Zd.v;exact nw (cs:=[.int .i64 (k:Int),.int .i64 (w:Int)]) λv hz e hb=>hR _ v e (by unfold nT;decide +kernel)
 | grow k w=>
  refine LZ _ (ZL.o ?_);unfold ZL.v;exact nw (cs:=[.int .i64 (k:Int),.int .i64 (w:Int)]) λv hz e hb=>hR _ v e (by unfold nT;decide +kernel)
 | fill=>
  refine NO _ (ZQ.o ?_);unfold ZQ.v;exact nw (cs:=[]) λv hz e hb=>hR _ v e (by unfold nT;decide +kernel)
 | eD m=>
  refine La _ (ZD.o ?_);unfold ZD.v;exact nw (cs:=[.int .i64 (m:Int)]) λv hz e hb=>hR _ v e (by unfold nT;decide +kernel)
 | find x=>
  refine J7 _ (ZP.o ?_);unfold ZP.v;exact nw (cs:=[.int .i64 x]) λv hz e hb=>hR _ v e (by unfold nT;decide +kernel)
 | put k x=>
  refine Md _ (Z2.o ?_);unfold Z2.v;exact nw (cs:=[.int .i64 (k:Int),.int .i64 x]) λv hz e hb=>hR _ v e (by unfold nT;decide +kernel)
 | back=>
  refine OG _ (ZN.o ?_);unfold ZN.v;exact nw (cs:=[]) λv hz e hb=>hR _ v e (by unfold nT;decide +kernel)
 | dC s a=>
  refine Sd _ (ZJ.o ?_);unfold ZJ.v;exact nw (cs:=[.int .i64 s,.int .i64 a]) λv hz e hb=>hR _ v e (by unfold nT;decide +kernel)
 | drain=>
  refine NH _ (ZB.o ?_);unfold ZB.v;exact nw (cs:=[]) λv hz e hb=>hR _ v e (by unfold nT;decide +kernel)
def V4 (H:Hw)(thread:Int):Option Ph:=if 0<=thread/\thread<(H.bQ.length:Int)then(match H.bQ[thread.toNat]? with
 | some g=>g.ph
 | none=>none)else none
theorem JF (h:HH U F L H)(thread:Int){R:ByteArray->Hp->Prop}(hR:∀s σ',bK U σ'->(s.toList==(ByteArray.mk #[]).toList)=(V4 H thread).isNone->R s σ'):Y6.c (aW L.p) thread U R:=by
 refine Y6.o ?_;unfold Y6.v;have d:V4 H thread=none->R (ByteArray.mk #[]) U:=λi=>hR _ U (Ext.refl _ _) (by rw[i];decide +kernel);refine VJ h (KJ (λr w=>w=U/\r = !decide (0<=thread/\thread<(H.bQ.length:Int))) (λr w ⟨z,B⟩=>?_) λJ C=>cB rfl (yT h thread (C _ _ ⟨rfl,rfl⟩)));subst z;refine KJ (λr A=>A=w/\r=(V4 H thread).isNone) (λr A ⟨z,b⟩=>?_) λJ1 u=>?_
 ·rw[z];cases i:V4 H thread with
  | none=>rw[i]at b;exact cD (by rw[b];rfl) (d i)
  | some p=>
   rw[i]at b;have a:=i;unfold V4 at a;split at a
   ·rename_i hth;obtain⟨t,rfl⟩:∃t:Nat,thread=(t:Int):=⟨thread.toNat,O⟩;have j:t<H.bQ.length:=by omega
    obtain⟨x,g,y,m⟩:=h.th j;rw[dE,m]at a;simp only at a;refine cB (by rw[b];rfl) (aG (h.hd.rS rfl (h.tR y m ?_)));rw[a];exact MB p λs σ' e j=>hR s σ' e (by rw[i];exact j)
   ·cases a
 ·by_cases hth:0<=thread/\thread<(H.bQ.length:Int)
  ·obtain⟨t,rfl⟩:∃t:Nat,thread=(t:Int):=⟨thread.toNat,O⟩;have j:t<H.bQ.length:=by omega
   obtain⟨x,g,y,m⟩:=h.th j;refine cB (by rw[B,zJ hth];rfl) (aG (h.hd.rS rfl (h.tR y m ⟨uh _,u _ _ ⟨rfl,?_⟩⟩)));rw[G3];unfold V4;rw[zC hth,dE,m]
  ·refine cD (by rw[B,zM hth];rfl) (u _ _ ⟨rfl,?_⟩);unfold V4;rw[zB hth];rfl
def kA (H:Hw):Prop:=1<=H.cf.aF/\H.cf.threads=H.bQ.length/\mC H.tb
end Go.Ar
namespace Go.Ar
open Go Go.Vc Go.Proofs
open Go.Bu (eV)
variable {U u w w':Hp}{F B P Q:Rg}{L:dK}{H H':Hw}{t:Nat}{g:Th}
def Ug (H:Hw)(thread kind size align addr:Int)(H':Hw)(a e:Int):Prop:=
 (Kg H thread kind size align addr=.inl e/\e≠0/\H'=H/\a=0)\/∃t p n,Kg H thread kind size align addr=.inr (t,p)/\iB n (eM H t (some p)) t p H' a e
theorem CW (hso:Ga)(h:HH U F L H)(hv:mC H.tb){thread kind size align addr:Int}{a e:Int}(hw:Ug H thread kind size align addr H' a e){R:Int->Int->Hp->Prop}
 (hR:∀σ' ts',Ext F U σ'->HH σ' (Grow F U) {L with ts:=ts'} H'->R a e σ'):X6.c (aW L.p) thread kind size align addr U R:=by
 rcases hw with⟨hs,hne,rfl,rfl⟩|⟨t,p,n,hs,hr⟩
 ·exact Fm hso h hv thread kind size align addr (λg b _ σ' i d=>by
   rw[hs]at b;cases b;exact hR σ' L.ts i d) λt p b=>by rw[hs]at b;cases b
 ·exact Fm hso h hv thread kind size align addr (λg b=>by rw[hs]at b;cases b) λj m b=>by
   rw[hs]at b;cases b;exact⟨n,H',a,e,hr,hR⟩
theorem OM (hso:Ga)(h:HH U F L H)(hv:mC H.tb){thread size align:Int}{a e:Int}(hw:Ug H thread 0 size align 0 H' a e){R:Int->Int->Hp->Prop}
 (hR:∀σ' ts',Ext F U σ'->HH σ' (Grow F U) {L with ts:=ts'} H'->R a e σ'):YG.c (aW L.p) thread size align U R:=by
 refine YG.o ?_;unfold YG.v;exact CW hso h hv hw hR
theorem Om (hso:Ga)(h:HH U F L H)(hv:mC H.tb){thread addr:Int}{a e:Int}(hw:Ug H thread 1 0 0 addr H' a e){R:aN}
 (hR:∀σ' ts',Ext F U σ'->HH σ' (Grow F U) {L with ts:=ts'} H'->R e σ'):Zg.c (aW L.p) thread addr U R:=by
 refine Zg.o ?_;unfold Zg.v;exact CW hso h hv hw hR
def Qv (H' H:Hw):Prop:=H'.tb=H.tb/\H'.cf=H.cf/\H'.bQ.length=H.bQ.length/\H'.bX.length=H.bX.length
theorem Qv.refl (H:Hw):Qv H H:=⟨rfl,rfl,rfl,rfl⟩
theorem Qv.trans {H1 H2 H3:Hw}(a:Qv H2 H1)(b:Qv H3 H2):Qv H3 H1:=⟨b.1.trans a.1,b.2.1.trans a.2.1,b.2.2.1.trans a.2.2.1,b.2.2.2.trans a.2.2.2⟩
theorem KF (H:Hw)(t:Nat)(f:Th->Th):Qv (H.dT t f) H:=⟨rfl,rfl,by simp[Hw.dT],rfl⟩
theorem KI (H:Hw)(k:Nat)(A:AR)(sp:Sp):Qv {H.cC k A with sp:=sp} H:=⟨rfl,rfl,rfl,by simp[Hw.cC]⟩
theorem ID (H:Hw)(k:Nat)(part:Nat->List Int)(j:Nat):Qv (Va H k part (List.range j)) H:=by
 induction j with
 | zero=>exact Qv.refl H
 | succ j ih=>
  rw[Ve];split
  ·split
   ·exact ih
   ·exact ih.trans (KI _ _ _ _)
  ·exact ih
theorem Po (H:Hw)(own k:Nat)(xs:List Int):Qv (Ht H own k xs) H:=by
 unfold Ht;split
 ·split
  ·exact KI _ _ _ H.sp
  ·refine Qv.trans ?_ (ID _ _ _ _);split
   ·exact KI _ _ _ H.sp
   ·exact Qv.refl H
 ·exact Qv.refl H
theorem OR (H:Hw)(t k:Nat)(x:Int):Qv (ir H t k x) H:=by
 unfold ir;simp only;split<;>split<;>exact⟨rfl,rfl,by simp[Hw.dT,QI],rfl⟩
theorem MM (H:Hw)(t:Nat)(p:Ph):Qv (Wt H t p).1 H:=by
 cases p with
 | take k=>simp only[Wt];split<;>exact⟨rfl,rfl,by simp[Vt,QI,Hw.dT,Hw.cC],by simp[Vt,QI,Hw.dT,Hw.cC]⟩
 | cI k w=>
  simp only[Wt];split
  ·split
   ·exact(KI _ _ _ H.sp).trans (KF _ _ _)
   ·exact Qv.refl H
  ·exact Qv.refl H
 | cJ k w=>
  simp only[Wt];split
  ·exact KI _ _ _ H.sp
  ·exact(KI _ _ _ H.sp).trans (KF _ _ _)
 | grow k w=>simp only[Wt];split<;>exact KI _ _ _ _
 | fill=>
  simp only[Wt];split
  ·exact⟨rfl,rfl,by simp[Vt,QI,Hw.dT,Hw.cC],by simp[Vt,QI,Hw.dT,Hw.cC]⟩
  ·exact Qv.refl H
 | eD m=>simp only[Wt];split<;>exact⟨rfl,rfl,by simp[Vt,QI,Hw.dT,Hw.cC],by simp[Vt,QI,Hw.dT,Hw.cC]⟩
 | find x=>
  simp only[Wt,UO];split
  ·exact Qv.refl H
  ·split
   ·exact⟨rfl,rfl,rfl,rfl⟩
   ·exact Qv.trans (H2:={H with live:=Go.Vc.cR H.live x}) ⟨rfl,rfl,rfl,rfl⟩ (KF _ _ _)
 | put k x=>exact OR H t k x
 | back=>
  simp only[Wt];split
  ·exact(KF _ _ _).trans (Po _ _ _ _)
  ·exact Qv.refl H
 | dC s a=>
  simp only[Wt];split
  ·exact KI _ _ _ H.sp
  ·exact Qv.refl H
 | drain=>exact KF _ _ _
theorem Uq (H:Hw)(t:Nat)(p:Ph):Qv (Qu H t p) H:=(MM H t p).trans (KF _ _ _)
theorem F3 {n:Nat}{H H':Hw}{t:Nat}{p:Ph}{a e:Int}(h:iB n H t p H' a e):Qv H' H:=by
 induction h with
 | done=>exact Uq _ _ _
 | next _ _ _ ih=>exact(Uq _ _ _).trans ih
theorem kA.bS (h:kA H)(k:Qv H' H):kA H':=⟨by rw[k.2.1];exact h.1,by rw[k.2.1,k.2.2.1];exact h.2.1,by rw[k.1];exact h.2.2⟩
end Go.Ar