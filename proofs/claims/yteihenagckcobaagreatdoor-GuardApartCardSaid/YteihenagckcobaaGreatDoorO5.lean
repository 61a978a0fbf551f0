/- Texts joined. -/
import Derived.Test.YteihenagckcobaaGreatDoorO4
set_option linter.unusedVariables false
set_option linter.unusedSimpArgs false
namespace Go.Proofs
open Go.Vc
set_option maxRecDepth 100000
def Xf.h:Hn:=.q .o2 (.q (.q .o3 .aJ) (.q (.o 12) (.q (.q .o2 .aJ) (.q .o4 .l))))
def Xf.v (a:R2)(b:Int)(c:Hp)(d:Int->Int->Hp->Prop):Prop:=Xr.c a c λe f=>If (!e) (d 0 5 f) (bI a 9 f λh=>Lk .i64 (.ag 4) h b f λi=>aV #[.I 0,.I 0,.I 0,.I 0] 112 f λj k=>aR j 0 (.I ((i.getD (0,0,0,0)).1)) k λl=>aR j 1 (.I ((i.getD (0,0,0,0)).2.1)) l λm=>aR j 2 (.I ((i.getD (0,0,0,0)).2.2.1)) m λn=>aR j 3 (.I ((i.getD (0,0,0,0)).2.2.2)) n λo=>If (!i.isSome) (d 0 8 o) (aQ j 1 o λp=>d p 0 o))
theorem Xf.o {a b c d}(e:Xf.v a b c d):Xf.c a b c d:=Wa Tryz.func25 (x:=Xf.h) (R0 e)
def W8.h:Hn:=.q .o1 (.q .o6 .l)
def W8.v (a:R2)(b c:Int)(d:Hp)(e:aN):Prop:=Yv.c a d λf g=>Yg.c f b c g λh i=>e h i
theorem W8.o {a b c d e}(f:W8.v a b c d e):W8.c a b c d e:=Wa Tryz.func27 (x:=W8.h) (R0 f)
def YG.h:Hn:=.q .o2 (.q .gT .l)
def YG.v (a:R2)(b c d:Int)(e:Hp)(f:Int->Int->Hp->Prop):Prop:=XR.c a b 0 c d 0 e λg h i=>f g h i
theorem YG.o {a b c d e f}(g:YG.v a b c d e f):YG.c a b c d e f:=Wa Tryz.func43 (x:=YG.h) (R0 g)
def YC.h:Hn:=.q .o2 (.q .o8 .l)
def YC.v (a:R2)(b:Int)(c:Hp)(d:Int->Int->Hp->Prop):Prop:=Yv.c a c λe f=>YF.c e b f λg h i=>d g h i
theorem YC.o {a b c d}(e:YC.v a b c d):YC.c a b c d:=Wa Tryz.func49 (x:=YC.h) (R0 e)
def Xr.h:Hn:=.q .o1 (.q (.cR (.seq [.op,.op,.op,.cX true 6 (RI.ops 6),.op])) .l)
def Xr.v (a:R2)(b:Hp)(c:aO):Prop:=bV (λd e=>c d e) λf=>If (!a.isNone) (bE a 8 b λh=>f (decide (((h.len:Nat):Int)>0)) b) (f false b)
theorem Xr.o {a b c}(d:Xr.v a b c):Xr.c a b c:=Wa Tryz.func58 (x:=Xr.h) (R0 d)
def Yv.h:Hn:=.q .o1 (.q (.q .o3 .aK) (.q .o5 .l))
def Yv.v (a:R2)(b:Hp)(c:Option Addr->Hp->Prop):Prop:=Xr.c a b λd e=>If (!d) (c none e) (bF a 6 e λg=>c g e)
theorem Yv.o {a b c}(d:Yv.v a b c):Yv.c a b c:=Wa Tryz.func61 (x:=Yv.h) (R0 d)
def Zj.h:Hn:=.q .o1 (.q .gT .aL)
def Zj.v (a:R2)(b c:Int)(d:Hp)(e:aN):Prop:=XR.c a b 1 0 0 c d λf g h=>e g h
theorem Zj.o {a b c d e}(f:Zj.v a b c d e):Zj.c a b c d e:=Wa Tryz.func70 (x:=Zj.h) (R0 f)
def YW.h:Hn:=.q .o2 (.q (.k (.q .o4 (.c .aM (.q .o5 (.c .aM (.q .gT .aK)))))) (.q .o4 (.q (.q .o2 .aK) (.q .o9 .aM))))
def YW.v (a:R2)(b c d e f:Int)(g:Hp)(h:aN):Prop:=aV #[.I c,.I d,.I e,.I f] 123 g λi j=>Xr.c a j λk l=>If (!k) (h 5 l) (XP.c a b l λm n=>If (!m) (h 1 n) (bE a 8 n λp=>Ix p.a p.len b 3 λq=>bA q 2 n λr=>And (iX r) <| If (!(ke r)) (h 5 n) (aQ i 0 n λs=>aQ i 1 n λt=>aQ i 2 n λu=>aQ i 3 n λv=>Yh.c a s t u v n λw x=>And (iX w) <| If (ke w) (h 1 x) (bE a 8 x λz=>Ix z.a z.len b 3 λaa=>And (iX w) <| aR aa 2 (w) x λab=>h 0 ab))))
theorem YW.o {a b c d e f g h}(i:YW.v a b c d e f g h):YW.c a b c d e f g h:=Wa Tryz.func72 (x:=YW.h) (R0 i)
def Y1.h:Hn:=.q .o3 (.q (.k (.q .o4 (.c (.q .o4 .l) (.q .o5 (.c (.q .o4 .l) (.q .gT (.c (.q .o4 .l) .l))))))) (.q (.o 17) (.q .o9 (.q (.cR (.tail 4 (RI.ops 4) [.op,.op])) .l))))
def Y1.v (a:R2)(b:Int)(c:Hp)(d:Bool->Int->Int->Int->Hp->Prop):Prop:=aV #[.I 0,.I 0] 125 c λe f=>Xr.c a f λg h=>If (!g) (aR e 0 (.I 0) h λi=>aR e 1 (.I 0) i λj=>aQ e 0 j λk=>aQ e 1 j λl=>d false k l 5 j) (XP.c a b h λm n=>If (!m) (aR e 0 (.I 0) n λo=>aR e 1 (.I 0) o λp=>aQ e 0 p λq=>aQ e 1 p λr=>d false q r 1 p) (bE a 8 n λt=>Ix t.a t.len b 3 λu=>bA u 2 n λv=>And (iX v) <| If (ke v) (aR e 0 (.I 0) n λw=>aR e 1 (.I 0) w λx=>aQ e 0 x λy=>aQ e 1 x λz=>d false y z 5 x) (bE a 8 n λab=>Ix ab.a ab.len b 3 λac=>bA ac 2 n λad=>Zk.c a b (ad) n λae af ag ah=>aV #[.I 0,.I 0] 125 ah λai aj=>aR ai 0 (.I af) aj λak=>aR ai 1 (.I ag) ak λal=>bE a 8 al λan=>Ix an.a an.len b 3 λao=>And (iX ae) <| aR ao 2 (ae) al λap=>And (iX ae) <| aQ ai 0 ap λaq=>aQ ai 1 ap λar=>aR e 0 (.I aq) ap λau=>aR e 1 (.I ar) au λav=>aQ e 0 av λaw=>aQ e 1 av λax=>d (ke ae) aw ax 0 av)))
theorem Y1.o {a b c d}(e:Y1.v a b c d):Y1.c a b c d:=Wa Tryz.func73 (x:=Y1.h) (R0 e)
def XR.h:Hn:=.q .o3 (.q (.q .o5 (.q .o2 (.c (.q .o3 .l) .l))) (.k (.loop [] (.k (.q (.o 11) (.q .o1 (.c (.q (.oq 6) .l) .l)))))))
def XR.v (a:R2)(b c d e f:Int)(g:Hp)(h:Int->Int->Hp->Prop):Prop:=aV #[.I c,.I d,.I e,.I f] 123 g λi j=>aQ i 0 j λk=>aQ i 1 j λl=>aQ i 2 j λm=>aQ i 3 j λn=>YW.c a b k l m n j λo p=>If (o != 0) (h 0 o p) (X9 [] (λq=>q p) λr s=>Y1.c a b s λt u v w x=>aV #[.I 0,.I 0] 125 x λy z=>aR y 0 (.I u) z λaa=>aR y 1 (.I v) aa λab=>If t (aQ y 0 ab λac=>aQ y 1 ab λad=>h ac ad ab) (r ab))
theorem XR.o {a b c d e f g h}(i:XR.v a b c d e f g h):XR.c a b c d e f g h:=Wa Tryz.func81 (x:=XR.h) (R0 i)
def XZ.h:Hn:=.q .o1 (.q (.q .o3 .aJ) (.q .o5 .l))
def XZ.v (a:R2)(b:Hp)(c:Int->Int->Int->Int->Int->Hp->Prop):Prop:=aV #[.I 0,.I 0,.I 0,.I 0,.I 0] 23 b λd e=>Xr.c a e λf g=>If (!f) (aR d 0 (.I 0) g λh=>aR d 1 (.I 0) h λi=>aR d 2 (.I 0) i λj=>aR d 3 (.I 0) j λk=>aR d 4 (.I 0) k λl=>aQ d 0 l λm=>aQ d 1 l λn=>aQ d 2 l λo=>aQ d 3 l λp=>aQ d 4 l λq=>c m n o p q l) (bU a λr=>bM ((r.add 1).add 0) g λs=>bM ((r.add 1).add 1) g λt=>bM ((r.add 1).add 2) g λu=>bM ((r.add 1).add 3) g λv=>bM ((r.add 1).add 4) g λw=>aR d 0 (.I s) g λx=>aR d 1 (.I t) x λy=>aR d 2 (.I u) y λz=>aR d 3 (.I v) z λaa=>aR d 4 (.I w) aa λab=>aQ d 0 ab λac=>aQ d 1 ab λad=>aQ d 2 ab λae=>aQ d 3 ab λaf=>aQ d 4 ab λag=>c ac ad ae af ag ab)
theorem XZ.o {a b c}(d:XZ.v a b c):XZ.c a b c:=Wa Tryz.func92 (x:=XZ.h) (R0 d)
def Ko.h:Hn:=.q .o3 (.q (.k (.q .o4 (.c .aL (.q .o4 .aJ)))) (.q (.cR (.gL true [] [(6,.one .p)] (.take 0 (.take 2 (.all [(1,.all [(3,.take 4 (.all [(5,.take 6 (.done))]))]),(3,.all [(1,.take 4 (.all [(5,.take 6 (.done))]))])]))))) (.q .gT (.q (.q .o3 (.k (.loop [(36,.I)] (.q .o1 (.q (.c .l .l) (.q (.k (.q (.cR (.held true [7] (.take 0 (.take 1 (.take 2 (.take 3 (.take 4 (.take 5 (.take 6 (.all [(7,.take 8 (.take 9 (.take 10 (.take 11 (.take 12 (.done))))))])))))))))) (.o 11))) .o2)))))) (.q (.q .o3 (.k (.loop [(62,.I)] (.q .o1 (.q (.c .l .l) (.q (.k (.q .o9 (.o 12))) .o2)))))) (.q .o3 .l))))))
def Ko.v (a:Sl)(b c d e f:Int)(g:Hp)(h:Option Addr->Int->Hp->Prop):Prop:=aV #[.I b,.I c,.I d,.I e,.I f] 23 g λi j=>Zv.c a j λk l=>If (!k) (h none 2 l) (aQ i 0 l λm=>aQ i 1 l λn=>aQ i 2 l λo=>aQ i 3 l λp=>aQ i 4 l λq=>Qk.c m n o p q l λr s=>If (!r) (h none 1 s) (Jn [.p] (λ(t:R2) u=>aQ i 0 u λv=>QL.c v u λw x y=>bU t λz=>aR z 6 (.pointer w) y λaa=>aQ i 1 aa λab=>X9 [bN] (λac=>ac 0 aa) λad (ae:Int) af=>If (ae<ab) (eI af λag=>bU t λah=>aU ag ah 6 λai=>aS ag i 4 λaj=>QO.c a ai aj af λak al am=>bE t 7 am λao=>aV #[.pointer ak] 138 am λap aq=>App ao 1 8 138 [.pointer none] ⟨some ap,1,1⟩ aq λar au=>bU t λav=>aR av 7 (.slice ar.a ar.len ar.cap) au λaw=>bL (ae+1) λax=>ad ax aw) (aQ i 2 af λay=>X9 [bN] (λaz=>az 0 af) λa0 (a1:Int) a2=>If (a1<ay) (aQ i 3 a2 λa3=>QN.c a a3 a2 λa4 a5 a6=>bE t 8 a6 λa8=>aV #[.pointer a4,.slice none 0 0,.nilIface] 133 a6 λa9 ba=>App a8 3 48 133 [.pointer none,.slice none 0 0,.nilIface] ⟨some a9,1,1⟩ ba λbb bc=>bU t λbd=>aR bd 8 (.slice bb.a bb.len bb.cap) bc λbe=>bL (a1+1) λbf=>a0 bf be) (h t 0 a2))) λbg=>eI s λbh=>aS bh i 0 λbi=>aS bh i 1 λbj=>
 aS bh i 2 λbk=>aS bh i 3 λbl=>aS bh i 4 λbm=>(Wi.c a s λbn bo=>And (bh bo) <| Nw (.map #[] 0) bo λbp bq=>And (bh bq) <| aV #[.slice bn.a bn.len bn.cap,.I bi,.I bj,.I bk,.I bl,.I bm,.pointer none,.slice none 0 0,.slice none 0 0,.map (some bp.block)] 81 bq λbr bs=>And (bh bs) <| bg (some br) bs) ∧ (Nw (.map #[] 0) s λbt bu=>And (bh bu) <| Wi.c a bu λbv bw=>And (bh bw) <| aV #[.slice bv.a bv.len bv.cap,.I bi,.I bj,.I bk,.I bl,.I bm,.pointer none,.slice none 0 0,.slice none 0 0,.map (some bt.block)] 81 bw λbx bz=>And (bh bz) <| bg (some bx) bz)))
theorem Ko.o {a b c d e f g h}(i:Ko.v a b c d e f g h):Ko.c a b c d e f g h:=Wa Tryz.func101 (x:=Ko.h) (R0 i)
def XP.h:Hn:=.q .o1 (.q (.cR (.seq [.op,.op,.op,.cX true 7 (RI.ops 7),.op])) .l)
def XP.v (a:R2)(b:Int)(c:Hp)(d:aO):Prop:=bV (λe f=>d e f) λg=>If (b≥0) (bE a 8 c λi=>g (decide (b<((i.len:Nat):Int))) c) (g false c)
theorem XP.o {a b c d}(e:XP.v a b c d):XP.c a b c d:=Wa Tryz.func102 (x:=XP.h) (R0 e)
def Yh.h:Hn:=.q .o2 (.q (.q .o2 (.k (.q .o2 (.c (.q (.q (.cR (.seq [.op,.op,.op,.op,.cX false 3 (RI.ops 3)])) .aK) (.q (.cR (.held true [8] (.tk [0,1,2,3,4,5,6,7] (.all [(8,.tk [9,10,11,12,13] (.done))])))) (.q .o1 (.k (.q .o2 (.c (.q .o4 .l) (.q .o2 (.c (.q .o8 .l) .l)))))))) (.q .o2 (.c (.q .o5 .l) (.q .o2 (.c (.q .o3 .l) .l)))))))) .aM)
def Yh.v (a:R2)(b c d e:Int)(f:Hp)(g:Value->Hp->Prop):Prop:=aV #[.I b,.I c,.I d,.I e] 123 f λh i=>aQ h 0 i λj=>If (j==0) (aQ h 1 i λk=>bV (λl m=>If l (g (.nilIface) m) (eI m λn=>bU a λo=>aT n o 0 λp=>aS n h 1 λq=>aS n h 2 λr=>Z7.c p q r m λs t u=>If (t==0) (g (.iface 218 (.agg #[.I s])) u) (If (t==4) (aQ h 1 u λv=>bL (v+256) λw=>bL (w-1) λx=>Nz 256<|bL (x.tdiv 256) λy=>g (.iface 220 (.agg #[.I y])) u) (g (.nilIface) u)))) λz=>If (k<1) (z true i) (aQ h 1 i λaa=>z (decide (aa>16384)) i)) (If (j==1) (aQ h 3 i λab=>g (.iface 222 (.agg #[.I ab])) i) (If (j==2) (g (.iface 224 (.agg #[])) i) (g (.nilIface) i)))
theorem Yh.o {a b c d e f g}(h:Yh.v a b c d e f g):Yh.c a b c d e f g:=Wa Tryz.func103 (x:=Yh.h) (R0 h)
def Zk.h:Hn:=.q .o2 (.q .o7 (.q (.cR (.held true [] (.tk [0,1,2,3,4,5] (.all [(6,.take 7 (.all [(8,.take 9 (.done))]))])))) (.kg [] (.q .o1 (.k (.q .o3 (.c (.q .o2 (.q (.q (.cR (.held true [6] (.tk [0,1,2,3,4,5] (.all [(6,.tk [7,8,9,10,11] (.done))])))) (.q .o2 (.c (.q (.cR (.held true [17] (.tk [0,1,2,3,4,5,6,7,8,9,10,11,12] (.all [(13,.tk [14,15,16] (.all [(17,.done)]))])))) .l) .l))) (.q (.cR (.held true [6] (.tk [0,1,2,3,4,5] (.all [(6,.tk [7,8,9,10,11] (.done))])))) (.q .o8 .l)))) (.q .o3 (.c (.q .o2 (.kg [] (.q (.oq 12) (.c (.q .o9 (.q .o2 (.c (.q .o6 (.q .o5 .l)) .l))) .l)) (.q .o5 .l))) (.q .o3 (.c (.q .o2 (.q (.q (.o 11) (.q .o3 (.c (.q .o6 (.q .o5 .l)) .l))) (.q .o5 .l))) (.q .o3 (.c (.q .o2 (.q (.q .o5 (.q .o2 (.c (.q .o4 .l) .l))) (.q .o5 .l))) (.q .o3 (.c (.q .o2 (.q .o8 (.q .o4 (.q (.cR (.tail 9 (RI.ops 9) [.op])) (.q (.cR (.held true [20] (.tk [0,1,2,3,4,5,6,7,8,9,10,11,12,13,14,15] (.all [(16,.tk [17,18,19] (.all [(20,.done)]))])))) .l))))) (.q .o3 (.c (.q .o2 (.q .o9 (.q (.q .o2 (.c (.q .o4 .l) .l)) (.q (.o 11) .l)))) (.q .o3 (.c (.q .o2 (.q .o9 .l)) (.q .o3 (.c (.q .o2 (.kg [] (.q (.cR (.held true [8] (.tk [0,1,2,3,4,5,6,7] (.all [(8,.tk [9,10,11,12,13] (.done))])))) (.q .o3 (.c .o6 .l))) (.q .o9 (.kg [] (.q .o5 (.c (.cR (.held true [13] (.tk [0,1,2,3,4,5,6,7,8] (.all [(9,.all [(10,.take 11 (.take 12 (.all [(13,.done)])))])])))) .l)) (.q .o6 .l))))) (.q .o3 (.c (.q .o2 (.q .o8 (.q .gT (.q (.cR (.held true [5] (.take 0 (.take 1 (.take 2 (.take 4 (.all [(3,.all [(5,.done)])]))))))) (.q .o6 .l))))) (.q .o3 (.c (.q .o2 (.cR (.tail 10 (RI.ops 10) [.op]))) (.q .o3 (.c (.q .o2 (.q .o9 (.q .o6 .l))) .l)))))))))))))))))))))))) (.q .o3 .l))))
def Zk.v (a:R2)(b:Int)(c:Value)(d:Hp)(e:Value->Int->Int->Hp->Prop):Prop:=aV #[.I 0,.I 0] 125 d λf g=>bE a 8 g λi=>Ix i.a i.len b 3 λj=>eI g λk=>bU a λl=>aT k l 7 λm=>Zp.c a b g λn o=>And (k o) <| Ix m.a m.len n 1 λp=>fW p o λq=>And (k o) <| Jn [] (λr=>aR f 0 (.I 0) r λs=>aR f 1 (.I 0) s λt=>aQ f 0 t λu=>aQ f 1 t λv=>e (.nilIface) u v t) λw=>∃t52:Int,∃is:Bool,j5 c 218 [.I t52] [.I 0] is ∧ (If is (aV #[.I 0] 218 o λx y=>dS x (.I t52) y λz=>eI z λaa=>bU (some j) λab=>aU aa ab 0 λac=>aS aa x 0 λad=>XV.c ac ad z λae af ag=>If (af==0) (eI ag λah=>bU a λai=>aT ah ai 0 λaj=>aS ah x 0 λak=>Ix aj.a aj.len ak 3 λal=>aS ah al 0 λam=>aS ah x 0 λan=>Yz.c a ae am an ag λao ap aq ar=>And (ah ar) <| aR f 0 (.I ap) ar λau=>aR f 1 (.I aq) au λav=>aQ f 0 av λaw=>aQ f 1 av λax=>e (ao) aw ax av) (eI ag λay=>bU (some j) λaz=>aU ay az 0 λa0=>aS ay x 0 λa1=>X4.c a0 a1 ag λa2 a3 a4=>aQ x 0 a4 λa5=>aR f 0 (.I 0) a4 λa6=>aR f 1 (.I 0) a6 λa7=>aQ f 0 a7 λa8=>aQ f 1 a7 λa9=>e (.iface 228 (.agg #[.I a5,.I a2])) a8 a9 a7)) (∃t99:Int,∃t991:Int,∃is1:Bool,j5 c 228 [.I t99,.I t991] [.I 0,.I 0] is1 ∧
 (If is1 (aV #[.I 0,.I 0] 228 o λba bb=>aR ba 0 (.I t99) bb λbc=>aR ba 1 (.I t991) bc λbd=>Jn [] (λbe=>aQ ba 0 be λbf=>aQ ba 1 be λbg=>aR f 0 (.I 0) be λbh=>aR f 1 (.I 0) bh λbi=>aQ f 0 bi λbj=>aQ f 1 bi λbk=>e (.iface 231 (.agg #[.I bf,.I bg])) bj bk bi) λbl=>aQ ba 1 bd λbm=>bE a 0 bd λbo=>aQ ba 0 bd λbp=>Ix bo.a bo.len bp 3 λbq=>aQ bq 2 bd λbr=>If (bm==br) (aQ ba 0 bd λbs=>WA.c q bs bd λbt bu bv=>If (bu==0) (aQ ba 0 bv λbw=>Ye.c a b bw bt bv λbx=>aR f 0 (.I 0) bx λbz=>aR f 1 (.I 0) bz λb0=>aQ f 0 b0 λb1=>aQ f 1 b0 λb2=>e (.iface 230 (.agg #[])) b1 b2 b0) (bl bv)) (bl bd)) (∃t135:Int,∃t1351:Int,∃is2:Bool,j5 c 231 [.I t135,.I t1351] [.I 0,.I 0] is2 ∧ (If is2 (aV #[.I 0,.I 0] 231 o λb3 b4=>aR b3 0 (.I t135) b4 λb5=>aR b3 1 (.I t1351) b5 λb6=>aQ b3 0 b6 λb7=>aQ b3 1 b6 λb8=>WB.c q b7 b8 b6 λb9 ca cb=>If (((b9.len:Nat):Int)>0) (aQ b3 0 cb λcc=>Ye.c a b cc b9 cb λcd=>aR f 0 (.I 0) cd λce=>aR f 1 (.I 0) ce λcf=>aQ f 0 cf λcg=>aQ f 1 cf λch=>e (.iface 230 (.agg #[])) cg ch cf) (aQ b3 0 cb λci=>aQ b3 1 cb λcj=>aR f 0 (.I 0) cb λck=>aR f 1 (.I 0) ck λcl=>aQ f 0 cl λcm=>aQ f 1 cl λcn=>
 e (.iface 233 (.agg #[.I ci,.I cj])) cm cn cl)) (∃t162:Int,∃t1621:Int,∃is3:Bool,j5 c 233 [.I t162,.I t1621] [.I 0,.I 0] is3 ∧ (If is3 (aV #[.I 0,.I 0] 233 o λco cp=>aR co 0 (.I t162) cp λcq=>aR co 1 (.I t1621) cq λcr=>aQ co 0 cr λcs=>X2.c q cs cr λct cu=>If (ct != 0) (aR f 0 (.I 0) cu λcv=>aR f 1 (.I ct) cv λcw=>aQ f 0 cw λcx=>aQ f 1 cw λcy=>e (.nilIface) cx cy cw) (aQ co 0 cu λcz=>aQ co 1 cu λc0=>aR f 0 (.I 0) cu λc1=>aR f 1 (.I 0) c1 λc2=>aQ f 0 c2 λc3=>aQ f 1 c2 λc4=>e (.iface 231 (.agg #[.I cz,.I c0])) c3 c4 c2)) (∃is4:Bool,j5 c 230 [] [] is4 ∧ (If is4 (aV #[] 230 o λc5 c6=>bE (some j) 1 c6 λc8=>Ix c8.a c8.len 0 2 λc9=>aQ c9 0 c6 λda=>aX c9 1 c6 λdb=>aV #[.I 0,.slice none 0 0] 135 c6 λdc dd=>aR dc 0 (.I da) dd λde=>aR dc 1 (.slice db.a db.len db.cap) de λdf=>bU (some j) λdg=>aR dg 1 (.slice none 0 0) df λdh=>bF (some j) 0 dh λdj=>aQ dc 0 dh λdk=>aX dc 1 dh λdl=>eY dl 1 1 (dl.len:Nat) (dl.cap:Nat) λdm=>X3.c dj dk dm dh λdn dp=>eI dp λdq=>aT dq dc 1 λdr=>Ix dr.a dr.len 0 1 λds=>gE dq bN ds λ(dt:Int)=>bU a λdu=>aT dq du 0 λdv=>aS dq dc 0 λdw=>Ix dv.a dv.len dw 3 λdx=>aS dq dx 0 λdy=>
 aS dq dc 0 λdz=>Yz.c a dt dy dz dp λd0 d1 d2 d3=>And (dq d3) <| aR f 0 (.I d1) d3 λd4=>aR f 1 (.I d2) d4 λd5=>aQ f 0 d5 λd6=>aQ f 1 d5 λd7=>e (d0) d6 d7 d5) (∃t217:Int,∃is5:Bool,j5 c 220 [.I t217] [.I 0] is5 ∧ (If is5 (aV #[.I 0] 220 o λd8 d9=>dS d8 (.I t217) d9 λea=>aQ d8 0 ea λeb=>WJ.c q eb 1 ea λec ed ee=>If (ed != 0) (aR f 0 (.I 0) ee λef=>aR f 1 (.I ed) ef λeg=>aQ f 0 eg λeh=>aQ f 1 eg λei=>e (.nilIface) eh ei eg) (bL (ec*256) λej=>aQ d8 0 ee λek=>bL (ek*256) λel=>Yz.c a ej el (-1) ee λem en eo ep=>aR f 0 (.I en) ep λeq=>aR f 1 (.I eo) eq λer=>aQ f 0 er λes=>aQ f 1 er λet=>e (em) es et er)) (∃t240:Int,∃is6:Bool,j5 c 222 [.I t240] [.I 0] is6 ∧ (If is6 (aV #[.I 0] 222 o λeu ev=>dS eu (.I t240) ev λew=>aQ eu 0 ew λex=>Zn.c a b ex ew λey ez e0 e1=>aR f 0 (.I ez) e1 λe2=>aR f 1 (.I e0) e2 λe3=>aQ f 0 e3 λe4=>aQ f 1 e3 λe5=>e (ey) e4 e5 e3) (∃t250:Int,∃t2501:Int,∃is7:Bool,j5 c 238 [.I t250,.I t2501] [.I 0,.I 0] is7 ∧ (If is7 (aV #[.I 0,.I 0] 238 o λe6 e7=>aR e6 0 (.I t250) e7 λe8=>aR e6 1 (.I t2501) e8 λe9=>Jn [] (λfa=>bE (some j) 1 fa λfc=>eY fc 2 1 (fc.len:Nat) (fc.cap:Nat) λfd=>bU (some j) λfe=>aR fe 1 (.slice fd.a fd.len fd.cap) fa λff=>Jn [] (λfg=>
 WU.c a b fg λfh fi=>aR f 0 (.I 0) fi λfj=>aR f 1 (.I 0) fj λfk=>aQ f 0 fk λfl=>aQ f 1 fk λfm=>e (fh) fl fm fk) λfn=>bF (some j) 0 ff λfp=>X8.c fp ff λfq fr=>If fq (eI fr λfs=>bU (some j) λft=>aT fs ft 1 λfu=>bU (some j) λfv=>aU fs fv 0 λfw=>WX.c fw fr λfx fy=>And (fs fy) <| App fu 2 32 135 [.I 0,.slice none 0 0] fx fy λfz f0=>And (fs f0) <| bU (some j) λf1=>aR f1 1 (.slice fz.a fz.len fz.cap) f0 λf2=>fn f2) (fn fr)) λf3=>eI e9 λf4=>bU (some j) λf5=>aU f4 f5 0 λf6=>aS f4 e6 0 λf7=>aS f4 e6 1 λf8=>Yu.c f6 f7 f8 e9 λf9 ga gb=>If (((f9.len:Nat):Int)>0) (aQ e6 0 gb λgc=>Ye.c a b gc f9 gb λgd=>f3 gd) (f3 gb)) (∃is8:Bool,j5 c 241 [] [] is8 ∧ (If is8 (aV #[] 241 o λge gf=>bE (some j) 1 gf λgh=>Ix gh.a gh.len 0 2 λgi=>aQ gi 0 gf λgj=>aX gi 1 gf λgk=>aV #[.I 0,.slice none 0 0] 135 gf λgl gm=>aR gl 0 (.I gj) gm λgn=>aR gl 1 (.slice gk.a gk.len gk.cap) gn λgo=>bE (some j) 1 go λgq=>eY gq 2 1 (gq.len:Nat) (gq.cap:Nat) λgr=>Wq.c gr go λgs gt=>bU (some j) λgu=>aR gu 1 (.slice gs.a gs.len gs.cap) gt λgv=>eI gv λgw=>aS gw gl 0 λgx=>aT gw gl 1 λgy=>Zp.c a b gv λgz g0=>And (gw g0) <| Zm.c a gz gx gy g0 λg1=>
 WU.c a b g1 λg2 g3=>aR f 0 (.I 0) g3 λg4=>aR f 1 (.I 0) g4 λg5=>aQ f 0 g5 λg6=>aQ f 1 g5 λg7=>e (g2) g6 g7 g5) (∃t332:Int,∃t3321:Int,∃is9:Bool,j5 c 245 [.I t332,.I t3321] [.I 0,.I 0] is9 ∧ (If is9 (aV #[.I 0,.I 0] 245 o λg8 g9=>aR g8 0 (.I t332) g9 λha=>aR g8 1 (.I t3321) ha λhb=>bE a 7 hb λhd=>aQ g8 1 hb λhe=>Ix hd.a hd.len he 1 λhf=>fW hf hb λhg=>aQ g8 0 hb λhh=>WM.c hg hh hb λhi hj=>w hj) (∃is10:Bool,j5 c 224 [] [] is10 ∧ (If is10 (aV #[] 224 o λhk hl=>bF (some j) 0 hl λhn=>XD.c hn hl λho hp=>bU (some j) λhq=>aR hq 1 (.slice ho.a ho.len ho.cap) hp λhr=>WU.c a b hr λhs ht=>aR f 0 (.I 0) ht λhu=>aR f 1 (.I 0) hu λhv=>aQ f 0 hv λhw=>aQ f 1 hv λhx=>e (hs) hw hx hv) (w o))))))))))))))))))))))
theorem Zk.o {a b c d e}(f:Zk.v a b c d e):Zk.c a b c d e:=Wa Tryz.func104 (x:=Zk.h) (R0 f)
def YV.h:Hn:=.q .o1 (.q (.q (.cR (.seq [.op,.op,.op,.op,.cX false 4 (RI.ops 4),.op,.cX false 9 (RI.ops 9)])) .aK) (.q .gT .l))
def YV.v (a:R2)(b:Int)(c:Hp)(d:ByteArray->Hp->Prop):Prop:=Xr.c a c λe f=>bV (λg h=>bV (λi j=>If i (d (ByteArray.mk #[]) j) (bE a 8 j λl=>Ix l.a l.len b 3 λm=>bA m 2 j λn=>iL Tryz.prog n "freehold/heap.name" [] [.one .str] j fun t33 v3 =>d t33 v3)) λo=>If g (o true h) (bE a 8 h λq=>Ix q.a q.len b 3 λr=>bA r 2 h λs=>And (iX s) <| o (ke s) h)) λt=>If (!e) (t true f) (XP.c a b f λu v=>t (!u) v)
theorem YV.o {a b c d}(e:YV.v a b c d):YV.c a b c d:=Wa Tryz.func131 (x:=YV.h) (R0 e)
def Qk.h:Hn:=.q .o2 (.q (.cR (.seq [.op,.op,.op,.op,.cX true 3 (RI.ops 3),.op,.cX true 4 (RI.ops 4),.op,.cX true 3 (RI.ops 3),.op,.cX true 3 (RI.ops 3),.op,.cX true 3 (RI.ops 3),.op,.cX true 3 (RI.ops 3),.op,.cX true 3 (RI.ops 3),.op,.cX true 3 (RI.ops 3),.op,.cX true 3 (RI.ops 3),.op,.cX true 3 (RI.ops 3),.op])) .l)
def Qk.v (a b c d e:Int)(f:Hp)(g:aO):Prop:=aV #[.I a,.I b,.I c,.I d,.I e] 23 f λh i=>aQ h 0 i λj=>bV (λk l=>bV (λm n=>bV (λo p=>bV (λq r=>bV (λs t=>bV (λu v=>bV (λw x=>bV (λy z=>bV (λaa ab=>bV (λac ad=>g ac ad) λae=>If aa (aQ h 4 ab λaf=>ae (decide (af<=8)) ab) (ae false ab)) λag=>If y (aQ h 4 z λah=>ag (decide (ah≥0)) z) (ag false z)) λai=>If w (aQ h 3 x λaj=>ai (decide (aj<=65536)) x) (ai false x)) λak=>If u (aQ h 3 v λal=>ak (decide (al≥0)) v) (ak false v)) λam=>If s (aQ h 2 t λan=>am (decide (an<=4)) t) (am false t)) λao=>If q (aQ h 2 r λap=>ao (decide (ap≥1)) r) (ao false r)) λaq=>If o (aQ h 1 p λar=>aq (decide (ar<=4)) p) (aq false p)) λau=>If m (aQ h 1 n λav=>au (decide (av≥1)) n) (au false n)) λaw=>If k (aQ h 0 l λax=>Nz 16 <| aw ((ax.tmod 16)==0) l) (aw false l)) λay=>If (j≥32) (aQ h 0 i λaz=>ay (decide (az<=1024)) i) (ay false i)
theorem Qk.o {a b c d e f g}(h:Qk.v a b c d e f g):Qk.c a b c d e f g:=Wa Tryz.func141 (x:=Qk.h) (R0 h)
def Zp.h:Hn:=.q .o1 (.q .o8 .l)
def Zp.v (a:R2)(b:Int)(c:Hp)(d:aN):Prop:=bE a 7 c λf=>Nz ((f.len:Nat):Int) <| d (b.tmod ((f.len:Nat):Int)) c
theorem Zp.o {a b c d}(e:Zp.v a b c d):Zp.c a b c d:=Wa Tryz.func146 (x:=Zp.h) (R0 e)
def Yz.h:Hn:=.q .o2 (.q (.cR (.held true [12] (.tk [0,1,2,3,4,5,6,7,8,9] (.all [(10,.take 11 (.all [(12,.done)]))])))) (.q .o4 .l))
def Yz.v (a:R2)(b c d:Int)(e:Hp)(f:Value->Int->Int->Hp->Prop):Prop:=aV #[.I 0,.I 0] 125 e λg h=>eI h λi=>bU a λj=>gE i .m (j.add 9) λ(k:Option Nat)=>X7.c a b h λl m=>And (i m) <| kf .i64 (.ag 4) k b (b,c,d,l) m λn=>aR g 0 (.I b) n λo=>aR g 1 (.I 0) o λp=>aQ g 0 p λq=>aQ g 1 p λr=>f (.nilIface) q r p
theorem Yz.o {a b c d e f}(g:Yz.v a b c d e f):Yz.c a b c d e f:=Wa Tryz.func148 (x:=Yz.h) (R0 g)
def Ye.h:Hn:=.cR (.held true [20] (.tk [0,1,2,3,4,5,6,7,8,9,10,11,12,13,14,15] (.all [(16,.all [(17,.take 18 (.take 19 (.all [(20,.done)])))])])))
def Ye.v (a:R2)(b c:Int)(d:Sl)(e:Hp)(f:aP):Prop:=eI e λg=>bU a λh=>aT g h 8 λi=>bU a λj=>aT g j 8 λk=>Ix k.a k.len b 3 λl=>aT g l 1 λm=>aV #[.I c,.slice d.a d.len d.cap] 135 e λn o=>And (g o) <| App m 2 32 135 [.I 0,.slice none 0 0] ⟨some n,1,1⟩ o λp q=>And (g q) <| Ix i.a i.len b 3 λr=>aR r 1 (.slice p.a p.len p.cap) q λs=>f s
theorem Ye.o {a b c d e f}(g:Ye.v a b c d e f):Ye.c a b c d e f:=Wa Tryz.func151 (x:=Ye.h) (R0 g)
def Zn.h:Hn:=.q .o2 (.q (.o 12) (.q (.q .o2 (.c (.kg [] (.q .o4 (.q .o2 (.c (.q (.o 16) (.q (.cR (.seq [.op,.op,.op,.cX true 2 [.op,.op],.op,.cX true 3 (RI.ops 3)])) (.c (.q .o3 .l) .l))) .l))) (.q .o3 .l)) .l)) (.q .o6 (.q (.q .o3 (.c (.q .o9 .l) .l)) (.q .o7 (.q .o8 .l))))))
def Zn.v (a:R2)(b c:Int)(d:Hp)(e:Value->Int->Int->Hp->Prop):Prop:=aV #[.I 0,.I 0] 125 d λf g=>bI a 9 g λi=>Lk .i64 (.ag 4) i c g λj=>aV #[.I 0,.I 0,.I 0,.I 0] 112 g λk l=>aR k 0 (.I ((j.getD (0,0,0,0)).1)) l λm=>aR k 1 (.I ((j.getD (0,0,0,0)).2.1)) m λn=>aR k 2 (.I ((j.getD (0,0,0,0)).2.2.1)) n λo=>aR k 3 (.I ((j.getD (0,0,0,0)).2.2.2)) o λp=>If (!j.isSome) (Jn [] (λq=>aR f 0 (.I 0) q λr=>aR f 1 (.I 8) r λs=>aQ f 0 s λt=>aQ f 1 s λu=>e (.nilIface) t u s) λv=>X7.c a c p λw x=>If (w≥0) (bE a 7 x λz=>Ix z.a z.len w 1 λaa=>fW aa x λab=>YD.c ab c x λac ad ae af=>bV (λag ah=>bV (λai aj=>If ai (aR f 0 (.I 0) aj λak=>aR f 1 (.I 9) ak λal=>aQ f 0 al λam=>aQ f 1 al λan=>e (.nilIface) am an al) (v aj)) λao=>If ag (ao (ad==c) ah) (ao false ah)) λap=>If (ae==0) (ap (decide (ac≥0)) af) (ap false af)) (v x)) (bI a 9 p λar=>lC .i64 (.ag 4) ar c p λau=>aQ k 2 au λav=>If (av<0) (Nz 256<|bL (c.tdiv 256) λaw=>aQ k 3 au λax=>aR f 0 (.I 0) au λay=>aR f 1 (.I 0) ay λaz=>aQ f 0 az λa0=>aQ f 1 az λa1=>e (.iface 245 (.agg #[.I aw,.I ax])) a0 a1 az) (aQ k 2 au λa2=>aV #[.I c] 3 au λa3 a4=>Ye.c a b a2 ⟨some a3,1,1⟩ a4 λa5=>aQ k 2 a5 λa6=>aR f 0 (.I 0) a5 λa7=>
 aR f 1 (.I 0) a7 λa8=>aQ f 0 a8 λa9=>aQ f 1 a8 λba=>e (.iface 238 (.agg #[.I a6,.I c])) a9 ba a8))
theorem Zn.o {a b c d e}(f:Zn.v a b c d e):Zn.c a b c d e:=Wa Tryz.func156 (x:=Zn.h) (R0 f)
def WU.h:Hn:=.q .o1 (.q (.q .gT .aK) (.q .o3 .l))
def WU.v (a:R2)(b:Int)(c:Hp)(d:Value->Hp->Prop):Prop:=bE a 8 c λf=>Ix f.a f.len b 3 λg=>aX g 1 c λh=>If (((h.len:Nat):Int)==0) (d (.nilIface) c) (d (.iface 241 (.agg #[])) c)
theorem WU.o {a b c d}(e:WU.v a b c d):WU.c a b c d:=Wa Tryz.func160 (x:=WU.h) (R0 e)
def Zm.h:Hn:=.q .o1 (.q .o7 (.q (.q .o4 (.k (.loop [(23,.I)] (.q .o1 (.q (.c .l .l) (.q (.k (.q .o3 (.q .o4 (.o 11)))) .o2)))))) (.kg [] (.q (.oq 9) (.c (.q (.cR (.held true [] (.tk [0,1,2,3,4,5,6,7,8,9,10] (.all [(11,.tk [12,13,14,15,16] (.done))])))) (.q (.cR (.seq [.op,.op,.cX true 2 [.op,.op]])) (.c .l .l))) .l)) (.q .o3 (.k (.loop [(72,.I)] (.q .o1 (.q (.c .l .l) (.q (.k (.q .o5 (.q .o3 (.c (.cR (.tail 10 (RI.ops 10) [.op])) .l)))) .o2)))))))))
def Zm.v (a:R2)(b c:Int)(d:Sl)(e:Hp)(f:aP):Prop:=aV #[.I c,.slice d.a d.len d.cap] 135 e λg h=>bU a λi=>aX i 7 h λj=>Mk ((j.len:Nat):Int) ((j.len:Nat):Int) 24 34 [.slice none 0 0] h λk l=>aX g 1 l λm=>X9 [bN] (λn=>n 0 l) λo (p:Int) q=>If (p<((m.len:Nat):Int)) (Ix m.a m.len p 1 λr=>bM r q λs=>X7.c a s q λt u=>Ix k.a k.len t 1 λv=>jj v u λw=>aV #[.I s] 3 u λx y=>App w 1 8 3 [.I 0] ⟨some x,1,1⟩ y λz aa=>Ix k.a k.len t 1 λab=>dS ab (.slice z.a z.len z.cap) aa λac=>bL (p+1) λad=>o ad ac) (Jn [] (λae=>X9 [bN] (λaf=>af 0 ae) λag (ah:Int) ai=>If (ah<((k.len:Nat):Int)) (Ix k.a k.len ah 1 λaj=>jj aj ai λak=>If (((ak.len:Nat):Int)>0) (bE a 7 ai λam=>Ix am.a am.len ah 1 λan=>fW an ai λao=>aQ g 0 ai λap=>WK.c ao ap ak ai λaq ar=>bL (ah+1) λau=>ag au ar) (bL (ah+1) λav=>ag av ai)) (f ai)) λaw=>Ix k.a k.len b 1 λax=>jj ax q λay=>aX g 1 q λaz=>If (((ay.len:Nat):Int)==((az.len:Nat):Int)) (eI q λa0=>bU a λa1=>aT a0 a1 7 λa2=>Ix a2.a a2.len b 1 λa3=>gE a0 .p a3 λ(a4:R2)=>aS a0 g 0 λa5=>aT a0 g 1 λa6=>WF.c a4 a5 a6 q λa7 a8 a9=>And (a0 a9) <| bV (λba bb=>If ba (f bb) (aw bb)) λbc=>If a7 (bc (a8==0) a9) (bc false a9)) (aw q))
theorem Zm.o {a b c d e f}(g:Zm.v a b c d e f):Zm.c a b c d e f:=Wa Tryz.func162 (x:=Zm.h) (R0 g)
def X7.h:Hn:=.q .o2 (.q (.q .o2 .aK) (.q .o7 .l))
def X7.v (a:R2)(b:Int)(c:Hp)(d:aN):Prop:=aV #[.I b] 3 c λe f=>bM e f λg=>If (g<0) (d (-1) f) (bE a 7 f λi=>Wk.c i ⟨250,#[],#[.pointer (some e)]⟩ f λj k=>d j k)
theorem X7.o {a b c d}(e:X7.v a b c d):X7.c a b c d:=Wa Tryz.func205 (x:=X7.h) (R0 e)
def YS.h:Hn:=.q .o1 (.q .o5 .l)
def YS.v (a:R2)(b:Addr)(c:Hp)(d:aO):Prop:=bM b c λe=>Nz 256<|bL (e.tdiv 256) λf=>YJ.c a f c λg h=>d g h
theorem YS.o {a b c d}(e:YS.v a b c d):YS.c a b c d:=Wa Tryz.func250 (x:=YS.h) (R0 e)
def ZK.h:Hn:=.q .o2 .aM
def ZK.v (a:Int)(b:Hp)(c:ByteArray->Hp->Prop):Prop:=aV #[.I a] 218 b λd e=>c (ByteArray.mk #[116,97,107,101]) e
theorem ZK.o {a b c}(d:ZK.v a b c):ZK.c a b c:=Wa Tryz.func346 (x:=ZK.h) (R0 d)
def ZB.h:Hn:=.q .o2 .aM
def ZB.v (a:Int)(b:Hp)(c:ByteArray->Hp->Prop):Prop:=aV #[.I a] 220 b λd e=>c (ByteArray.mk #[108,97,114,103,101]) e
theorem ZB.o {a b c}(d:ZB.v a b c):ZB.c a b c:=Wa Tryz.func347 (x:=ZB.h) (R0 d)
def ZJ.h:Hn:=.q .o2 .aM
def ZJ.v (a:Int)(b:Hp)(c:ByteArray->Hp->Prop):Prop:=aV #[.I a] 222 b λd e=>c (ByteArray.mk #[102,105,110,100]) e
theorem ZJ.o {a b c}(d:ZJ.v a b c):ZJ.c a b c:=Wa Tryz.func348 (x:=ZJ.h) (R0 d)
def ZC.h:Hn:=.q .o2 .aM
def ZC.v (a:Hp)(b:ByteArray->Hp->Prop):Prop:=aV #[] 224 a λc d=>b (ByteArray.mk #[100,114,97,105,110]) d
theorem ZC.o {a b}(c:ZC.v a b):ZC.c a b:=Wa Tryz.func349 (x:=ZC.h) (R0 c)
def YR.h:Hn:=.q .o2 .aM
def YR.v (a b:Int)(c:Hp)(d:ByteArray->Hp->Prop):Prop:=aV #[.I a,.I b] 228 c λe f=>d (ByteArray.mk #[116,114,97,110,115,102,101,114]) f
theorem YR.o {a b c d}(e:YR.v a b c d):YR.c a b c d:=Wa Tryz.func350 (x:=YR.h) (R0 e)
def ZM.h:Hn:=.q .o2 .aM
def ZM.v (a:Hp)(b:ByteArray->Hp->Prop):Prop:=aV #[] 230 a λc d=>b (ByteArray.mk #[102,105,108,108]) d
theorem ZM.o {a b}(c:ZM.v a b):ZM.c a b:=Wa Tryz.func351 (x:=ZM.h) (R0 c)
def Zd.h:Hn:=.q .o2 .aM
def Zd.v (a b:Int)(c:Hp)(d:ByteArray->Hp->Prop):Prop:=aV #[.I a,.I b] 231 c λe f=>d (ByteArray.mk #[99,101,110,116,114,97,108]) f
theorem Zd.o {a b c d}(e:Zd.v a b c d):Zd.c a b c d:=Wa Tryz.func352 (x:=Zd.h) (R0 e)
def ZO.h:Hn:=.q .o2 .aM
def ZO.v (a b:Int)(c:Hp)(d:ByteArray->Hp->Prop):Prop:=aV #[.I a,.I b] 233 c λe f=>d (ByteArray.mk #[103,114,111,119]) f
theorem ZO.o {a b c d}(e:ZO.v a b c d):ZO.c a b c d:=Wa Tryz.func353 (x:=ZO.h) (R0 e)
def ZZ.h:Hn:=.q .o2 .aM
def ZZ.v (a b:Int)(c:Hp)(d:ByteArray->Hp->Prop):Prop:=aV #[.I a,.I b] 238 c λe f=>d (ByteArray.mk #[112,117,116]) f
theorem ZZ.o {a b c d}(e:ZZ.v a b c d):ZZ.c a b c d:=Wa Tryz.func354 (x:=ZZ.h) (R0 e)
def ZP.h:Hn:=.q .o2 .aM
def ZP.v (a:Hp)(b:ByteArray->Hp->Prop):Prop:=aV #[] 241 a λc d=>b (ByteArray.mk #[98,97,99,107]) d
theorem ZP.o {a b}(c:ZP.v a b):ZP.c a b:=Wa Tryz.func355 (x:=ZP.h) (R0 c)
def ZI.h:Hn:=.q .o2 .aM
def ZI.v (a b:Int)(c:Hp)(d:ByteArray->Hp->Prop):Prop:=aV #[.I a,.I b] 245 c λe f=>d (ByteArray.mk #[103,105,118,101]) f
theorem ZI.o {a b c d}(e:ZI.v a b c d):ZI.c a b c d:=Wa Tryz.func356 (x:=ZI.h) (R0 e)
end Go.Proofs
namespace Go.Ar
open Go Go.Vc Go.Proofs
def mP:Option Ph->Value
 | none=>.nilIface
 | some (.take k)=>.iface 218 (.agg #[.int .i64 (k:Int)])
 | some (.cH k w)=>.iface 228 (.agg #[.int .i64 (k:Int),.int .i64 (w:Int)])
 | some (.cJ k w)=>.iface 231 (.agg #[.int .i64 (k:Int),.int .i64 (w:Int)])
 | some (.grow k w)=>.iface 233 (.agg #[.int .i64 (k:Int),.int .i64 (w:Int)])
 | some .fill=>.iface 230 (.agg #[])
 | some (.eD m)=>.iface 220 (.agg #[.int .i64 (m:Int)])
 | some (.find x)=>.iface 222 (.agg #[.int .i64 x])
 | some (.put k x)=>.iface 238 (.agg #[.int .i64 (k:Int),.int .i64 x])
 | some .back=>.iface 241 (.agg #[])
 | some (.dC s a)=>.iface 245 (.agg #[.int .i64 s,.int .i64 a])
 | some .drain=>.iface 224 (.agg #[])
theorem uz (p:Option Ph):iX (mP p):=by
 cases p with
 | none=>exact .inl rfl
 | some p=>cases p<;>exact .inr ⟨_,_,rfl⟩
theorem G3 (p:Option Ph):ke (mP p)=p.isNone:=by
 cases p with
 | none=>rfl
 | some p=>cases p<;>rfl
inductive kH where
 | hd|dD|sp|fM|cN|live
 | ar (k:Nat)
 | ca (k:Nat)
 | hn (k:Nat)
 deriving DecidableEq
structure eH where
 c:gS
 h:Sl
structure dJ where
 p:Nat
 hs:Nat
 lm:Nat
 dD:Sl
 fM:Sl
 cN:Sl
 ys:List Lay
 ts:List eH
def yd (L:dJ)(c:Cf):List Value:=[.slice L.dD.a L.dD.len L.dD.cap,.int .i64 (c.aF:Int),.int .i64 (c.gY:Int),.int .i64 (c.threads:Int),.int .i64 (c.dA:Int),.int .i64 (c.room:Int),
 .pointer (some ⟨L.hs,0,none⟩),.slice L.fM.a L.fM.len L.fM.cap,.slice L.cN.a L.cN.len L.cN.cap,.map (some L.lm)]
def jt (x:eH×Th):List Value:=[.pointer (some ⟨x.1.c.p,0,none⟩),.slice x.1.h.a x.1.h.len x.1.h.cap,mP x.2.ph]
def gR (ts:List eH)(bQ:List Th):List Value:=(ts.zip bQ).flatMap jt
theorem HL:∀{ts:List eH} {bQ:List Th},ts.length=bQ.length->(gR ts bQ).length=bQ.length*3
 | [],[],_=>rfl
 | x::ts,h::bQ,e=>by
  have e1:gR (x::ts) (h::bQ)=jt (x,h)++gR ts bQ:=rfl;have a:(jt (x,h)).length=3:=rfl;rw[e1,zO,HL (by simpa using e),a,zY];omega
 | [],_::_,e=>by simp at e
 | _::_,[],e=>by simp at e
theorem BU:∀{ts:List eH} {bQ:List Th} {i:Nat} {x:eH} {h:Th},ts[i]?=some x->bQ[i]?=some h->∀{d:Nat},d<3->(gR ts bQ)[3*i+d]?=(jt (x,h))[d]?
 | [],_,_,_,_,h1,_,_,_=>by simp at h1
 | _::_,[],_,_,_,_,h2,_,_=>by simp at h2
 | y::ts,g::bQ,0,x,h,h1,h2,d,hd=>by
  have e1:gR (y::ts) (g::bQ)=jt (y,g)++gR ts bQ:=rfl;have a:(jt (y,g)).length=3:=rfl;simp at h1 h2;subst h1;subst h2;rw[e1,ze O];congr 1;omega
 | y::ts,g::bQ,i+1,x,h,h1,h2,d,hd=>by
  have e1:gR (y::ts) (g::bQ)=jt (y,g)++gR ts bQ:=rfl;have a:(jt (y,g)).length=3:=rfl;rw[e1,zp O,a,show 3*(i+1)+d-3=3*i+d by omega];exact BU (by simpa using h1) (by simpa using h2) hd
theorem xf:∀{ts:List eH} {bQ:List Th} {i:Nat} {x:eH} {h:Th},ts[i]?=some x->bQ[i]?=some h->∀{d:Nat} {v:Value} {x':eH} {h':Th},d<3->jt (x',h')=(jt (x,h)).set d v →
 (gR ts bQ).set (3*i+d) v=gR (ts.set i x') (bQ.set i h')
 | [],_,_,_,_,h1,_,_,_,_,_,_,_=>by simp at h1
 | _::_,[],_,_,_,_,h2,_,_,_,_,_,_=>by simp at h2
 | y::ts,g::bQ,0,x,h,h1,h2,d,v,x',h',hd,e=>by
  have e1:gR (y::ts) (g::bQ)=jt (y,g)++gR ts bQ:=rfl;have e2:gR ((y::ts).set 0 x') ((g::bQ).set 0 h')=jt (x',h')++gR ts bQ:=rfl;have a:(jt (y,g)).length=3:=rfl;simp at h1 h2;subst h1;subst h2;rw[e1,e2,List.set_append_left _ _ O,e,show 3*0+d=d by omega]
 | y::ts,g::bQ,i+1,x,h,h1,h2,d,v,x',h',hd,e=>by
  have e1:gR (y::ts) (g::bQ)=jt (y,g)++gR ts bQ:=rfl;have e2:gR ((y::ts).set (i+1) x') ((g::bQ).set (i+1) h')=jt (y,g)++gR (ts.set i x') (bQ.set i h'):=rfl;have a:(jt (y,g)).length=3:=rfl;rw[e1,e2,List.set_append_right _ _ O,a,show 3*(i+1)+d-3=3*i+d by omega];rw[xf (by simpa using h1) (by simpa using h2) hd e]
def nC (y:Option Lay)(a:Option AR):Hp->Rg->Prop:=λU F=>match y,a with
 | some Y,some A=>dG U F Y A (cK A Y)
 | _,_=>True
def qt (x:Option eH)(h:Option Th)(tb:List bZ)(bud:Nat):Hp->Rg->Prop:=λU F=>match x,h with
 | some x,some h=>eC U F x.c tb bud h.ls
 | _,_=>True
def pF (x:Option eH)(h:Option Th):Hp->Rg->Prop:=λU F=>match x,h with
 | some x,some h=>iw x.h h.bP U F
 | _,_=>True
def CH (H:Hw)(L:dJ):kH->Hp->Rg->Prop
 | .hd=>iq L.p (yd L H.cf)
 | .dD=>cW L.dD 3 (fZ H.tb)
 | .sp=>λU F=>dL U F L.hs H.sp
 | .fM=>cW L.fM 1 (fJ (L.ys.map (·.p)))
 | .cN=>bR L.cN 3 (gR L.ts H.bQ)
 | .live=>jE L.lm .i64 (.ag 4) H.live
 | .ar k=>nC L.ys[k]? H.bX[k]?
 | .ca t=>qt L.ts[t]? H.bQ[t]? H.tb H.cf.dA
 | .hn t=>pF L.ts[t]? H.bQ[t]?
theorem nC.loc (y:Option Lay)(a:Option AR):dM (nC y a):=by
 intro U σ' F G h hz hs;unfold nC at *;split at h
 ·exact dG.loc _ _ _ _ h hz hs
 ·trivial
theorem qt.loc (x:Option eH)(h:Option Th)(tb:List bZ)(bud:Nat):dM (qt x h tb bud):=by
 intro U σ' F G h hz hs;unfold qt at *;split at h
 ·exact eC.loc _ _ _ _ h hz hs
 ·trivial
theorem pF.loc (x:Option eH)(h:Option Th):dM (pF x h):=by
 intro U σ' F G h hz hs;unfold pF at *;split at h
 ·exact iw.loc _ _ _ _ _ _ h hz hs
 ·trivial
theorem CH.loc {H:Hw}{L:dJ}:∀i,dM (CH H L i)
 | .hd=>iq.loc _ _
 | .dD=>cW.loc _ _ _
 | .sp=>dL.loc
 | .fM=>cW.loc _ _ _
 | .cN=>bR.loc _ _ _
 | .live=>jE.loc _ _ _ _
 | .ar k=>nC.loc _ _
 | .ca t=>qt.loc _ _ _ _
 | .hn t=>pF.loc _ _
structure HS (L:dJ) (H:Hw):Prop where
 ys:L.ys.length=H.bX.length
 hs:∀Y∈L.ys,Y.hs=L.hs
 ts:L.ts.length=H.bQ.length
 a1:1<=H.bX.length
 a2:H.bX.length<=4
 t1:1<=H.bQ.length
 t2:H.bQ.length<=4
 tb:∀A∈H.bX,A.tb=H.tb
structure HH (U:Hp) (F:Rg) (L:dJ) (H:Hw):Prop where
 s:HS L H
 sep:Sep (CH H L) U F
 g:Gl U
 gd:Gd U
 o:iV F
 o2:¬F 1
variable {U:Hp}{F:Rg}{L:dJ}{H:Hw}{t k:Nat}
theorem HH.bO (h:HH U F L H){σ':Hp}(e:bK U σ'):HH σ' F L H:=⟨h.s,(Sep.loc CH.loc).bO h.sep e,h.g.bO e,h.gd.bO e,h.o,h.o2⟩
theorem HH.bS (h:HH U F L H){σ':Hp}{T:Rg}(e:Ext T U σ')(hT:∀b,b<U.size->F b->¬T b)(hg:iV T)(hg2:¬T 1):HH σ' F L H:=⟨h.s,(Sep.loc CH.loc).bS h.sep e hT,h.g.bS e hg,h.gd.bS e hg2,h.o,h.o2⟩
theorem An {U:Hp}(g:Gd U):1<U.size:=g.lt
theorem HH.mono (h:HH U F L H){G:Rg}(hs:∀b,b<U.size->F b->G b)(o:iV G)(o2:¬G 1):HH U G L H:=⟨h.s,(Sep.loc CH.loc).mono h.sep hs,h.g,h.gd,o,o2⟩
theorem HH.oG (h:HH U F L H):iV (Grow F U):=h.o.grow h.g
theorem HH.qn (h:HH U F L H):¬Grow F U 1:=λa=>by
 rcases a with a|a
 ·exact h.o2 a
 ·have:=An h.gd;omega
theorem HH.sub (h:HH U F L H){G:Rg}(hs:∀b,b<U.size->F b->G b)(hg:∀b,G b->F b\/U.size<=b):HH U G L H:=
 h.mono hs (h.oG.sub hg) λa=>h.qn (hg _ a)
theorem HH.vQ {v v':Hp}{G T:Rg}{L0:dJ}{H0:Hw}(h0:HH U F L0 H0)(h:HH v G L H)(e:Ext T v v')(hT:∀b,T b->U.size<=b)(hG:∀b,b<v.size->G b->¬T b):HH v' G L H:=
 h.bS e hG (h0.oG.sub λb a=>.inr (hT b a)) λa=>h0.qn (.inr (hT _ a))
theorem HH.grown {σ':Hp}{R:Rg}{L':dJ}{H':Hw}(h:HH U F L H)(h':HH σ' R L' H')(hr:∀b,b<σ'.size->R b->Grow F U b):HH σ' (Grow F U) L' H':=h'.mono hr h.oG h.qn
theorem HH.cut (h:HH U F L H):HH U (Cut F U) L H:=h.sub (λb a d=>⟨d,a⟩) λb a=>.inl a.1
theorem HH.lM (h:HH U F L H)(i:kH):∃G:Rg,(∀b,G b->F b)/\CH H L i U G/\(∀j,j≠i->∃D:Rg,(∀b,D b->F b)/\(∀b,D b->¬G b)/\CH H L j U D) ∧
 ∀(σ':Hp) (H':Hw) (L':dJ) (G':Rg),HS L' H'->(∀j,j≠i->CH H' L' j=CH H L j)->Ext G U σ'->(∀b,G' b->Grow G U b)->CH H' L' i σ' G' →
  Ext F U σ'/\HH σ' (λb=>F b/\b<U.size/\¬G b\/G' b) L' H':=by
 obtain⟨G,p,w,hd,m⟩:=h.sep.jQ CH.loc i;refine⟨G,p,w,hd,λσ' H' L' G' x y e s u=>?_⟩;have r:=e.sub p;have d:∀b,(F b/\b<U.size/\¬G b\/G' b)->Grow F U b:=λb a=>by
  rcases a with a|a
  ·exact .inl a.1
  ·exact(s b a).imp (p b) id
 refine⟨r,x,m σ' (CH H' L') G' y e s u (CH.loc _),h.g.bS r h.o,h.gd.bS r h.o2,λb a=>(h.o.grow h.g) b (d b a),λa=>?_⟩;rcases d _ a with h1|h1
 ·exact h.o2 h1
 ·have:=An h.gd;omega
theorem _root_.Go.Vc.Sep.r9 {L:Type}{C:L->Hp->Rg->Prop}{U:Hp}{F:Rg}(hC:∀i,dM (C i))(h:Sep C U F)(i j:L)(hij:i≠j)(N:Rg)(hN:∀b,b<U.size->F b->¬N b):∃G D:Rg,(∀b,G b->F b)/\(∀b,D b->F b)/\(∀b,G b->¬D b)/\C i U G/\C j U D/\(∀m,m≠i->m≠j->∃E:Rg,(∀b,E b->F b)/\(∀b,E b->¬(G b\/D b))/\C m U E) ∧
 ∀(σ':Hp) (C':L->Hp->Rg->Prop) (G' D':Rg),(∀k,k≠i->k≠j->C' k=C k)->Ext (λb=>G b\/D b) U σ'->(∀b,G' b->(G b\/D b)\/N b)->(∀b,D' b->(G b\/D b)\/N b)->(∀b,G' b->¬D' b)->C' i σ' G'->C' j σ' D'->(∀k,dM (C' k)) →
 Sep C' σ' λb=>F b/\b<U.size/\¬(G b\/D b)\/G' b\/D' b:=by
 obtain⟨ρ,h⟩:=h
 let G:Rg:=λb=>F b/\ρ b=i
 let D:Rg:=λb=>F b/\ρ b=j
 refine⟨G,D,λb a=>a.1,λb a=>a.1,λb x u=>hij (x.2.symm.trans u.2),h i,h j,λm x u=>⟨λb=>F b/\ρ b=m,λb a=>a.1,λb a d=>d.elim (λw=>x (a.2.symm.trans w.2)) λw=>u (a.2.symm.trans w.2),h m⟩,λσ' C' G' D' A e B H hd z J y=>?_⟩
 open Classical in
 refine⟨λb=>if G' b then i else if D' b then j else ρ b,λk=>?_⟩
 by_cases hki:k=i
 ·subst hki;exact(y _).mono z λb _ a=>⟨.inr (.inl a),zC a⟩
 by_cases hkj:k=j
 ·subst hkj;exact(y _).mono J λb _ a=>⟨.inr (.inr a),by show(if G' b then i else if D' b then k else ρ b)=k;rw[zB λd=>hd b d a,zC a]⟩
 ·rw[A k hki hkj];refine hC k _ _ _ _ (h k) e.1 λb a g=>?_;have s:¬(G b\/D b):=by
   rintro(d|d)
   ·exact hki (g.2.symm.trans d.2)
   ·exact hkj (g.2.symm.trans d.2)
  have r:¬G' b:=λd=>(B b d).elim s (hN b a g.1);have p:¬D' b:=λd=>(H b d).elim s (hN b a g.1);exact⟨⟨.inl ⟨g.1,a,s⟩,by show(if G' b then i else if D' b then j else ρ b)=k;rw[zB r,zB p];exact g.2⟩,e.2 b a s⟩
theorem HH.oc (h:HH U F L H)(i j:kH)(hij:i≠j)(N:Rg)(hN:∀b,b<U.size->F b->¬N b)(oN:iV N)(oN2:¬N 1):∃G D:Rg,(∀b,G b->F b)/\(∀b,D b->F b)/\(∀b,G b->¬D b)/\CH H L i U G/\CH H L j U D/\(∀m,m≠i->m≠j->∃E:Rg,(∀b,E b->F b)/\(∀b,E b->¬(G b\/D b))/\CH H L m U E) ∧
 ∀(σ':Hp) (H':Hw) (L':dJ) (G' D':Rg),HS L' H'->(∀m,m≠i->m≠j->CH H' L' m=CH H L m)->Ext (λb=>G b\/D b) U σ'->(∀b,G' b->(G b\/D b)\/N b)->(∀b,D' b->(G b\/D b)\/N b)->(∀b,G' b->¬D' b)->CH H' L' i σ' G'->CH H' L' j σ' D' →
  Ext F U σ'/\HH σ' (λb=>F b/\b<U.size/\¬(G b\/D b)\/G' b\/D' b) L' H':=by
 obtain⟨G,D,s,u,hd,B,J,r,d⟩:=h.sep.r9 CH.loc i j hij N hN;refine⟨G,D,s,u,hd,B,J,r,λσ' H' L' G' D' C M e z A w P K=>?_⟩;have x:Ext F U σ':=e.sub λb a=>a.elim (s b) (u b);have p:∀b,(F b/\b<U.size/\¬(G b\/D b)\/G' b\/D' b)->F b\/N b:=λb a=>by
  rcases a with a|a|a
  ·exact .inl a.1
  ·exact(z b a).imp (λy=>y.elim (s b) (u b)) id
  ·exact(A b a).imp (λy=>y.elim (s b) (u b)) id
 refine⟨x,C,d σ' (CH H' L') G' D' M e z A w P K CH.loc,h.g.bS x h.o,h.gd.bS x h.o2,λb a=>(p b a).elim (h.o b) (oN b),λa=>?_⟩;exact(p _ a).elim h.o2 oN2
theorem HH.l5 (h:HH U F L H):iV (λb=>U.size<=b)/\¬(U.size<=1):=⟨h.oG.sub λb a=>.inr a,λa=>h.qn (.inr a)⟩
theorem HH.oJ (h:HH U F L H)(i j:kH)(hij:i≠j):∃G D:Rg,(∀b,G b->F b)/\(∀b,D b->F b)/\(∀b,G b->¬D b)/\CH H L i U G/\CH H L j U D/\(∀m,m≠i->m≠j->∃E:Rg,(∀b,E b->F b)/\(∀b,E b->¬(G b\/D b))/\CH H L m U E) ∧
 ∀(σ':Hp) (H':Hw) (L':dJ) (G' D':Rg),HS L' H'->(∀m,m≠i->m≠j->CH H' L' m=CH H L m)->Ext (λb=>G b\/D b) U σ'->(∀b,G' b->(G b\/D b)\/U.size<=b)->(∀b,D' b->(G b\/D b)\/U.size<=b)->(∀b,G' b->¬D' b)->CH H' L' i σ' G'->CH H' L' j σ' D' →
  Ext F U σ'/\HH σ' (λb=>F b/\b<U.size/\¬(G b\/D b)\/G' b\/D' b) L' H':=
 h.oc i j hij _ (λb a _=>O) h.l5.1 h.l5.2
theorem HH.hd (h:HH U F L H):bY U L.p (yd L H.cf):=by obtain⟨G,b,a⟩:=h.sep.get .hd;exact a.2
theorem HH.jy (h:HH U F L H):cW L.dD 3 (fZ H.tb) U F:=by
 obtain⟨G,d,a⟩:=h.sep.get .dD;exact aH.mono a λb _ a=>d b a
theorem HH.oM (h:HH U F L H):L.dD.len=H.tb.length:=by
 have:=h.jy.1;rw[VH]at this;omega
theorem HH.mG (h:HH U F L H):cW L.fM 1 (fJ (L.ys.map (·.p))) U F:=by
 obtain⟨G,d,a⟩:=h.sep.get .fM;exact aH.mono a λb _ a=>d b a
theorem HH.mY (h:HH U F L H):L.fM.len=H.bX.length:=by
 have:=h.mG.1;have:=h.s.ys;simp[fJ]at *;omega
theorem HH.mV (h:HH U F L H):cW L.cN 3 (gR L.ts H.bQ) U F:=by
 obtain⟨G,d,a⟩:=h.sep.get .cN;exact aH.mono (bR.gF a) λb _ a=>d b a
theorem HH.lN (h:HH U F L H):L.cN.len=H.bQ.length:=by
 have:=h.mV.1;rw[HL h.s.ts]at this;omega
theorem HH.mU (h:HH U F L H):dH U L.lm .i64 (.ag 4) H.live:=by obtain⟨G,b,a⟩:=h.sep.get .live;exact a.2
theorem HH.Oe (h:HH U F L H):dL U F L.hs H.sp:=by
 obtain⟨G,d,a⟩:=h.sep.get .sp;exact dM.mono dL.loc a λb _ a=>d b a
theorem HH.ar (h:HH U F L H){A:AR}(hk:H.bX[k]?=some A):∃Y,L.ys[k]?=some Y/\Y.hs=L.hs/\dG U F Y A (cK A Y):=by
 have e:=(cV.1 hk).1;have d:L.ys[k]?=some (L.ys[k]'(by rw[h.s.ys];exact e)):=cU _;obtain⟨G,g,a⟩:=h.sep.get (.ar k);simp only[CH,hk,d,nC]at a;exact⟨_,d,h.s.hs _ (zG d),a.mono λb _ a=>g b a⟩
theorem HH.rA (h:HH U F L H){Y:Lay}(hy:L.ys[k]?=some Y){K:Option Addr->Prop}(hK:K (some ⟨Y.p,0,none⟩)):Ix L.fM.a L.fM.len (k:Int) 1 λa=>fW a U K:=
 Cc h.mG (by simp[hy]) hK
theorem HH.th (h:HH U F L H)(ht:t<H.bQ.length):∃x g,L.ts[t]?=some x/\H.bQ[t]?=some g:=⟨L.ts[t]'(by rw[h.s.ts];exact ht),H.bQ[t],cU _,cU _⟩
theorem GX {s:Sl}{ts:List eH}{bQ:List Th}(h:cW s 3 (gR ts bQ) U F){x:eH}{g:Th}(hx:ts[t]?=some x)(hg:bQ[t]?=some g){d:Nat}(hd:d<3){v:Value}(hv:(jt (x,g))[d]?=some v):∃b o,s.a=some ⟨b,o,none⟩/\cell U ⟨b,o+(3*t+d),none⟩=some v:=
 h.cell ((BU hx hg hd).trans hv)
theorem AO {s:Sl}{ts:List eH}{bQ:List Th}(hs:cW s 3 (gR ts bQ) U F)(hl:ts.length=bQ.length){x:eH}{g:Th}(hx:ts[t]?=some x)(hg:bQ[t]?=some g){d:Nat}(hd:d<3){v:Value}(hv:(jt (x,g))[d]?=some v){K:Addr->Prop}
 (hK:∀b o,s.a=some ⟨b,o,none⟩->cell U (Addr.add ⟨b,o+3*t,none⟩ d)=some v->K ⟨b,o+3*t,none⟩):Ix s.a s.len (t:Int) 3 K:=by
 have m:=(cV.1 hg).1;have e:=hs.1;rw[HL hl]at e;obtain⟨b,o,i,j⟩:=GX hs hx hg hd hv;rw[i];refine ix O O ?_;rw[add_lit,show o+(t:Int).toNat*3=o+3*t by omega];exact hK b o i (by rw[add_lit,show o+3*t+d=o+(3*t+d) by omega];exact j)
theorem HH.Df (h:HH U F L H){x:eH}{g:Th}(hx:L.ts[t]?=some x)(hg:H.bQ[t]?=some g){d:Nat}(hd:d<3){v:Value}(hv:(jt (x,g))[d]?=some v){K:Addr->Prop}
 (hK:∀b o,cell U (Addr.add ⟨b,o+3*t,none⟩ d)=some v->K ⟨b,o+3*t,none⟩):Ix L.cN.a L.cN.len (t:Int) 3 K:=
 AO h.mV h.s.ts hx hg hd hv λb o _ e=>hK b o e
theorem HH.tS (h:HH U F L H){x:eH}{g:Th}(hx:L.ts[t]?=some x)(hg:H.bQ[t]?=some g){K:Sl->Prop}(hK:K x.h):Ix L.cN.a L.cN.len (t:Int) 3 λa=>jj (a.add 1) U K:=
 h.Df hx hg (d:=1) O rfl λb o e=>nF e hK
theorem HH.tR (h:HH U F L H){x:eH}{g:Th}(hx:L.ts[t]?=some x)(hg:H.bQ[t]?=some g){K:Value->Prop}(hK:K (mP g.ph)):Ix L.cN.a L.cN.len (t:Int) 3 λa=>wZ (a.add 2) U K:=
 h.Df hx hg (d:=2) O rfl λb o e=>⟨_,e,hK⟩
theorem HS.dV (h:HS L H){bQ:List Th}{ts:List eH}(e:ts.length=bQ.length)(e2:bQ.length=H.bQ.length):HS {L with ts:=ts} {H with bQ:=bQ}:=⟨h.ys,h.hs,e,h.a1,h.a2,by rw[e2];exact h.t1,by rw[e2];exact h.t2,h.tb⟩
theorem HS.cC (h:HS L H){A:AR}{sp:Sp}(e:A.tb=H.tb):HS L {H.cC k A with sp:=sp}:=⟨by simp[Hw.cC,h.ys],h.hs,h.ts,by simp[Hw.cC,h.a1],by simp[Hw.cC,h.a2],h.t1,h.t2,λB a=>by
 rcases yu a with h1|h1
 ·exact h.tb B h1
 ·subst h1;exact e⟩
theorem EA {A:AR}:∀j,j≠kH.ar k->CH (H.cC k A) L j=CH H L j:=by
 intro j hj;cases j<;>try rfl
 rename_i m;have a:m≠k:=λe=>hj (by rw[e]);simp only[CH,Hw.cC,zk (Ne.symm a)]
theorem FX {sp:Sp}:∀j,j≠kH.sp->CH {H with sp:=sp} L j=CH H L j:=by
 intro j hj;cases j<;>first|rfl|exact absurd rfl hj
theorem Jl {l:List (Int×Bk)}:∀j,j≠kH.live->CH {H with live:=l} L j=CH H L j:=by
 intro j hj;cases j<;>first|rfl|exact absurd rfl hj
theorem HH.vN (h:HH U F L H){A:AR}(hk:H.bX[k]?=some A):∃(Y:Lay) (G:Rg),L.ys[k]?=some Y/\Y.hs=L.hs/\(∀b,G b->F b)/\dG U G Y A (cK A Y)/\∀(σ':Hp) (A':AR) (G':Rg),A'.tb=A.tb->Ext G U σ'->(∀b,G' b->Grow G U b)->dG σ' G' Y A' (cK A' Y) →
 Ext F U σ'/\HH σ' (λb=>F b/\b<U.size/\¬G b\/G' b) L (H.cC k A'):=by
 have g:=(cV.1 hk).1;have d:L.ys[k]?=some (L.ys[k]'(by rw[h.s.ys];exact g)):=cU _;generalize (L.ys[k]'(by rw[h.s.ys];exact g))=Y at d;obtain⟨G,m,j,_,a⟩:=h.lM (.ar k);simp only[CH,hk,d,nC]at j;refine⟨Y,G,d,h.s.hs _ (zG d),m,j,λσ' A' G' i e p r=>?_⟩;refine a σ' (H.cC k A') L G' (h.s.cC (sp:=H.sp) (i.trans (h.s.tb A (zG hk)))) EA e p ?_;simp only[CH,Hw.cC,d,zM g,nC];exact r
theorem HH.oe (h:HH U F L H){A:AR}(hk:H.bX[k]?=some A):∃(Y:Lay) (G D:Rg),L.ys[k]?=some Y/\Y.hs=L.hs/\W2 U G D Y A (cK A Y) H.sp/\∀(σ':Hp) (A':AR) (sp':Sp) (G' D':Rg),A'.tb=A.tb->Ext (iP G D) U σ'->Fits U G D G' D'->W2 σ' G' D' Y A' (cK A' Y) sp' →
 Ext F U σ'/\HH σ' (Grow F U) L {H.cC k A' with sp:=sp'}:=by
 have J:=(cV.1 hk).1;have i:L.ys[k]?=some (L.ys[k]'(by rw[h.s.ys];exact J)):=cU _;generalize (L.ys[k]'(by rw[h.s.ys];exact J))=Y at i;obtain⟨G,D,E,B,hd,M,y,_,r⟩:=h.oJ (.ar k) .sp (by intro e;cases e);simp only[CH,hk,i,nC]at M;have y:dL U D L.hs H.sp:=y;have j:=h.s.hs _ (zG i);refine⟨Y,G,D,i,j,⟨M,by rw[j];exact y,hd,h.g,h.o.sub E,h.o.sub B⟩,λσ' A' sp' G' D' K e N C=>?_⟩;have u:∀b,G' b->(G b\/D b)\/U.size<=b:=λb x=>(N.1 b x).imp .inl id;have w:∀b,D' b->(G b\/D b)\/U.size<=b:=λb x=>.inl (.inr (N.2 b x));have R:∀m,m≠kH.ar k->m≠kH.sp->CH {H.cC k A' with sp:=sp'} L m=CH H L m:=λm z Q=>
  (EA (H:={H with sp:=sp'}) (L:=L) (A:=A') m z).trans (FX m Q)
 have P:CH {H.cC k A' with sp:=sp'} L (.ar k) σ' G':=by
  simp only[CH,Hw.cC,i,zM J,nC];exact C.a
 have S:CH {H.cC k A' with sp:=sp'} L .sp σ' D':=by
  show dL σ' D' L.hs sp';rw[←j];exact C.s
 obtain⟨e1,z⟩:=r σ' {H.cC k A' with sp:=sp'} L G' D' (h.s.cC (K.trans (h.s.tb A (zG hk)))) R e u w C.d P S;refine⟨e1,h.grown z λb x p=>?_⟩;rcases p with p|p|p
 ·exact .inl p.1
 ·exact(u b p).imp (λi=>i.elim (E b) (B b)) id
 ·exact(w b p).imp (λi=>i.elim (E b) (B b)) id
theorem HH.uW (h:HH U F L H):∃G:Rg,(∀b,G b->F b)/\dL U G L.hs H.sp/\iV G/\∀(σ':Hp) (sp':Sp),Ext G U σ'->dL σ' (Grow G U) L.hs sp'->Ext F U σ'/\HH σ' (Grow F U) L {H with sp:=sp'}:=by
 obtain⟨G,g,m,_,d⟩:=h.lM .sp;refine⟨G,g,m,h.o.sub g,λσ' sp' e hs=>?_⟩;obtain⟨e1,j⟩:=d σ' {H with sp:=sp'} L (Grow G U) ⟨h.s.ys,h.s.hs,h.s.ts,h.s.a1,h.s.a2,h.s.t1,h.s.t2,h.s.tb⟩ FX e (λb i=>i) hs;exact⟨e1,h.grown j λb i a=>by
  rcases a with a|a
  ·exact .inl a.1
  ·exact a.imp (g b) id⟩
theorem HH.rJ (h:HH U F L H):F L.lm/\∀(σ':Hp) (l:List (Int×Bk)),Qo U σ' L.lm->dH σ' L.lm .i64 (.ag 4) l->Ext F U σ'/\HH σ' F L {H with live:=l}:=by
 obtain⟨G,i,d,_,e⟩:=h.lM .live;have d:jE L.lm .i64 (.ag 4) H.live U G:=d;refine⟨i _ d.1,λσ' l m p=>?_⟩;obtain⟨e1,j⟩:=e σ' {H with live:=l} L G ⟨h.s.ys,h.s.hs,h.s.ts,h.s.a1,h.s.a2,h.s.t1,h.s.t2,h.s.tb⟩ Jl (m.ext.sub λb g=>by rw[g];exact d.1) (λb g=>.inl g) ⟨d.1,p⟩;exact⟨e1,j.mono (λb _ a=>by
  rcases a with a|a
  ·exact a.1
  ·exact i b a) h.o h.o2⟩
theorem HH.oH (h:HH U F L H){x:eH}{g:Th}(hx:L.ts[t]?=some x)(hg:H.bQ[t]?=some g):∃G:Rg,(∀b,G b->F b)/\eC U G x.c H.tb H.cf.dA g.ls/\∀(σ':Hp) (ls:List Li) (Y':gS) (G':Rg),Y'.p=x.c.p->Ext G U σ'->(∀b,G' b->Grow G U b)->eC σ' G' Y' H.tb H.cf.dA ls →
 Ext F U σ'/\HH σ' (λb=>F b/\b<U.size/\¬G b\/G' b) {L with ts:=L.ts.set t {x with c:=Y'}} {H with bQ:=H.bQ.set t {g with ls:=ls}}:=by
 have i:=(cV.1 hx).1;have r:=(cV.1 hg).1;obtain⟨G,A,z,_,a⟩:=h.lM (.ca t);simp only[CH,hx,hg,qt]at z;refine⟨G,A,z,λσ' ls Y' G' B e y D=>?_⟩;have w:gR (L.ts.set t {x with c:=Y'}) (H.bQ.set t {g with ls:=ls})=gR L.ts H.bQ:=by
  have E:(gR L.ts H.bQ).set (3*t+0) (.pointer (some ⟨x.c.p,0,none⟩))=gR L.ts H.bQ:=Z8 (BU hx hg O);rw[←E];exact(xf hx hg (d:=0) O (by simp[jt,B])).symm
 refine a σ' {H with bQ:=H.bQ.set t {g with ls:=ls}} {L with ts:=L.ts.set t {x with c:=Y'}} G' (h.s.dV (by simp[h.s.ts]) aA) (λj C=>?_) e y ?_
 ·cases j<;>try rfl
  ·simp only[CH,w]
  ·rename_i m;have u:m≠t:=λe=>C (by rw[e]);simp only[CH,zk (Ne.symm u)]
  ·rename_i m;by_cases u:m=t
   ·subst u;simp only[CH,zM i,zM r,hx,hg];rfl
   ·simp only[CH,zk (Ne.symm u)]
 ·simp only[CH,zM i,zM r,qt];exact D
theorem HH.qQ (h:HH U F L H){x:eH}{g:Th}(hx:L.ts[t]?=some x)(hg:H.bQ[t]?=some g)(N:Rg)(hN:∀b,b<U.size->F b->¬N b)(oN:iV N)(oN2:¬N 1):∃G D:Rg,(∀b,G b->F b)/\(∀b,D b->F b)/\(∀b,G b->¬D b)/\iw x.h g.bP U G/\bR L.cN 3 (gR L.ts H.bQ) U D/\(∃E:Rg,(∀b,E b->¬G b)/\(∀b,E b->¬D b)/\iq L.p (yd L H.cf) U E) ∧
 ∀(σ':Hp) (s:Sl) (bs:List Bt) (G' D':Rg),Ext (λb=>G b\/D b) U σ'->(∀b,G' b->(G b\/D b)\/N b)->(∀b,D' b->(G b\/D b)\/N b)->(∀b,G' b->¬D' b)->iw s bs σ' G'->bR L.cN 3 ((gR L.ts H.bQ).set (3*t+1) (.slice s.a s.len s.cap)) σ' D' →
  Ext F U σ'/\HH σ' (λb=>F b/\b<U.size/\¬(G b\/D b)\/G' b\/D' b) {L with ts:=L.ts.set t {x with h:=s}} {H with bQ:=H.bQ.set t {g with bP:=bs}}:=by
 have j:=(cV.1 hx).1;have r:=(cV.1 hg).1;obtain⟨G,D,W,S,hd,M,B,u,i⟩:=h.oc (.hn t) .cN (by intro e;cases e) N hN oN oN2;simp only[CH,hx,hg,pF]at M;have B:bR L.cN 3 (gR L.ts H.bQ) U D:=B;obtain⟨E,_,P,C⟩:=u .hd (by intro e;cases e) (by intro e;cases e);refine⟨G,D,W,S,hd,M,B,⟨E,λb A hx=>P b A (.inl hx),λb A hx=>P b A (.inr hx),C⟩,λσ' s bs G' D' e y K J X V=>?_⟩;have z:gR (L.ts.set t {x with h:=s}) (H.bQ.set t {g with bP:=bs})=(gR L.ts H.bQ).set (3*t+1) (.slice s.a s.len s.cap):=(xf hx hg (d:=1) O (by simp[jt])).symm;refine i σ' {H with bQ:=H.bQ.set t {g with bP:=bs}} {L with ts:=L.ts.set t {x with h:=s}} G' D' (h.s.dV (by simp[h.s.ts]) aA) (λm R Q=>?_) e y K J ?_ ?_
 ·cases m<;>first|rfl|exact absurd rfl Q|skip
  ·rename_i m;by_cases w:m=t
   ·subst w;simp only[CH,zM j,zM r,hx,hg];rfl
   ·simp only[CH,zk (Ne.symm w)]
  ·rename_i m;have w:m≠t:=λe=>R (by rw[e]);simp only[CH,zk (Ne.symm w)]
 ·simp only[CH,zM j,zM r,pF];exact X
 ·simp only[CH,z];exact V
theorem HH.rr (h:HH U F L H){x:eH}{g:Th}(hx:L.ts[t]?=some x)(hg:H.bQ[t]?=some g)(p:Option Ph){K:aP}(hK:∀σ',Ext F U σ'->HH σ' F L {H with bQ:=H.bQ.set t {g with ph:=p}}->K σ') :
 Ix L.cN.a L.cN.len (t:Int) 3 λa=>And (iX (mP p)) (dS (a.add 2) (mP p) U K):=by
 have E:=(cV.1 hx).1;have r:=(cV.1 hg).1;have A:=h.lN;obtain⟨G,B,w,_,i⟩:=h.lM .cN;have w:bR L.cN 3 (gR L.ts H.bQ) U G:=w;have D:=HL h.s.ts;obtain⟨b,y⟩:∃b,L.cN.a=some ⟨b,0,none⟩:=by
  rcases w.2 with⟨h0,_⟩|⟨b,_,_,ha,_⟩
  ·omega
  ·exact⟨b,ha⟩
 rw[y];refine ix O O ⟨uz p,?_⟩;refine w.st (j:=3*t+2) O (λN u=>by rw[y]at u;cases u;rw[add_lit,add_lit];congr 1;omega) λσ' e M=>?_;have z:gR L.ts (H.bQ.set t {g with ph:=p})=(gR L.ts H.bQ).set (3*t+2) (mP p):=by
  have:=xf hx hg (d:=2) (v:=mP p) (x':=x) (h':={g with ph:=p}) O (by simp[jt]);rw[this,Z8 hx]
 obtain⟨e1,J⟩:=i σ' {H with bQ:=H.bQ.set t {g with ph:=p}} L G (h.s.dV (ts:=L.ts) (by simp[h.s.ts]) aA) (λj C=>by
  cases j<;>first|rfl|exact absurd rfl C|skip
  ·rename_i m;by_cases hm:t=m
   ·subst hm;simp only[CH,zM r,hx,hg];rfl
   ·simp only[CH,zk hm]
  ·rename_i m;by_cases hm:t=m
   ·subst hm;simp only[CH,zM r,hx,hg];rfl
   ·simp only[CH,zk hm]) e (λb y=>.inl y) (by simp only[CH,z];exact M)
 exact hK σ' e1 (J.mono (λb _ hx=>by
  rcases hx with hx|hx
  ·exact hx.1
  ·exact B b hx) h.o h.o2)
end Go.Ar
namespace Go.Ar
open Go Go.Vc Go.Proofs
open Go.Bu (Zc Qx Y9)
variable {U:Hp}{F H:Rg}{p hs:Nat}{A:AR}{sp:Sp}{Y:Lay}{T:Nat->Hp->Rg->Prop}
end Go.Ar
namespace Go.Ar
open Go Go.Vc Go.Proofs
variable {U:Hp}{F:Rg}{L:dJ}{H:Hw}{t k:Nat}
theorem Un (h:HH U F L H){R:aO}(hR:R true U):Xr.c (aW L.p) U R:=by
 refine Xr.o ?_;unfold Xr.v;have a:=h.lN;have b:=h.s.t1;refine bV.intro (cE rfl (aG (h.hd.rS rfl ?_)));rw[zJ aC];exact hR
theorem GY (h:HH U F L H)(x:Int){R:aO}(hR:R (decide (0<=x/\x<(H.bQ.length:Int))) U):XP.c (aW L.p) x U R:=by
 refine XP.o ?_;unfold XP.v;have a:=h.lN;refine bV.intro (cQ (λb=>aG (h.hd.rS rfl ?_)) λb=>?_)
 ·have:decide (x<((L.cN.len:Nat):Int))=decide (0<=x/\x<(H.bQ.length:Int)):=by rw[decide_eq_decide,a];omega
  simp only[this];exact hR
 ·rw[zK O]at hR;exact hR
theorem D3 (h:HH U F L H)(t:Nat){R:aN}(hR:R ((H.own t:Nat):Int) U):Zp.c (aW L.p) (t:Int) U R:=by
 refine Zp.o ?_;unfold Zp.v;have a:=h.mY;have b:=h.s.a1;refine aG (h.hd.rS rfl (nz aC ?_));have:((t:Int).tmod ((L.fM.len:Nat):Int))=((H.own t:Nat):Int):=by rw[Qp O,a];unfold Hw.own;omega
 simp only[this];exact hR
theorem G6 (h:HH U F L H)(x:Int)(hx9:x<=9223372036854775807){R:aN}(hR:∀σ',bK U σ'->R (XN H.bX x) σ'):X7.c (aW L.p) x U R:=by
 refine X7.o ?_;unfold X7.v;refine nw (cs:=[.int .i64 x]) λv hz e P=>P.uv rfl ?_;have Q:=h.bO e;by_cases hx:x<0
 ·have:=hR v e;unfold XN at this;rw[zC hx]at this;exact lT hx this
 refine fR hx (aG (Q.hd.rS rfl ?_));have hl:=h.mY;have W:=h.s.a2;refine Wk.o ?_;unfold Wk.v;refine ZX (a:=bN) (λ(z:Int) w=>∃i:Nat,z=(i:Int)/\i<=H.bX.length/\bK U w/\HH w F L H/\bY w U.size [.int .i64 x]/\∀j A,j<i->H.bX[j]?=some A->GZ A (x/256)=false) (λz _=>H.bX.length-z.toNat) ⟨0,rfl,O,e,Q,P,λj A g=>O⟩ ?_;rintro z w ⟨i,rfl,hi,G,y,r,b⟩;refine cQ (λN=>?_) λC=>?_
 ·simp only at N;have D:i<H.bX.length:=by omega
  have d:H.bX[i]?=some H.bX[i]:=cU D;generalize H.bX[i]=A at d;obtain⟨Y,X,S,E⟩:=y.ar d;refine y.rA X (py (all := #[.pointer (some ⟨Y.p,0,none⟩),.pointer (some ⟨U.size,0,none⟩)]) (by kernel_rfl) aA ?_);refine YS.o ?_;unfold YS.v;refine r.uv rfl (nz aB (ar (by rw[XO O];omega) (by rw[XO O];omega) ?_));rw[XO O];refine ME E (x/256) (cO (λV=>?_) λZ=>?_)
  ·have:XN H.bX x=(i:Int):=by
    unfold XN;rw[zB hx];have:H.bX.findIdx? (λA=>GZ A (x/256))=some i:=by
     obtain⟨J,rfl⟩:=cV.1 d;exact m7.2 ⟨J,V,λj g=>by rw[b j _ g (cU O)];simp⟩
    rw[this]
   have u:=hR w G;rw[this]at u;exact u
  ·exact cP (m:=i+1) O O ⟨⟨i+1,rfl,O,G,y,r,λj B g M=>by
    by_cases e:j=i
    ·subst e;rw[d]at M;cases M;exact Z
    ·exact b j B O M⟩,O⟩
 ·have K:i=H.bX.length:=by simp only at C;omega
  subst K;have:XN H.bX x = -1:=by
   unfold XN;rw[zB hx];have:H.bX.findIdx? (λA=>GZ A (x/256))=none:=by
    rw[uK];intro A d;obtain⟨j,g⟩:=zQ d;exact b j A (cV.1 g).1 g
   rw[this]
  have u:=hR w G;rw[this]at u;exact u
theorem C3 (h:HH U F L H){R:Int->Int->Int->Int->Int->Hp->Prop}(hR:∀σ',bK U σ'->R (H.cf.aF:Int) (H.cf.gY:Int) (H.cf.threads:Int) (H.cf.dA:Int) (H.cf.room:Int) σ'):XZ.c (aW L.p) U R:=by
 refine XZ.o ?_;unfold XZ.v;refine nw (cs:=[.int .i64 0,.int .i64 0,.int .i64 0,.int .i64 0,.int .i64 0]) λv r e d=>Un (h.bO e) (cB rfl ?_);have hd:=(h.bO e).hd;refine aG (hd.eZ rfl (hd.eZ rfl (hd.eZ rfl (hd.eZ rfl (hd.eZ rfl ?_)))));refine d.s1 aA λm o1 b=>b.s1 aA λu o2 g=>g.s1 aA λv3 o3 j=>j.s1 aA λs o4 b4=>b4.s1 aA λi o5 a=>?_;refine a.rI rfl (a.rI rfl (a.rI rfl (a.rI rfl (a.rI rfl (hR i ?_)))));exact((((e.only o1 (.inr (zD _))).only o2 (.inr (zD _))).only o3 (.inr (zD _))).only o4 (.inr (zD _))).only o5 (.inr (zD _))
theorem Fy (h:HH U F L H){R:Option Addr->Hp->Prop}(hR:R (some ⟨L.hs,0,none⟩) U):Yv.c (aW L.p) U R:=by
 refine Yv.o ?_;unfold Yv.v;exact Un h (cB rfl (aG (h.hd.rP rfl hR)))
theorem Rb (h:HH U F L H)(x:Int)(hx:x<=9223372036854775807){R:Int->Int->Hp->Prop}(hR:∀σ',bK U σ'->R (if eR H.sp x=0 then H.sp.wd (x.toNat/8)else 0) (eR H.sp x) σ'):YC.c (aW L.p) x U R:=by
 refine YC.o ?_;unfold YC.v;exact Fy h (Rp h.Oe h.g x hx hR)
theorem N6 (h:HH U F L H)(gc:Gc U)(x v:Int)(hx:x<=9223372036854775807){R:aN}(hR:∀σ',Ext F U σ'->HH σ' (Grow F U) L {H with sp:=ZV H.sp x v}->R (eR H.sp x) σ'):W8.c (aW L.p) x v U R:=by
 refine W8.o ?_;unfold W8.v;obtain⟨G,m,j,d,a⟩:=h.uW;refine Fy h (IX j h.g gc x hx v λσ' e b=>?_);obtain⟨e1,i⟩:=a σ' _ e b;exact hR σ' e1 i
theorem IE (h:HH U F L H)(x:Int){R:Int->Int->Hp->Prop}(hR:∀σ',bK U σ'->R ((bW H.live x).elim 0 λb=>b.2.1) (if(bW H.live x).isSome then 0 else 8) σ'):Xf.c (aW L.p) x U R:=by
 refine Xf.o ?_;unfold Xf.v;refine Un h (cB rfl (aG (h.hd.rM rfl ⟨_,h.mU,?_⟩)));refine nw (cs:=[.int .i64 0,.int .i64 0,.int .i64 0,.int .i64 0]) λv u e g=>?_;refine g.s1 aA λs o1 j=>j.s1 aA λw o2 i=>i.s1 aA λv3 o3 m=>m.s1 aA λv4 o4 b4=>?_;have d:bK U v4:=(((e.only o1 (.inr (zD _))).only o2 (.inr (zD _))).only o3 (.inr (zD _))).only o4 (.inr (zD _));have a:=hR v4 d;cases hm:bW H.live x with
 | none=>
  rw[hm]at a;exact cE rfl a
 | some b=>
  rw[hm]at a;refine cB rfl (b4.rI rfl ?_);have r:((bW H.live x).getD ((0,0,0,0):Bk)).2.1=b.2.1:=by rw[hm];rfl
  rw[r];exact a
theorem VF (h:HH U F L H)(ht:t<H.bQ.length){R:Value->Hp->Prop}(hR:R (mP (jX H t)) U):WU.c (aW L.p) (t:Int) U R:=by
 refine WU.o ?_;unfold WU.v;obtain⟨x,g,b,a⟩:=h.th ht;refine aG (h.hd.rS rfl (h.tS b a ?_));obtain⟨G,i,d⟩:=h.sep.get (.hn t);simp only[CH,b,a,pF]at d;have e:=d.len;unfold jX at hR;rw[a]at hR;simp only at hR;by_cases h0:g.bP=[]
 ·rw[zC h0]at hR;exact cE (by rw[e,h0];rfl) hR
 ·rw[zB h0]at hR;have:=pC.2 h0;exact cB (by simp only[ma];omega) hR
theorem Ba (h:HH U F L H)(x size cls:Int)(hx9:x<=9223372036854775807){R:Value->Int->Int->Hp->Prop}(hR:∀σ',Ext F U σ'->HH σ' F L (Vp H x size cls)->R .nilIface x 0 σ'):Yz.c (aW L.p) x size cls U R:=by
 refine Yz.o ?_;unfold Yz.v;refine nw (cs:=[.int .i64 0,.int .i64 0]) λv E e a=>?_;have g:=h.cut.bO e;refine⟨λu=>bK v u,Ext.refl _ _,aG ⟨some L.lm,λu y=>by rw[add_lit,((g.bO y).hd).cell];rfl,?_⟩⟩;refine G6 g x hx9 λC e1=>⟨e1,?_⟩;have s:=g.bO e1;obtain⟨w,d⟩:=s.rJ;refine⟨L.lm,_,rfl,s.mU,λr o2 m=>?_⟩;obtain⟨e2,z⟩:=d r _ o2 m;have j:bY r U.size [.int .i64 0,.int .i64 0]:=Ws o2 (e1.bT a id) (by have:=w.2;omega);refine j.s1 aA λv3 o3 B=>B.s1 aA λv4 o4 b4=>b4.rI rfl (b4.rI rfl (hR v4 ?_ ?_))
 ·exact(((bK.to (e.trans e1)).trans (e2.sub λb a=>a.1)).only o3 (.inr (zD _))).only o4 (.inr (zD _))
 ·have i:Ext (· = U.size) r v4:=o3.ext.trans o4.ext;have A:=h.vQ z i (λb a=>O) (λb _ a D=>by have:=a.2;omega);exact A.mono (λb _ a=>a.1) h.o h.o2
theorem Gb (h:HH U F L H)(ht:t<H.bQ.length)(k:Nat){s:Sl}{xs:List Int}{X:Rg}(hs:cW s 1 (Wo xs) U X)(hc:s.len<=s.cap)(hxs:xs≠[])(hX:∀b,b<U.size->X b->¬F b)(oX:iV X)(oX2:¬X 1)(hlen:∀g,H.bQ[t]?=some g->g.bP.length<=1000){R:aP}
 (hR:∀σ' ts',Ext F U σ'->HH σ' (λb=>Grow F U b\/X b) {L with ts:=ts'} (QD H t k xs)->R σ'):Ye.c (aW L.p) (t:Int) (k:Int) s U R:=by
 refine Ye.o ?_;unfold Ye.v;obtain⟨x,g,r,hg⟩:=h.th ht;have htl:=HL h.s.ts;have hrl:=h.lN;have hlen:=hlen g hg;obtain⟨G,D,hG,hD,hd,hB,hr,⟨E,hE1,hE2,hhd⟩,Q⟩:=h.cut.qQ r hg (λb=>U.size<=b\/b<U.size/\X b) (λb m hf hn=>by
  rcases hn with hn|hn
  ·omega
  ·exact hX b m hn.2 hf.1) (λb m=>m.elim (h.l5.1 b) λm=>oX b m.2) (λm=>m.elim h.l5.2 λm=>oX2 m.2)
 obtain⟨Z,Dn,A,M,N,hj,V⟩:=hB;have B:∀u,Ext G U u->bY u L.p (yd L H.cf):=λu z=>((iq.loc _ _).bS hhd z λb _ m r=>hE1 b m r).2;have hr':∀u,Ext G U u->bR L.cN 3 (gR L.ts H.bQ) u D:=λu z=>aI.bS hr z λb _ m r=>hd b r m;refine⟨λu=>Ext G U u,Ext.refl _ _,aG ⟨L.cN,λu z=>by rw[add_lit,(B u z).cell];rfl,aG ⟨L.cN,λu z=>by rw[add_lit,(B u z).cell];rfl,?_⟩⟩⟩;refine AO (bR.gF hr) h.s.ts r hg (d:=1) O rfl λb o ha _=>⟨x.h,λu z=>?_,?_⟩
 ·obtain⟨b',o',P,hc'⟩:=GX (bR.gF (hr' u z)) r hg (d:=1) O rfl;rw[ha]at P;cases P;rw[add_lit,show o+3*t+1=o+(3*t+1) by omega];exact hc'
 refine nw (cs:=[.int .i64 (k:Int),.slice s.a s.len s.cap]) λv hz e m=>⟨bK.to e,?_⟩;have C:=(dI.loc _ _ _).bO ((dI.loc _ _ _).cut A) e;have S:=(ku.loc _ _).bO ((ku.loc _ _).cut M) e;have hs1:=aH.bO (aH.cut hs) e;have hpl:x.h.len=Z.length:=by have:=A.1;rw[Kx]at this;omega
 have hpg:Z.length=g.bP.length:=M.1;refine C.app (ys:=nS (k,s)) rfl rfl ?_ (λv hv=>UU (l:=[(k,s)]) v (by simpa[fD]using hv)) ?_ ?_ mN λs' v2 hl2 e2 hr2=>?_
 ·intro j u z;rw[add_lit,zH,m.cell];exact z
 ·simp only;have:(x.h.len+1)*32<=1001*32:=lW O O;omega
 ·simp only;omega
 have hs2:=e2.1;have eG:Ext G U v2:=(bK.to e).trans (e2.sub λb m=>m.1.1);refine⟨eG,?_⟩;obtain⟨b0,Y⟩:∃b,L.cN.a=some ⟨b,0,none⟩:=by
  rcases hr.2 with⟨h0,_⟩|⟨b,_,_,ha,_⟩
  ·omega
  ·exact⟨b,ha⟩
 rw[Y];refine ix O O ?_;refine(hr' v2 eG).st (j:=3*t+1) O (λb' hb'=>by rw[Y]at hb';cases hb';rw[add_lit,add_lit];congr 1;omega) λσ' W hr3=>?_;have hs3:=W.1;have e03:Ext (λb=>G b\/D b) U σ':=(eG.sub λb m=>.inl m).trans (W.sub λb m=>.inr m);have hr4:=(dI.loc _ _ _).bS ((dI.loc _ _ _).cut hr2) W λb _ m r=>by
  rcases m.1 with h1|h1
  ·exact hd b h1.1.1 r
  ·have:=(hD b r).2;omega
 have hB4:=(ku.loc _ _).bS ((ku.loc _ _).bS S e2 λb _ m r=>r.1.2 m.1) W λb _ m r=>hd b (N b m.1) r;have hs4:=aH.bS (aH.bS hs1 e2 λb m r w=>hX b r.2 r.1 (hG b w.1.1).1) W λb _ r w=>hX b r.2 r.1 (hD b w).1;have hBt:iw s' (g.bP++[(k,xs)]) σ' (λb=>G b/\b<U.size\/b<U.size/\X b\/v.size<=b/\b<v2.size):=by
  refine⟨Z++[(k,s)],λb=>Dn b/\b<U.size\/b<U.size/\X b,?_,⟨by simp[hpg],λi p y K w=>?_⟩,λb m=>?_,hj.snoc M V hs hxs (λb m r w=>hX b m w (hG b (N b r)).1) k,λy w=>?_⟩
  ·rw[UN];have:fD [(k,s)]=nS (k,s):=by simp[fD]
   rw[this];refine(dI.loc _ _ _).mono hr4 λq _ J=>?_;rcases J.1 with h1|h1
   ·exact⟨.inl ⟨h1.1.1,h1.2⟩,λr=>by
     rcases r with r|r
     ·exact h1.1.2 r.1
     ·exact hX q r.1 r.2 (hG q h1.1.1).1⟩
   ·exact⟨.inr (.inr ⟨h1,J.2⟩),λr=>by
     rcases r with r|r<;>omega⟩
  ·rcases kc i Z.length with hi|hi
   ·rw[ze hi]at K;rw[ze O]at w;obtain⟨a1,a2,a3⟩:=hB4.2 i p y K w;exact⟨a1,aH.mono a2 λq _ J=>.inl J,a3⟩
   ·rw[zp hi]at K;rw[zp O]at w;have hi0:i-Z.length=0:=by
     have:=(cV.1 K).1;simp at this;omega
    rw[hi0]at K;rw[show i-g.bP.length=0 by omega]at w;simp at K w;subst K;subst w;exact⟨rfl,aH.mono hs4 λq _ J=>.inr ⟨J.2,J.1⟩,hc⟩
  ·rcases m with m|m
   ·exact .inl ⟨N b m.1,m.2⟩
   ·exact .inr (.inl m)
  ·rcases zL.1 w with h1|h1
   ·exact V y h1
   ·rw[zN]at h1;subst h1;exact hxs
 obtain⟨eF,h4⟩:=Q σ' s' (g.bP++[(k,xs)]) (λb=>G b/\b<U.size\/b<U.size/\X b\/v.size<=b/\b<v2.size) D e03 (λb m=>by
  rcases m with m|m|m
  ·exact .inl (.inl m.1)
  ·exact .inr (.inr m)
  ·exact .inr (.inl O)) (λb m=>.inl (.inr m)) (λb m r=>by
  have:=(hD b r).2;rcases m with m|m|m
  ·exact hd b m.1 r
  ·exact hX b m.1 m.2 (hD b r).1
  ·omega) hBt hr3
 refine hR σ' (L.ts.set t {x with h:=s'}) (eF.sub λb m=>m.1) ?_;have e5:QD H t k xs = {H with bQ:=H.bQ.set t {g with bP:=g.bP++[(k,xs)]}}:=by
  unfold QD Hw.dV
  congr 1
  exact KK hg
 rw[e5];refine h4.mono (λb _ m=>?_) (λb (m:Grow F U b\/X b)=>m.elim (h.oG b) (oX b)) λ(m:Grow F U _\/X _)=>m.elim h.qn oX2;rcases m with m | (m|m|m)|m
 ·exact .inl (.inl m.1.1)
 ·exact .inl (.inl (hG b m.1).1)
 ·exact .inr m.2
 ·exact .inl (.inr O)
 ·exact .inl (.inl (hD b m).1)
end Go.Ar
namespace Go.Ar
open Go Go.Vc Go.Proofs
variable {U u u':Hp}{F B P:Rg}{L:dJ}{H H':Hw}{t k n:Nat}{A:AR}{Y:Lay}{x:eH}{g:Th}{c:bZ}{l:Li}{cs:List Value}
structure HK (F:Rg) (U:Hp) (B:Rg) (u:Hp) (P:Rg) (L:dJ) (H:Hw):Prop where
 h:HH u P L H
 e:Ext F U u
 p:∀b,P b->(F b/\b<U.size\/U.size<=b)/\¬B b/\b<u.size
 b:∀b,B b->U.size<=b/\b<u.size
 o:iV (λb=>U.size<=b)/\¬U.size<=1
theorem HK.start (h:HH U F L H):HK F U (λ_=>False) U (Cut F U) L H:=⟨h.cut,Ext.refl _ _,λb a=>⟨.inl ⟨a.1,a.2⟩,id,a.2⟩,λb a=>a.elim,h.l5⟩
theorem HK.box (K:HK F U B u P L H)(e:bK u u')(hz:u'.size=u.size+1):HK F U (λb=>B b\/b=u.size) u' P L H:=
 ⟨K.h.bO e,K.e.trans (bK.to e),λb a=>⟨(K.p b a).1,λd=>d.elim (K.p b a).2.1 λg=>by have:=(K.p b a).2.2;omega,by have:=(K.p b a).2.2;omega⟩,λb a=>by
  have:=K.e.1;rcases a with a|a
  ·have:=K.b b a;omega
  ·omega,K.o⟩
theorem HK.fr (K:HK F U B u P L H)(e:bK u u'):HK F U B u' P L H:=
 ⟨K.h.bO e,K.e.trans (bK.to e),λb a=>⟨(K.p b a).1,(K.p b a).2.1,by have:=(K.p b a).2.2;have:=e.1;omega⟩,λb a=>by have:=K.b b a;have:=e.1;omega,K.o⟩
theorem HK.own (K:HK F U B u P L H)(o:Qo u u' n)(hn:B n):HK F U B u' P L H:=by
 have s:=K.b n hn;have r:=o.1;have e:Ext (· = n) u u':=o.ext;have g:∀b,b<u.size->P b->¬(b=n):=λb _ a i=>(K.p b a).2.1 (i▸hn);have d:iV (λb=>b=n)/\¬(1=n):=⟨K.o.1.sub λb j=>O,λj=>K.o.2 O⟩;exact⟨K.h.bS e g d.1 d.2,K.e.dT e λb (m:b=n)=>.inr O,λb a=>⟨(K.p b a).1,(K.p b a).2.1,by have:=(K.p b a).2.2;omega⟩,λb a=>by have:=K.b b a;omega,K.o⟩
theorem HK.cT (K:HK F U B u P L H)(e:Ext P u u')(hb:bY u n cs)(hn:B n):bY u' n cs:=e.bT hb λa=>(K.p n a).2.1 hn
theorem HK.tn (K:HK F U B u P L H){Q:Rg}{L':dJ}(e:Ext P u u')(h:HH u' Q L' H')(hq:∀b,b<u'.size->Q b->P b\/u.size<=b\/(F b/\b<U.size\/U.size<=b)/\¬B b):HK F U B u' (Cut Q u') L' H':=by
 have g:=e.1;have i:=K.e.1;refine⟨h.cut,K.e.dT e λb a=>(K.p b a).1.imp (λh=>h.1) id,λb a=>⟨?_,λd=>?_,a.2⟩,λb a=>by have:=K.b b a;omega,K.o⟩
 ·rcases hq b a.2 a.1 with h1|h1|h1
  ·exact(K.p b h1).1
  ·exact .inr O
  ·exact h1.1
 ·rcases hq b a.2 a.1 with h1|h1|h1
  ·exact(K.p b h1).2.1 d
  ·have:=K.b b d;omega
  ·exact h1.2 d
theorem HK.to (K:HK F U B u P L H){Q:Rg}{L':dJ}(e:Ext P u u')(h:HH u' Q L' H')(hq:∀b,b<u'.size->Q b->P b\/u.size<=b):HK F U B u' (Cut Q u') L' H':=K.tn e h λb a d=>(hq b a d).imp id .inl
theorem HK.fin (K:HK F U B u P L H){L0:dJ}{H0:Hw}(h0:HH U F L0 H0):HH u (Grow F U) L H:=h0.grown K.h λb _ a=>(K.p b a).1.imp (λh=>h.1) id
def Fr (A' A:AR):Prop:=A'.tb=A.tb/\A'.room=A.room/\A'.cM=A.cM
theorem Fr.cK {A' A:AR}(h:Fr A' A)(Y:Lay):Go.Ar.cK A' Y=Go.Ar.cK A Y:=by
 funext k;unfold Go.Ar.cK;rw[h.1,h.2.1,h.2.2]
theorem Dw (A:AR)(k m:Int):Fr (Yr A k m) A:=by
 unfold Yr;split<;>exact⟨rfl,rfl,rfl⟩
theorem En (A:AR)(k:Int)(xs:List Int):Fr (Zu A k xs) A:=⟨(V1 A k xs).1,(V1 A k xs).2.1,(V1 A k xs).2.2.1⟩
theorem Dl (A:AR)(sp:Sp)(m a no:Nat):Fr (cZ A sp m a no).2.1 A:=⟨(HJ A sp m a no).1,(HJ A sp m a no).2.2.2.1,(HJ A sp m a no).2.2.1⟩
theorem F6 (A:AR)(x:Int):Fr (Qr A x) A:=by
 unfold Qr;split<;>exact⟨rfl,rfl,rfl⟩
theorem Ds (A:AR)(sp:Sp)(k:Int):Fr (cL A sp k).1 A:=by
 unfold cL;split
 ·split
  ·rename_i c ss h1 h2;have h:=Dl A sp c.aF 1 (k.toNat+1);generalize cZ A sp c.aF 1 (k.toNat+1)=r at h;obtain⟨o,A',a⟩:=r;cases o with
   | none=>exact h
   | some x=>
    simp only;split<;>exact h
  ·exact⟨rfl,rfl,rfl⟩
 ·exact⟨rfl,rfl,rfl⟩
theorem De (A:AR)(sp:Sp)(m a:Int):Fr (cA A sp m a).1 A:=by
 unfold cA;split
 ·have h:=Dl A sp m.toNat a.toNat 41;generalize cZ A sp m.toNat a.toNat 41=r at h;obtain⟨o,A',b⟩:=r;cases o<;>exact h
 ·exact⟨rfl,rfl,rfl⟩
theorem Ic (A:AR)(k:Int):(Zx A k).tb=A.tb:=by unfold Zx;split<;>rfl
theorem Iv (A:AR)(k:Int)(xs:List Int):(QV A k xs).tb=A.tb:=by unfold QV;split<;>rfl
theorem HH.mb (h:HH U F L H)(hk:H.bX[k]?=some A)(hy:L.ys[k]?=some Y):∃G:Rg,(∀b,G b->F b)/\dG U G Y A (cK A Y)/\∀(σ':Hp) (A':AR) (Q:Rg),A'.tb=A.tb->Ext G U σ'->(∀b,Q b->G b\/U.size<=b)->dG σ' (λb=>Grow G U b/\¬Q b) Y A' (cK A' Y) →
 Ext F U σ'/\HH σ' (λb=>Grow F U b/\¬Q b) L (H.cC k A'):=by
 obtain⟨Y',G,g,_,j,p,d⟩:=h.vN hk;rw[hy]at g;cases g;refine⟨G,j,p,λσ' A' Q i e r u=>?_⟩;obtain⟨e1,s⟩:=d σ' A' _ i e (λb a=>a.1) u;refine⟨e1,s.mono (λb _ a=>?_) (h.oG.sub λb a=>a.1) λa=>h.qn a.1⟩;rcases a with a|a
 ·exact⟨.inl a.1,λm=>by
   rcases r b m with h2|h2
   ·exact a.2.2 h2
   ·have:=a.2.1;omega⟩
 ·exact⟨a.1.imp (j b) id,a.2⟩
theorem dG.vp {T:Nat->Hp->Rg->Prop}{G Q:Rg}(h:dG U G Y A T)(hq:∀b,¬Q b):dG U (λb=>G b/\¬Q b) Y A T:=h.mono λb _ a=>⟨a,hq b⟩
theorem HH.l9 (h:HH U F L H)(hk:H.bX[k]?=some A)(hy:L.ys[k]?=some Y):∃G:Rg,(∀b,G b->F b)/\dG U G Y A (cK A Y)/\∀(σ':Hp) (A':AR),A'.tb=A.tb->Ext G U σ'->dG σ' (Grow G U) Y A' (cK A' Y) →
 Ext F U σ'/\HH σ' (Grow F U) L (H.cC k A'):=by
 obtain⟨G,j,m,a⟩:=h.mb hk hy;refine⟨G,j,m,λσ' A' g e p=>?_⟩;obtain⟨e1,i⟩:=a σ' A' (λ_=>False) g e (λb d=>d.elim) (p.vp λ_=>id);exact⟨e1,i.mono (λb _ d=>d.1) h.oG h.qn⟩
theorem H9 (h:HH U F L H)(hk:H.bX[k]?=some A)(hy:L.ys[k]?=some Y)(c:Int){R:Sl->Int->Hp->Prop}
 (hR:∀s σ' (Q:Rg),Ext F U σ'->(∀b,Q b->F b)->cW s 1 (Wo (Yp A c)) σ' Q->s.len<=s.cap->HH σ' (λb=>Grow F U b/\¬Q b) L (H.cC k (Zx A c))->R s (ZY A c) σ') :
 WA.c (aW Y.p) c U R:=by
 obtain⟨G,m,w,g⟩:=h.mb hk hy;refine H6 w c λs σ' e i u d j=>?_;obtain⟨e1,r⟩:=g σ' (Zx A c) (kD s) (Ic A c) e (λb a=>.inl (i b a)) (j.mono λb _ a=>⟨.inl a.1,a.2⟩);exact hR s σ' (kD s) e1 (λb a=>m b (i b a)) u d r
theorem RN (h:HH U F L H)(hk:H.bX[k]?=some A)(hy:L.ys[k]?=some Y)(c m:Int){R:Sl->Int->Hp->Prop}
 (hR:∀s σ' (Q:Rg),Ext F U σ'->(∀b,Q b->U.size<=b)->bR s 1 (ints (Ya A c m)) σ' Q->HH σ' (λb=>Grow F U b/\¬Q b) L (H.cC k (Yr A c m))->R s (Qq A c m) σ') :
 WB.c (aW Y.p) c m U R:=by
 obtain⟨G,w,r,d⟩:=h.mb hk hy;refine O8 r c m λs σ' e j u=>?_;have g:cK (Yr A c m) Y=cK A Y:=(Dw A c m).cK Y;obtain⟨e1,i⟩:=d σ' (Yr A c m) (λb=>U.size<=b) (Dw A c m).1 e (λb a=>.inr a) (by rw[g];exact u.mono λb _ a=>⟨.inl a.1,by have:=a.2;omega⟩);exact hR s σ' _ e1 (λb a=>a) j i
theorem LI (h:HH U F L H)(hk:H.bX[k]?=some A)(hy:L.ys[k]?=some Y)(c:Int){sl:Sl}{xs:List Int}{X:Rg}(hs:cW sl 1 (Wo xs) U X)(hi:∀x∈xs,iE x){R:Bool->Int->Hp->Prop}
 (hR:∀σ',Ext F U σ'->HH σ' (Grow F U) L (H.cC k (QV A c xs))->R (KQ A c xs) (U6 A c xs) σ'):WF.c (aW Y.p) c sl U R:=by
 obtain⟨G,i,g,a⟩:=h.l9 hk hy;refine Nl g c hs hi λσ' e d=>?_;obtain⟨e1,b⟩:=a σ' _ (Iv A c xs) e d;exact hR σ' e1 b
theorem OY (h:HH U F L H)(hk:H.bX[k]?=some A)(hy:L.ys[k]?=some Y)(c:Int){sl:Sl}{xs:List Int}{X:Rg}(hs:cW sl 1 (Wo xs) U X)(hX:∀b,b<U.size->X b->¬F b)(hi:∀x∈xs,iE x)(hl:xs.length<=1000000)(hcap:sl.len<=sl.cap){R:aN}
 (hR:∀σ',Ext F U σ'->HH σ' (Grow F U) L (H.cC k (Zu A c xs))->R (QJ A c xs) σ'):WK.c (aW Y.p) c sl U R:=by
 obtain⟨G,j,s,a⟩:=h.l9 hk hy;refine LX s c hi hl hcap (.inl ⟨X,hs,λb r i m=>hX b r i (j b m)⟩) λσ' e u=>?_;have d:cK (Zu A c xs) Y=cK A Y:=(En A c xs).cK Y;obtain⟨e1,g⟩:=a σ' _ (En A c xs).1 e (by rw[d];exact u);exact hR σ' e1 g
theorem O6 (h:HH U F L H)(hk:H.bX[k]?=some A)(hy:L.ys[k]?=some Y)(x:Int)(hf:∀r∈A.runs,r.1<=1000000){R:aN}
 (hR:∀σ',Ext F U σ'->HH σ' (Grow F U) L (H.cC k (Qr A x))->R (KH A x) σ'):WM.c (aW Y.p) x U R:=by
 obtain⟨G,j,g,a⟩:=h.l9 hk hy;refine Sy g x hf λσ' e i=>?_;have b:cK (Qr A x) Y=cK A Y:=(F6 A x).cK Y;obtain⟨e1,d⟩:=a σ' _ (F6 A x).1 e (by rw[b];exact i);exact hR σ' e1 d
theorem PB (h:HH U F L H)(hk:H.bX[k]?=some A)(hy:L.ys[k]?=some Y)(c:Int){R:aN}
 (hR:∀σ',Ext F U σ'->HH σ' (Grow F U) L {H.cC k (cL A H.sp c).1 with sp:=(cL A H.sp c).2}->R (KC A H.sp c) σ'):X2.c (aW Y.p) c U R:=by
 obtain⟨Y',G,D,b,_,g,a⟩:=h.oe hk;rw[hy]at b;cases b;refine Mb g c λσ' G' D' i e m=>?_;have d:cK (cL A H.sp c).1 Y=cK A Y:=(Ds A H.sp c).cK Y;obtain⟨e1,j⟩:=a σ' _ _ G' D' (Ds A H.sp c).1 e i (by rw[d];exact m);exact hR σ' e1 j
theorem RP (h:HH U F L H)(hk:H.bX[k]?=some A)(hy:L.ys[k]?=some Y)(m a:Int){R:Int->Int->Hp->Prop}
 (hR:∀σ',Ext F U σ'->HH σ' (Grow F U) L {H.cC k (cA A H.sp m a).1 with sp:=(cA A H.sp m a).2}->R ((ZW A H.sp m a:Nat):Int) (Qi A H.sp m a) σ'):WJ.c (aW Y.p) m a U R:=by
 obtain⟨Y',G,D,d,_,i,b⟩:=h.oe hk;rw[hy]at d;cases d;refine RJ i m a λσ' G' D' j e s=>?_;have g:cK (cA A H.sp m a).1 Y=cK A Y:=(De A H.sp m a).cK Y;obtain⟨e1,r⟩:=b σ' _ _ G' D' (De A H.sp m a).1 e j (by rw[g];exact s);exact hR σ' e1 r
def Hw.dR (H:Hw)(t:Nat)(g:Th)(ls:List Li):Hw:={H with bQ:=H.bQ.set t {g with ls:=ls}}
theorem HH.k5 (h:HH U F L H)(hx:L.ts[t]?=some x)(hg:H.bQ[t]?=some g):∃G:Rg,(∀b,G b->F b)/\eC U G x.c H.tb H.cf.dA g.ls/\∀(σ':Hp) (ls:List Li) (Y':gS) (Q:Rg),Y'.p=x.c.p->Ext G U σ'->(∀b,Q b->U.size<=b)->eC σ' (λb=>Grow G U b/\¬Q b) Y' H.tb H.cf.dA ls →
 Ext F U σ'/\HH σ' (λb=>Grow F U b/\¬Q b) {L with ts:=L.ts.set t {x with c:=Y'}} (H.dR t g ls):=by
 obtain⟨G,i,m,d⟩:=h.oH hx hg;refine⟨G,i,m,λσ' ls Y' Q u e w j=>?_⟩;obtain⟨e1,r⟩:=d σ' ls Y' _ u e (λb a=>a.1) j;refine⟨e1,r.mono (λb _ a=>?_) (h.oG.sub λb a=>a.1) λa=>h.qn a.1⟩;rcases a with a|a
 ·exact⟨.inl a.1,λs=>by have:=a.2.1;have:=w b s;omega⟩
 ·exact⟨a.1.imp (i b) id,a.2⟩
theorem HH.kN (h:HH U F L H)(hx:L.ts[t]?=some x)(hg:H.bQ[t]?=some g):∃G:Rg,(∀b,G b->F b)/\eC U G x.c H.tb H.cf.dA g.ls/\∀(σ':Hp) (ls:List Li) (Y':gS),Y'.p=x.c.p->Ext G U σ'->eC σ' (Grow G U) Y' H.tb H.cf.dA ls →
 Ext F U σ'/\HH σ' (Grow F U) {L with ts:=L.ts.set t {x with c:=Y'}} (H.dR t g ls):=by
 obtain⟨G,m,i,d⟩:=h.k5 hx hg;refine⟨G,m,i,λσ' ls Y' r e s=>?_⟩;obtain⟨e1,j⟩:=d σ' ls Y' (λ_=>False) r e (λb a=>a.elim) (s.mono λb _ a=>⟨a,id⟩);exact⟨e1,j.mono (λb _ a=>a.1) h.oG h.qn⟩
theorem NA (h:HH U F L H)(hx:L.ts[t]?=some x)(hg:H.bQ[t]?=some g)(hc:H.tb[k]?=some c)(hl:g.ls[k]?=some l){R:Int->Int->Hp->Prop}
 (hR:∀σ' ts',Ext F U σ'->HH σ' (Grow F U) {L with ts:=ts'} (H.dR t g (g.ls.set k (QY c l).2))->R ((QY c l).1.getD 0) (if(QY c l).1.isSome then 0 else 4) σ'):XV.c (aW x.c.p) (k:Int) U R:=by
 obtain⟨G,m,b,a⟩:=h.kN hx hg;refine kU b hc hl λσ' Y' e i j=>?_;obtain⟨e1,d⟩:=a σ' _ Y' i e j;exact hR σ' _ e1 d
theorem PX (h:HH U F L H)(hx:L.ts[t]?=some x)(hg:H.bQ[t]?=some g)(hc:H.tb[k]?=some c)(hl:g.ls[k]?=some l){R:Int->Int->Hp->Prop}
 (hR:∀σ' ts',Ext F U σ'->HH σ' (Grow F U) {L with ts:=ts'} H->R ((GU c l:Nat):Int) 0 σ'):X4.c (aW x.c.p) (k:Int) U R:=by
 obtain⟨G,m,d,a⟩:=h.kN hx hg;refine Lc d hc hl λσ' Y' e i j=>?_;obtain⟨e1,b⟩:=a σ' _ Y' i e j;have e2:H.dR t g g.ls=H:=by
  unfold Hw.dR;rw[Z8 hg]
 rw[e2]at b;exact hR σ' _ e1 b
theorem Oc (h:HH U F L H)(hx:L.ts[t]?=some x)(hg:H.bQ[t]?=some g)(hc:H.tb[k]?=some c)(hl:g.ls[k]?=some l){sl:Sl}{xs:List Int}{X:Rg}(hs:cW sl 1 (Wo xs) U X)(hX:∀q,X q->¬F q)(hfit:l.os.length+xs.length<=256){R:aN}
 (hR:∀σ' ts',Ext F U σ'->HH σ' (Grow F U) {L with ts:=ts'} (H.dR t g (g.ls.set k (eA xs.reverse l)))->R 0 σ'):X3.c (aW x.c.p) (k:Int) sl U R:=by
 obtain⟨G,i,b,a⟩:=h.kN hx hg;refine JB b hc hl hs (λq j hg=>hX q j (i q hg)) hfit λσ' Y' e m r=>?_;obtain⟨e1,d⟩:=a σ' _ Y' m e r;exact hR σ' _ e1 d
theorem Jx (h:HH U F L H)(hx:L.ts[t]?=some x)(hg:H.bQ[t]?=some g)(hc:H.tb[k]?=some c)(hl:g.ls[k]?=some l)(y:Int){R:Sl->Int->Hp->Prop}
 (hR:∀σ' ts' s e (Q:Rg),Ext F U σ'->(∀q,Q q->U.size<=q)->bR s 1 (Wo (dK c y l).1) σ' Q->HH σ' (λb=>Grow F U b/\¬Q b) {L with ts:=ts'} (H.dR t g (g.ls.set k (dK c y l).2))->R s e σ'):Yu.c (aW x.c.p) (k:Int) y U R:=by
 obtain⟨G,z,i,a⟩:=h.k5 hx hg;refine R9 i hc hl y λσ' Y' s w Q e u _ d r j=>?_;obtain⟨e1,m⟩:=a σ' _ Y' Q u e d j;exact hR σ' _ s w Q e1 d r m
theorem MA (h:HH U F L H)(hx:L.ts[t]?=some x)(hg:H.bQ[t]?=some g){R:aO}(hR:∀σ',bK U σ'->R (decide (H.cf.dA<QQ H.tb g.ls)) σ'):X8.c (aW x.c.p) U R:=by
 obtain⟨G,d,b,a⟩:=h.kN hx hg;exact Sq b hR
theorem Mj (hso:H8)(h:HH U F L H)(hx:L.ts[t]?=some x)(hg:H.bQ[t]?=some g){R:Sl->Hp->Prop}
 (hR:∀σ' s (Q:Rg),Ext F U σ'->(∀q,Q q->U.size<=q)->iw s (Q0 ZG H.tb g.ls) σ' Q->HH σ' (λb=>Grow F U b/\¬Q b) L (H.dR t g (QT ZG H.tb g.ls))->R s σ'):XD.c (aW x.c.p) U R:=by
 obtain⟨G,u,j,a⟩:=h.k5 hx hg;refine O3 hso j λσ' s Q e i m r=>?_;obtain⟨e1,d⟩:=a σ' _ x.c Q rfl e i m;rw[show L.ts.set t {x with c:=x.c}=L.ts from Z8 hx]at d;exact hR σ' s Q e1 i r d
theorem Oi (hso:H8)(h:HH U F L H)(hx:L.ts[t]?=some x)(hg:H.bQ[t]?=some g){R:Sl->Hp->Prop}
 (hR:∀σ' s (Q:Rg),Ext F U σ'->(∀q,Q q->U.size<=q)->iw s (Q0 KE H.tb g.ls) σ' Q->HH σ' (λb=>Grow F U b/\¬Q b) L (H.dR t g (QT KE H.tb g.ls))->R s σ'):WX.c (aW x.c.p) U R:=by
 obtain⟨G,u,j,a⟩:=h.k5 hx hg;refine Mp hso j λσ' s Q e i m r=>?_;obtain⟨e1,d⟩:=a σ' _ x.c Q rfl e i m;rw[show L.ts.set t {x with c:=x.c}=L.ts from Z8 hx]at d;exact hR σ' s Q e1 i r d
def m5 (S:aP)(L:dJ)(tb:List bZ):Prop:=∀m,S m->∃(P:Rg) (ts:List eH) (H:Hw),HH m P {L with ts:=ts} H/\H.tb=tb
theorem m5.dD {S:aP}{tb:List bZ}(hS:m5 S L tb){K:Sl->Prop}(hK:K L.dD):gE S .s (Addr.add ⟨L.p,0,none⟩ 0) K:=⟨L.dD,λm a=>by obtain⟨_,_,_,h,_⟩:=hS m a;rw[add_lit,h.hd.cell];rfl,hK⟩
theorem m5.fM {S:aP}{tb:List bZ}(hS:m5 S L tb){K:Sl->Prop}(hK:K L.fM):gE S .s (Addr.add ⟨L.p,0,none⟩ 7) K:=⟨L.fM,λm a=>by obtain⟨_,_,_,h,_⟩:=hS m a;rw[add_lit,h.hd.cell];rfl,hK⟩
theorem m5.rA {S:aP}{tb:List bZ}(hS:m5 S L tb)(h:HH U F L H)(hy:L.ys[k]?=some Y){K:Option Addr->Prop}(hK:K (some ⟨Y.p,0,none⟩)):Ix L.fM.a L.fM.len (k:Int) 1 λa=>gE S .p a K:=by
 have i:(fJ (L.ys.map (·.p)))[k]?=some (.pointer (some ⟨Y.p,0,none⟩)):=by simp[fJ,hy]
 obtain⟨b,o,j,_⟩:=h.mG.cell i;have y:=(cV.1 hy).1;have r:=h.mY;have:=h.s.ys;rw[j];refine ix O O ⟨_,λm u=>?_,hK⟩;obtain⟨_,_,_,e,_⟩:=hS m u;obtain⟨w,x,d,g⟩:=e.mG.cell i;rw[j]at d;cases d;rw[add_lit,show o+(k:Int).toNat*1=o+k by omega];exact g
theorem m5.rC {S:aP}(hS:m5 S L H.tb)(h:HH U F L H)(hc:H.tb[k]?=some c){K:Int->Prop}(hK:K (c.size:Int)):Ix L.dD.a L.dD.len (k:Int) 3 λa=>gE S bN (a.add 0) K:=by
 have e:(fZ H.tb)[3*k+0]?=some (.int .i64 (c.size:Int)):=(Gm hc).1;obtain⟨b,o,r,_⟩:=h.jy.cell e;have y:=(cV.1 hc).1;have s:=h.oM;rw[r];refine ix O O ⟨_,λm u=>?_,hK⟩;obtain⟨_,_,_,g,j⟩:=hS m u;rw[←j]at e;obtain⟨w,x,d,p⟩:=g.jy.cell e;have d:L.dD.a=_:=d;rw[r]at d;cases d;rw[add_lit,add_lit,show o+(k:Int).toNat*3+0=o+(3*k+0) by omega];exact p
end Go.Ar
namespace Go.Ar
open Go Go.Vc Go.Proofs
variable {U u u':Hp}{F B P Q:Rg}{L:dJ}{H H':Hw}{t k n pb:Nat}{A:AR}{Y:Lay}{x:eH}{g:Th}{c:bZ}{l:Li}{cs:List Value}{parts:List (List Int)}{xs:List Int}
theorem HK.Ak (K:HK F U B u P L H)(e:Ext B u u'){B':Rg}(hB:∀b,B' b->B b\/u.size<=b/\b<u'.size):HK F U B' u' P L H:=by
 have r:=e.1;have m:=K.e.1;have i:iV B/\¬B 1:=⟨K.o.1.sub λb g=>(K.b b g).1,λg=>K.o.2 (K.b _ g).1⟩;refine⟨K.h.bS e (λb _ a d=>(K.p b a).2.1 d) i.1 i.2,K.e.dT e λb j=>.inr (K.b b j).1,λb a=>⟨(K.p b a).1,λg=>?_,by have:=(K.p b a).2.2;omega⟩,λb a=>?_,K.o⟩
 ·rcases hB b g with d|d
  ·exact(K.p b a).2.1 d
  ·have:=(K.p b a).2.2;omega
 ·rcases hB b a with d|d
  ·have:=K.b b d;omega
  ·omega
def sV (s:Sl):Value:=.slice s.a s.len s.cap
def mB (pb:Nat)(parts:List (List Int)):Hp->Rg->Prop:=λu Q=>∃(ps:List Sl) (Qs:Nat->Rg),ps.length=parts.length/\Q pb/\bY u pb (ps.map sV)/\(∀j b,Qs j b->Q b/\b≠pb)/\(∀j j' b,Qs j b->Qs j' b->j=j') ∧
 ∀j s xs,ps[j]?=some s->parts[j]?=some xs->dI s 1 (Wo xs) u (Qs j)
theorem mB.loc (pb:Nat)(parts:List (List Int)):dM (mB pb parts):=by
 rintro U H F G ⟨D,Qs,E,C,r,i,A,z⟩ x g;have p:=g pb r.lt C;obtain⟨e,u⟩:=r;refine⟨D,λj b=>Qs j b/\b<U.size,E,p.1,⟨e,p.2.trans u⟩,λj b d=>⟨(g b d.2 (i j b d.1).1).1,(i j b d.1).2⟩,λj B b a w=>A j B b a.1 w.1,λj s y a b=>(dI.loc _ _ _) _ _ _ _ (z j s y a b) x λb d m=>⟨⟨m,d⟩,(g b d (i j b m).1).2⟩⟩
theorem mB.add (h:mB pb parts u Q){a m e1 e2:Nat}(hm:m=parts.length)(ha:parts[a]?=some xs)(y:Int)(hl:xs.length<=1000000){K:aP}(hK:∀u',Ext Q u u'->mB pb (parts.set a (xs++[y])) u' (Grow Q u)->K u') :
 Ix (some ⟨pb,0,none⟩) m (a:Int) 1 λa1=>jj a1 u λt35=>Nw (.cells #[.int .i64 y] e1 (0,0)) u λn37 v4=>App t35 1 8 e2 [.int .i64 0] ⟨some n37,1,1⟩ v4 λt38 v5=>Ix (some ⟨pb,0,none⟩) m (a:Int) 1 λa39=>dS a39 (.slice t38.a t38.len t38.cap) v5 λv6=>K v6:=by
 obtain⟨B,Qs,Z,R,G,A,P,N⟩:=h;have J:=(cV.1 ha).1;have p:B[a]?=some (B[a]' O):=cU _;generalize (B[a]' O)=s at p;have i:=N a s xs p ha;have W:s.len=xs.length:=by have:=i.1;simp[Wo]at this;omega
 refine ix O O ?_;rw[add_lit,show 0+(a:Int).toNat*1=a by omega];refine G.tO (a:=s.a) (n:=s.len) (c:=s.cap) (by simp[p,sV]) ?_;refine nw (cs:=[.int .i64 y]) λv4 hz e d=>?_;have r:=(dI.loc _ _ _).bO ((dI.loc _ _ _).cut i) e;have F:=e.bT G id;refine r.app (x:=⟨some ⟨u.size,0,none⟩,1,1⟩) (ys:=[.int .i64 y]) rfl rfl ?_ (by simp[dP]) ?_ ?_ mN λs' v5 hl5 E M=>?_
 ·intro j w hw;rw[add_lit,zH,d.cell];exact hw
 ·simp only;omega
 ·simp only;omega
 have X:=E.1;have H:bY v5 pb (B.map sV):=E.bT F λz=>(A a pb z.1).2 rfl;refine ix O O ?_;rw[add_lit,show 0+(a:Int).toNat*1=a by omega];refine H.s0 aE λu' S g=>?_;have hz6:=S.1;have L:Ext (· = pb) v5 u':=S.ext;have V:Ext Q u u':=((bK.to e).trans (E.sub λb d=>(A a b d.1).1)).trans (L.sub λb d=>by rw[d];exact R);have U:=G.lt;refine hK u' V ⟨B.set a s',λj b=>Qs j b/\b<u.size\/j=a/\v4.size<=b/\b<v5.size,by simp[Z],.inl R,?_,λj b d=>?_,λj j' b d g=>?_,λj s2 ys C D=>?_⟩
 ·rw[u6];exact g
 ·rcases d with d|d
  ·exact⟨.inl (A j b d.1).1,(A j b d.1).2⟩
  ·exact⟨.inr O,O⟩
 ·rcases d with d|d<;>rcases g with g|g
  ·exact P j j' b d.1 g.1
  ·omega
  ·omega
  ·omega
 ·by_cases hja:j=a
  ·subst hja;rw[zM O]at C;rw[zM J]at D;cases C;cases D;have:=(dI.loc _ _ _).bS ((dI.loc _ _ _).cut M) L λb _ d z=>by
    rcases d.1 with h7|h7
    ·exact(A j b h7.1).2 z
    ·omega
   have Y:Wo (xs++[y])=Wo xs++[.int .i64 y]:=by simp[Wo]
   rw[Y];refine(dI.loc _ _ _).mono this λb _ d=>?_;rcases d.1 with h7|h7
   ·exact .inl h7
   ·exact .inr ⟨rfl,h7,d.2⟩
  ·rw[zk (Ne.symm hja)]at C D;have:=(dI.loc _ _ _).cut (N j s2 ys C D);have:=(dI.loc _ _ _).bS ((dI.loc _ _ _).bS ((dI.loc _ _ _).bO this e) E λb _ d z=>hja (P j a b d.1 z.1)) L λb _ d z=>(A j b d.1).2 z;exact(dI.loc _ _ _).mono this λb _ d=>.inl d
theorem mB.get (h:mB pb parts u Q){a m:Nat}(hm:m=parts.length)(ha:parts[a]?=some xs){K:Sl->Prop}(hK:∀s,dI s 1 (Wo xs) u Q->s.len=xs.length->K s):Ix (some ⟨pb,0,none⟩) m (a:Int) 1 λa1=>jj a1 u K:=by
 obtain⟨g,Qs,x,z,j,i,y,r⟩:=h;have w:=(cV.1 ha).1;have e:g[a]?=some (g[a]' O):=cU _;generalize (g[a]' O)=s at e;have d:=r a s xs e ha;refine ix O O ?_;rw[add_lit,show 0+(a:Int).toNat*1=a by omega];refine j.tO (a:=s.a) (n:=s.len) (c:=s.cap) (by simp[e,sV]) (hK s ((dI.loc _ _ _).mono d λb _ p=>(i a b p).1) ?_);have:=d.1;simp[Wo]at this;omega
theorem GI {bX:List AR}{x:Int}(h:0<=XN bX x):(XN bX x).toNat<bX.length/\XN bX x=((XN bX x).toNat:Int):=by
 refine⟨?_,O⟩;unfold XN at *;split at h
 ·omega
 ·rename_i hx;rw[zB hx];split at h
  ·rename_i i hi;have:=(List.findIdx?_eq_some_iff_findIdx_eq.1 hi).1;simp only[dE];exact this
  ·omega
theorem NP {bX:List AR}{x:Int}{xs:List Int}(h:0<=XN bX x):((List.range bX.length).map (ZE bX xs)).set (XN bX x).toNat (ZE bX xs (XN bX x).toNat++[x])=(List.range bX.length).map (ZE bX (xs++[x])):=by
 have a:=GI h;apply zo;intro j;by_cases hj:j<bX.length
 ·by_cases e:(XN bX x).toNat=j
  ·subst e;rw[zM (by simpa using hj)];simp only[za,nu hj,zX,ZE,uC]
   congr 2
   rw[uc (by rw[←a.2];simp)];rfl
  ·rw[zk e];simp only[za,nu hj,zX,ZE,uC];have:List.filter (λy=>XN bX y==(j:Int)) [x]=[]:=by
    rw[uj (by simp only[zT];omega)];rfl
   rw[this,kV]
 ·rw[zV aE,zV aE]
theorem QZ {K:aO}{body:(Bool->Hp->Prop)->Prop}(P:aO)(h1:∀r w,P r w->K r w)(h2:∀J:Bool->Hp->Prop,(∀r w,P r w->J r w)->body J):bV K body:=bV.intro (h2 K h1)
theorem wa {K:eN [.b]}{body:eN [.b]->Prop}(P:aO)(h1:∀r w,P r w->K r w)(h2:∀J:eN [.b],(∀r w,P r w->J r w)->body J):Jn [.b] K body:=Jn.intro (h2 K h1)
theorem uO {K:eN []}{body:eN []->Prop}(P:aP)(h1:∀w,P w->K w)(h2:∀J:eN [],(∀w,P w->J w)->body J):Jn [] K body:=Jn.intro (h2 K h1)
theorem KZ {H:Hw}{k:Nat}{part:Nat->List Int}(j:Nat):KN H k part (List.range (j+1))=(match (KN H k part (List.range j)).bX[j]? with
 | some A=>if part j=[]then KN H k part (List.range j)else(KN H k part (List.range j)).cC j (Zu A (k:Int) (part j))
 | none=>KN H k part (List.range j)):=by
 unfold KN;rw[pR,vM];rfl
theorem L7 {H:Hw}{k:Nat}{part:Nat->List Int}(j:Nat):(KN H k part (List.range j)).bX.length=H.bX.length:=by
 induction j with
 | zero=>rfl
 | succ j ih=>
  rw[KZ];split
  ·split
   ·exact ih
   ·simp[Hw.cC,ih]
  ·exact ih
theorem Rv {H:Hw}{k:Nat}{part:Nat->List Int}(j:Nat):(KN H k part (List.range j)).bQ=H.bQ:=by
 induction j with
 | zero=>rfl
 | succ j ih=>
  rw[KZ];split
  ·split<;>exact ih
  ·exact ih
theorem G5 (H:Hw)(own k:Nat)(xs:List Int):(Hx H own k xs).bQ=H.bQ:=by
 unfold Hx;split
 ·split
  ·rfl
  ·rw[Rv];split<;>rfl
 ·rfl
def BE (F:Rg)(U:Hp)(L:dJ)(H:Hw)(pb:Nat)(parts:List (List Int))(cs:List Value)(w:Hp):Prop:=∃Q P:Rg,HK F U (λb=>b=U.size\/Q b) w P L H/\mB pb parts w Q/\bY w U.size cs/\∀b,Q b->b≠U.size
theorem Ns (h:HH U F L H){own:Nat}(ho:own<H.bX.length)(k:Nat){sl:Sl}{xs:List Int}{X:Rg}(hs:cW sl 1 (Wo xs) U X)(hX:∀b,b<U.size->X b->¬F b)(hcap:sl.len<=sl.cap)(hx:∀x∈xs,iE x/\0<=XN H.bX x)(hl:xs.length<=1000000){R:aP}
 (hR:∀σ',Ext F U σ'->HH σ' (Grow F U) L (Hx H own k xs)->R σ'):Zm.c (aW L.p) (own:Int) (k:Int) sl U R:=by
 refine Zm.o ?_;unfold Zm.v;have hsl:sl.len=xs.length:=by have:=hs.1;simp[Wo]at this;omega
 have ha2:=h.s.a2;have hal:=h.mY;have hs1:∀u,Ext F U u->cW sl 1 (Wo xs) u (λb=>X b/\b<U.size):=λu eu=>aH.bS (aH.cut hs) eu λb _ hx hf=>hX b hx.2 hx.1 hf;refine nw (cs:=[.int .i64 (k:Int),.slice sl.a sl.len sl.cap]) λv hz e d=>?_;have K1:=(HK.start h).box e hz;refine aG (K1.h.hd.rS rfl ?_);simp only;refine mk (n:=L.fM.len) O O λv1 af e1 hb1=>?_;have K2:=K1.box e1 af;have hb2:=e1.bT d id;have V:mB v.size ((List.range H.bX.length).map (ZE H.bX [])) v1 (λb=>b=v.size):=by
  refine⟨List.replicate H.bX.length ⟨none,0,0⟩,λ_ _=>False,by simp,rfl,?_,λj b d=>d.elim,λj j' b d=>d.elim,λj s ys g h2=>?_⟩
  ·have:(List.replicate L.fM.len [Value.slice none 0 0]).flatten=(List.replicate H.bX.length (⟨none,0,0⟩:Sl)).map sV:=by
    rw[hal];simp[sV]
   rw[←this];exact hb1
  ·simp only[za,oF]at h2;obtain⟨a,_,rfl⟩:=h2;simp only[l7]at g;split at g
   ·cases g;exact dI.nil _ _ _ _
   ·cases g
 have hpl:∀ys:List Int,L.fM.len=((List.range H.bX.length).map (ZE H.bX ys)).length:=λys=>by simp[hal]
 refine hb2.rS rfl ?_;refine ZX (a:=bN) (λ(z:Int) w=>∃i:Nat,z=(i:Int)/\i<=xs.length/\BE F U L H v.size ((List.range H.bX.length).map (ZE H.bX (xs.take i))) [.int .i64 (k:Int),.slice sl.a sl.len sl.cap] w) (λz _=>xs.length-z.toNat)
  ⟨0,rfl,O,λb=>b=v.size,_,⟨K2.h,K2.e,λb d=>⟨(K2.p b d).1,λhx=>(K2.p b d).2.1 (hx.imp .inr id),(K2.p b d).2.2⟩,λb d=>K2.b b (d.imp .inr id),K2.o⟩,V,hb2,λb d=>O⟩ ?_
 rintro z w ⟨i,rfl,hi,Q,P,K,V,C,hQ⟩;refine cQ (λE=>?_) λad=>?_
 ·simp only at E;have hi':i<xs.length:=by omega
  have aa:xs[i]?=some xs[i]:=cU hi';generalize xs[i]=y at aa;have hy:=hx y (zG aa);refine(hs1 w K.e).np aa (G6 K.h y hy.1 λZ e1=>?_);have E:=GI hy.2;rw[E.2];have hP1:mB v.size _ Z (λb=>Q b/\b<w.size):=(mB.loc _ _).bO ((mB.loc _ _).cut V) e1;have ag:((List.range H.bX.length).map (ZE H.bX (xs.take i)))[(XN H.bX y).toNat]?=some (ZE H.bX (xs.take i) (XN H.bX y).toNat):=by
   simp only[za,nu E.1,zX]
  have hpl1:(ZE H.bX (xs.take i) (XN H.bX y).toNat).length<=1000000:=by
   have:=rZ (λx=>XN H.bX x==(((XN H.bX y).toNat:Nat):Int)) (xs.take i);simp only[ZE];rw[zZ]at this;omega
  refine hP1.add (hpl _) ag y hpl1 λw2 e2 ah=>?_;rw[NP hy.2]at ah;have ht:xs.take i++[y]=xs.take (i+1):=by rw[k9,aa];rfl
  rw[ht]at ah;have af:=e1.1;have hz2:=e2.1;refine cP (m:=i+1) O O ⟨⟨i+1,rfl,O,λb=>(Q b/\b<w.size)\/Z.size<=b/\b<w2.size,P,(K.fr e1).Ak (e2.sub λb d=>.inr d.1) λb d=>?_,(mB.loc _ _).mono ah λb d N=>?_,?_,λb d=>?_⟩,O⟩
  ·rcases d with d|d|d
   ·exact .inl (.inl d)
   ·exact .inl (.inr d.1)
   ·exact .inr d
  ·rcases N with N|N
   ·exact .inl N
   ·exact .inr ⟨N,d⟩
  ·exact e2.bT (e1.bT C id) λhx=>hQ _ hx.1 rfl
  ·have:=(K.b U.size (.inl rfl)).2;rcases d with d|d
   ·exact hQ b d.1
   ·omega
 ·have hii:i=xs.length:=by simp only at ad;omega
  subst hii;rw[mS]at V;obtain⟨A,hA⟩:∃A,H.bX[own]?=some A:=⟨_,cU ho⟩;obtain⟨Y,hY,_,_⟩:=h.ar hA;have D:Hx H own k xs=(if(ZE H.bX xs own).length=xs.length/\KQ A (k:Int) xs=true then H.cC own (QV A (k:Int) xs)
   else KN (if(ZE H.bX xs own).length=xs.length then H.cC own (QV A (k:Int) xs)else H) k (ZE H.bX xs) (List.range H.bX.length)):=by
   unfold Hx;rw[hA]
  have hown:((List.range H.bX.length).map (ZE H.bX xs))[own]?=some (ZE H.bX xs own):=by
   simp only[za,nu ho,zX]
  refine uO (λw=>¬((ZE H.bX xs own).length=xs.length/\KQ A (k:Int) xs=true)/\BE F U L (if(ZE H.bX xs own).length=xs.length then H.cC own (QV A (k:Int) xs)else H) v.size ((List.range H.bX.length).map (ZE H.bX xs)) [.int .i64 (k:Int),.slice sl.a sl.len sl.cap] w) (λw hw=>?_) λJ hJ=>?_
  ·obtain⟨hno,hw⟩:=hw;rw[zB hno]at D;generalize hH1:(if(ZE H.bX xs own).length=xs.length then H.cC own (QV A (k:Int) xs)else H)=H1 at hw D
   have hH1l:H1.bX.length=H.bX.length:=by
    rw[←hH1];split
    ·simp[Hw.cC]
    ·rfl
   refine ZX (a:=bN) (λ(z:Int) w=>∃j:Nat,z=(j:Int)/\j<=H.bX.length/\BE F U L (KN H1 k (ZE H.bX xs) (List.range j)) v.size ((List.range H.bX.length).map (ZE H.bX xs)) [.int .i64 (k:Int),.slice sl.a sl.len sl.cap] w) (λz _=>H.bX.length-z.toNat) ⟨0,rfl,O,hw⟩ ?_;rintro z w ⟨j,rfl,hj,Q,P,K,V,C,hQ⟩;refine cQ (λE=>?_) λad=>?_
   ·simp only at E;have hj':j<H.bX.length:=by omega
    have hpj:((List.range H.bX.length).map (ZE H.bX xs))[j]?=some (ZE H.bX xs j):=by
     simp only[za,nu hj',zX]
    refine V.get (hpl _) hpj λs M W=>?_;have hfl:=L7 (H:=H1) (k:=k) (part:=ZE H.bX xs) j;obtain⟨B,hB⟩:∃B,(KN H1 k (ZE H.bX xs) (List.range j)).bX[j]?=some B:=⟨_,cU O⟩;have G:=KZ (H:=H1) (k:=k) (part:=ZE H.bX xs) j;rw[hB]at G;simp only at G;refine cQ (λhpos=>?_) λhz0=>?_
    ·have S:ZE H.bX xs j≠[]:=λe=>by rw[e]at W;simp at W;omega
     rw[zB S]at G;obtain⟨Y,hY,_,_⟩:=K.h.ar hB;refine aG (K.h.hd.rS rfl (K.h.rA hY (C.rI rfl ?_)));refine OY K.h hB hY (k:Int) (dI.gF M) (λb _ N hp=>(K.p b hp).2.1 (.inr N)) (λx ae=>(hx x (zI.1 ae).1).1) ?_ (dI.cap M) λZ e1 g=>?_
     ·have:=rZ (λx=>XN H.bX x==(j:Int)) xs;simp only[ZE];omega
     ·have af:=e1.1;rw[←G]at g;refine cP (m:=j+1) O O ⟨⟨j+1,rfl,O,Q,_,K.to e1 g λb _ d=>d,(mB.loc _ _).bS V e1 λb _ N hp=>(K.p b hp).2.1 (.inr N),K.cT e1 C (.inl rfl),hQ⟩,O⟩
    ·have S:ZE H.bX xs j=[]:=A0 O;rw[zC S]at G;refine cP (m:=j+1) O O ⟨⟨j+1,rfl,O,Q,P,by rw[G];exact K,V,C,hQ⟩,O⟩
   ·have hjj:j=H.bX.length:=by simp only at ad;omega
    subst hjj;rw[D]at hR;exact hR w K.e (K.fin h)
  ·refine V.get (hpl _) hown λs M W=>C.rS rfl ?_;refine cO (λheq=>?_) λS=>?_
   ·have ac:(ZE H.bX xs own).length=xs.length:=by simp only[zT]at heq;omega
    rw[zC ac]at D hJ;have hS:m5 (λu=>(∃P' H',HH u P' L H'/\H'.tb=H.tb)/\bY u U.size [.int .i64 (k:Int),.slice sl.a sl.len sl.cap]) L H.tb:=λm hm=>by
     obtain⟨⟨P',H',g,h2⟩,_⟩:=hm;exact⟨P',L.ts,H',g,h2⟩
    refine⟨λu=>(∃P' H',HH u P' L H'/\H'.tb=H.tb)/\bY u U.size [.int .i64 (k:Int),.slice sl.a sl.len sl.cap],⟨⟨_,_,K.h,rfl⟩,C⟩,aG (hS.fM (hS.rA K.h hY ?_))⟩;refine⟨(k:Int),λm hm=>by rw[add_lit,hm.2.cell];rfl,⟨sl,λm hm=>by rw[add_lit,hm.2.cell];rfl,?_⟩⟩;refine LI K.h hA hY (k:Int) (hs1 w K.e) (λx ae=>(hx x ae).1) λZ e1 g=>?_;have K1:=K.to e1 g λb _ d=>d;refine⟨⟨⟨_,_,g,rfl⟩,K.cT e1 C (.inl rfl)⟩,?_⟩;have fin:∀r,r=KQ A (k:Int) xs->((r=true->R Z)/\(r=false->J Z)):=λr hr=>by
     refine⟨λhr1=>?_,λhr1=>hJ Z ⟨λhx=>Bool.noConfusion ((hr1.symm.trans hr).trans hx.2),Q,_,K1,(mB.loc _ _).bS V e1 λb _ N hp=>(K.p b hp).2.1 (.inr N),K.cT e1 C (.inl rfl),hQ⟩⟩;rw[zC ⟨ac,by rw[←hr,hr1]⟩]at D;rw[D]at hR;exact hR Z K1.e (K1.fin h)
    refine QZ (λr w=>w=Z/\r=KQ A (k:Int) xs) (λr w' ⟨hw,hr⟩=>?_) λJ3 hJ3=>?_
    ·subst hw;exact cO (λg=>(fin r hr).1 g) λg=>(fin r hr).2 g
    ·refine cO (λg=>hJ3 _ _ ⟨rfl,?_⟩) λg=>hJ3 _ _ ⟨rfl,g.symm⟩;have:U6 A (k:Int) xs=0:=by
      unfold KQ at g;simp only[zF,zU]at g;exact g.1
     rw[this,g];rfl
   ·have ab:¬(ZE H.bX xs own).length=xs.length:=by
     simp only[ma]at S;omega
    rw[zB ab]at hJ;exact hJ w ⟨λhx=>ab hx.1,Q,P,K,V,C,hQ⟩
theorem gH {w:Hp}(K:HK F U B w P L H)(hB:B n){p q:Int}(hb:bY w n [.int .i64 p,.int .i64 q]){x y:Int}{K':Int->Int->Hp->Prop}(hK:∀w',HK F U B w' P L H->K' x y w') :
 dS (Addr.add ⟨n,0,none⟩ 0) (.int .i64 x) w λv3=>dS (Addr.add ⟨n,0,none⟩ 1) (.int .i64 y) v3 λv4=>gA .i64 (Addr.add ⟨n,0,none⟩ 0) v4 λres=>gA .i64 (Addr.add ⟨n,0,none⟩ 1) v4 λoZ=>K' res oZ v4:=
 hb.s1 aA λv3 o3 a=>a.s1 aA λv4 o4 b4=>b4.rI rfl (b4.rI rfl (hK v4 ((K.own o3 hB).own o4 hB)))
theorem SC (h:HH U F L H)(ht:t<H.bQ.length)(x:Int)(hx:iE x)(hr:bW H.live x=none->∀A∈H.bX,iG A)(hlen:∀g,H.bQ[t]?=some g->g.bP.length<=1000)(h0:∀b,bW H.live x=some b->0<=x){R:Value->Int->Int->Hp->Prop}
 (hR:∀σ' ts',Ext F U σ'->HH σ' (Grow F U) {L with ts:=ts'} (UK H t x).1->R (mP (UK H t x).2.1) (UK H t x).2.2.1 (UK H t x).2.2.2 σ'):Zn.c (aW L.p) (t:Int) x U R:=by
 refine Zn.o ?_;unfold Zn.v;refine nw (cs:=[.int .i64 0,.int .i64 0]) λv hz e hb=>?_;have K1:=(HK.start h).box e hz;refine aG (K1.h.hd.rM rfl ⟨_,K1.h.mU,?_⟩);refine nw (cs:=[.int .i64 0,.int .i64 0,.int .i64 0,.int .i64 0]) λv1 hz1 e1 hb1=>?_;have K2:=K1.box e1 hz1;have hbv:=e1.bT hb id;have m:U.size≠v.size:=by omega
 refine hb1.s1 aA λv2 o2 b2=>b2.s1 aA λv3 o3 b3=>b3.s1 aA λv4 o4 b4=>b4.s1 aA λv5 o5 b5=>?_;have K5:=(((K2.own o2 (.inr rfl)).own o3 (.inr rfl)).own o4 (.inr rfl)).own o5 (.inr rfl);have z:=Ws o5 (Ws o4 (Ws o3 (Ws o2 hbv m) m) m) m;have hL:L = {L with ts:=L.ts}:=rfl;cases hm:bW H.live x with
 | none=>
  have hno:UK H t x=(H,none,0,lB H x):=by unfold UK;rw[hm]
  rw[hno]at hR;simp only at hR;refine cE rfl ?_;refine uO (λw=>lB H x=8/\bK v5 w) (λw ⟨h8,ew⟩=>?_) λJ X=>?_
  ·rw[h8]at hR;exact gH (n:=U.size) (K5.fr ew) (.inl (.inr rfl)) (ew.bT z id) λC K'=>hR C L.ts K'.e (K'.fin h)
  ·refine G6 K5.h x hx λv9 e9=>?_;have K9:=K5.fr e9;have hb9:=e9.bT z id;refine cQ (λP=>?_) λhlt=>X v9 ⟨zB O,e9⟩;have hol:=GI P;obtain⟨A,hA⟩:∃A,H.bX[(XN H.bX x).toNat]?=some A:=⟨_,cU hol.1⟩;obtain⟨Y,hY,_,hAY⟩:=K9.h.ar hA;have a:lB H x=(match UC A x with
    | some (k,y)=>if 0<=k/\(y:Int)=x then(9:Int)else 8
    | none=>8):=by unfold lB;rw[zC P,hA];rfl
   rw[hol.2];refine aG (K9.h.hd.rS rfl (K9.h.rA hY ?_));refine R3 hAY (hr hm A (zG hA)) x hx (λD k y i hf=>?_) λD i hf=>?_
   ·rw[hf]at a;simp only at a;rw[a]at hR X;have K10:=K9.fr i;have N:=i.bT hb9 id;refine QZ (λr w=>w=D/\r=decide (0<=k)) (λr w ⟨K,d⟩=>?_) λJ1 B=>?_
    ·subst K;subst d;refine QZ (λr w2=>w2=w/\r=decide (0<=k/\(y:Int)=x)) (λr w2 ⟨K,d⟩=>?_) λJ2 Q=>?_
     ·subst d;rw[K];refine cQ (λE=>?_) λE=>?_
      ·rw[zC E]at hR;exact gH (n:=U.size) K10 (.inl (.inr rfl)) N λC K'=>hR C L.ts K'.e (K'.fin h)
      ·exact X w ⟨zB E,e9.trans i⟩
     ·refine cQ (λE=>Q _ _ ⟨rfl,?_⟩) λE=>Q _ _ ⟨rfl,?_⟩
      ·by_cases hyx:(y:Int)=x
       ·rw[zJ (⟨E,hyx⟩:0<=k/\(y:Int)=x),zT.2 hyx]
       ·rw[zK (λhx=>hyx hx.2),ma.2 hyx]
      ·rw[zK (λhx=>E hx.1)]
    ·exact cE rfl (B _ _ ⟨rfl,rfl⟩)
   ·rw[hf]at a;simp only at a;rw[a]at X;refine QZ (λr w=>w=D/\r=false) (λr w ⟨K,d⟩=>?_) λJ1 B=>cB rfl (B _ _ ⟨rfl,rfl⟩);subst K;subst d;exact bV.intro (cB rfl (cB rfl (X w ⟨rfl,e9.trans i⟩)))
 | some b=>
  have hb0:=h0 b hm;have hfd:UK H t x=(if b.2.2.1<0 then({H with live:=cS H.live x},some (.dC (x/256) b.2.2.2),0,0)
   else(QD {H with live:=cS H.live x} t b.2.2.1.toNat [x],some (.put b.2.2.1.toNat x),0,0)):=by unfold UK;rw[hm]
  rw[hfd]at hR;have hgb:(bW H.live x).getD ((0,0,0,0):Bk)=b:=by rw[hm];rfl
  rw[hgb]at b5;refine cB rfl ?_;refine aG (K5.h.hd.rM rfl ?_);obtain⟨hF,S⟩:=K5.h.rJ;refine⟨_,K5.h.mU,λv6 o6 _ hm6=>?_⟩;obtain⟨e6,h6⟩:=S v6 _ (o6 _ rfl) hm6;have K6:=K5.to e6 h6 λb _ hb=>.inl hb;have W:=K5.cT e6 z (.inl (.inr rfl));have s:=K5.cT e6 b5 (.inr rfl);refine s.rI rfl (cQ (λM=>?_) λhnn=>?_)
  ·have G:b.2.2.1<0:=M;rw[zC G]at hR;refine nz aB (ar (by rw[XO O];omega) (by rw[XO O];unfold iE at hx;omega) (s.rI rfl ?_));rw[XO O];exact gH (n:=U.size) K6 (.inl (.inr rfl)) W λC K'=>hR C L.ts K'.e (K'.fin h)
  ·have aa:¬b.2.2.1<0:=hnn;rw[zB aa]at hR;refine s.rI rfl (nw (cs:=[.int .i64 x]) λv7 hz7 e7 hb7=>?_);have K7:=K6.box e7 hz7;have V:=e7.bT W id;have hc7:=e7.bT s id;have Z:b.2.2.1=((b.2.2.1.toNat:Nat):Int):=by omega
   have hs7:cW ⟨some ⟨v6.size,0,none⟩,1,1⟩ 1 (Wo [x]) v7 (· = v6.size):=hb7.gF (o:=0) rfl rfl λj hj=>by rw[zH];rfl
   have hz6:=K6.e.1;rw[Z];refine Gb K7.h (t:=t) ht b.2.2.1.toNat hs7 (zD _) aA (λq _ u hp=>(K7.p q hp).2.1 (.inr u)) (K7.o.1.sub λq u=>O) (λu=>K7.o.2 O) hlen λv8 ts8 e8 h8=>?_;have K8:=(K6.fr e7).tn e8 h8 λq hql u=>by
    rcases u with u|u
    ·exact u.imp id .inl
    ·refine .inr (.inr ⟨.inr O,λhB=>?_⟩);have:=(K6.b q hB).2;omega
   have hb8:=K7.cT e8 V (.inl (.inl (.inr rfl)));have hc8:=K7.cT e8 hc7 (.inl (.inr rfl));refine hc8.rI (x:=((b.2.2.1.toNat:Nat):Int)) (by rw[←Z];rfl) ?_;exact gH (n:=U.size) K8 (.inl (.inr rfl)) hb8 λC K'=>hR C ts8 K'.e (K'.fin h)
end Go.Ar
namespace Go.Ar
open Go Go.Vc Go.Proofs
variable {U u u':Hp}{F B P Q:Rg}{L:dJ}{H H':Hw}{t k n pb:Nat}{A:AR}{Y:Lay}{x:eH}{g:Th}{c:bZ}{l:Li}{cs:List Value}
theorem rj {t' t:TypeId}{w:Value}{A B:Prop}(hne:t'≠t)(h:B):∃is:Bool,j5 (.iface t' w) t [] [] is/\If is A B:=⟨false,⟨rfl,.inr ⟨_,_,rfl,hne⟩⟩,cB rfl h⟩
theorem kL {t' t:TypeId}{w:Value}{A B:Int->Prop}(hne:t'≠t)(h:B 0):∃x:Int,∃is:Bool,j5 (.iface t' w) t [.int .i64 x] [.int .i64 0] is/\If is (A x) (B x):=⟨0,false,⟨rfl,.inr ⟨_,_,rfl,hne⟩⟩,cB rfl h⟩
theorem jb {t' t:TypeId}{w:Value}{A B:Int->Int->Prop}(hne:t'≠t)(h:B 0 0):∃x:Int,∃y:Int,∃is:Bool,j5 (.iface t' w) t [.int .i64 x,.int .i64 y] [.int .i64 0,.int .i64 0] is/\If is (A x y) (B x y):=⟨0,0,false,⟨rfl,.inr ⟨_,_,rfl,hne⟩⟩,cB rfl h⟩
theorem BY {t:TypeId}{A B:Prop}(h:A):∃is:Bool,j5 (.iface t (.agg #[])) t [] [] is/\If is A B:=⟨true,rfl,cE rfl h⟩
theorem B4 {t:TypeId}{a:Int}{A B:Int->Prop}(h:A a):∃x:Int,∃is:Bool,j5 (.iface t (.agg #[.int .i64 a])) t [.int .i64 x] [.int .i64 0] is/\If is (A x) (B x):=⟨a,true,rfl,cE rfl h⟩
theorem uU {t:TypeId}{a b:Int}{A B:Int->Int->Prop}(h:A a b):∃x:Int,∃y:Int,∃is:Bool,j5 (.iface t (.agg #[.int .i64 a,.int .i64 b])) t [.int .i64 x,.int .i64 y] [.int .i64 0,.int .i64 0] is/\If is (A x y) (B x y):=⟨a,b,true,rfl,cE rfl h⟩
theorem HH.tc (h:HH u P L H)(hx:L.ts[t]?=some x)(hg:H.bQ[t]?=some g){b o:Nat}(ha:L.cN.a=some ⟨b,o,none⟩){d:Nat}(hd:d<3){v:Value}(hv:(jt (x,g))[d]?=some v):cell u (Addr.add ⟨b,o+3*t,none⟩ d)=some v:=by
 obtain⟨j,m,e,i⟩:=GX h.mV hx hg hd hv;rw[ha]at e;cases e;rw[add_lit,show o+3*t+d=o+(3*t+d) by omega];exact i
theorem HH.vC (h:HH u P L H)(hP:∀b,P b->b<u.size)(hx:L.ts[t]?=some x)(hg:H.bQ[t]?=some g)(N:Rg)(hN:∀b,b<u.size->P b->¬N b)(oN:iV N)(oN2:¬N 1) :
 ∃G D:Rg,(∀b,G b->P b)/\(∀b,D b->P b)/\(∀b,G b->¬D b)/\iw x.h g.bP u G/\(∀u1,Ext G u u1->cW L.cN 3 (gR L.ts H.bQ) u1 D) ∧
 ∀(u1:Hp) (s:Sl) (bs:List Bt) (G':Rg),Ext G u u1->(∀b,G' b->G b\/N b)->iw s bs u1 G'->∀{b o:Nat} (ha:L.cN.a=some ⟨b,o,none⟩) {K:aP},
  (∀u2,Ext D u1 u2->HH u2 (λb=>P b/\¬G b\/G' b/\b<u1.size) {L with ts:=L.ts.set t {x with h:=s}} {H with bQ:=H.bQ.set t {g with bP:=bs}}->K u2) →
  dS (Addr.add ⟨b,o+3*t,none⟩ 1) (.slice s.a s.len s.cap) u1 K:=by
 have W:=h.lN;have R:=HL h.s.ts;have Q:=(cV.1 hg).1;obtain⟨G,D,z,y,hd,M,E,_,p⟩:=h.qQ hx hg N hN oN oN2;have r:∀u1,Ext G u u1->bR L.cN 3 (gR L.ts H.bQ) u1 D:=λu1 e=>aI.bS E e λb _ d hx=>hd b hx d;refine⟨G,D,z,y,hd,M,λu1 e=>bR.gF (r u1 e),λu1 s bs G' e i A b o ha K F=>?_⟩;have U:o=0:=by
  rcases E.2 with⟨h0,_⟩|⟨J,_,_,ha',_⟩
  ·omega
  ·rw[ha]at ha';cases ha';rfl
 subst U;have m:∀b,G' b->¬D b:=λb d hx=>by
  rcases i b d with h1|h1
  ·exact hd b h1 hx
  ·exact hN b (hP b (y b hx)) (y b hx) h1
 refine(r u1 e).st (j:=3*t+1) O (λJ w=>by rw[ha]at w;cases w;rw[add_lit];congr 1;omega) λu2 e2 B=>?_;have C:=(iw.loc _ _).bS ((iw.loc _ _).cut A) e2 λb _ d hx=>m b d.1 hx;obtain⟨V,S⟩:=p u2 s bs (Cut G' u1) D ((e.sub λb d=>.inl d).trans (e2.sub λb d=>.inr d)) (λb d=>(i b d.1).imp .inl id) (λb d=>.inl (.inr d)) (λb d=>m b d.1) C B;refine F u2 e2 (S.mono (λb _ d=>?_) (λb (d:P b/\¬G b\/G' b/\b<u1.size)=>?_) λ(d:P _/\¬G _\/G' _/\_<u1.size)=>?_)
 ·rcases d with d|d|d
  ·exact .inl ⟨d.1,λhx=>d.2.2 (.inl hx)⟩
  ·exact .inr d
  ·exact .inl ⟨y b d,λhx=>hd b hx d⟩
 ·rcases d with d|d
  ·exact h.o b d.1
  ·exact(i b d.1).elim (λhx=>h.o b (z b hx)) (oN b)
 ·rcases d with d|d
  ·exact h.o2 d.1
  ·exact(i _ d.1).elim (λhx=>h.o2 (z _ hx)) oN2
theorem iw.my {s:Sl}{G:Rg}{xs:List Int}{r:List Bt}(h:iw s ((k,xs)::r) u G):∃(so:Sl) (ps:List (Nat×Sl)) (D:Rg),dI s 2 (fD ((k,so)::ps)) u (λb=>G b/\¬D b)/\cW so 1 (Wo xs) u (λb=>D b/\kD so b)/\so.len<=so.cap/\ku ps r u (λb=>D b/\¬kD so b)/\(∀b,D b->G b)/\uN ps/\(∀x∈r,x.2≠[])/\xs≠[]:=by
 obtain⟨ps,D,g,j,L,C,e⟩:=h;cases ps with
 | nil=>have:=j.1;simp at this
 | cons p ps=>
  obtain⟨E,so⟩:=p;obtain⟨e1,y,w⟩:=j.2 0 (E,so) (k,xs) rfl rfl;simp only at e1 y w;subst e1;have d:=rH.1 C;refine⟨so,ps,D,g,y.lx,w,⟨by have:=j.1;simpa using this,λi p x z m=>?_⟩,L,d.2,λx m=>e x (nB _ m),e _ pw⟩;obtain⟨B,H,M⟩:=j.2 (i+1) p x (by simpa using z) (by simpa using m);refine⟨B,aH.mono H.lx λb _ A=>⟨A.1,?_⟩,M⟩;rintro⟨a,h1,h2⟩;obtain⟨J,K,F⟩:=A.2;exact d.1 p (zG z) a J h1 K (h2.trans F.symm)
theorem iw.lj {s:Sl}{G:Rg}{b:Bt}{r:List Bt}(h:iw s (b::r) u G):iw ⟨if s.cap=1 then s.a else s.a.map (·.add (1*2)),s.len-1,s.cap-1⟩ r u G:=by
 have p:=h.len;obtain⟨k,z⟩:=b;obtain⟨B,m,D,d,y,x,j,w,i,e,A⟩:=h.my;exact⟨m,D,d.from (lo:=1) (by simp at p;omega),(ku.loc _ _).mono j λb _ g=>g.1,w,i,e⟩
theorem Ez {s so:Sl}{ps:List (Nat×Sl)}{G:Rg}(h:cW s 2 (fD ((k,so)::ps)) u G){K:Addr->Prop}(hK:∀a,cell u (Addr.add a 0)=some (.int .i64 (k:Int))->cell u (Addr.add a 1)=some (.slice so.a so.len so.cap)->K a):Ix s.a s.len 0 2 K:=by
 obtain⟨b,o,i,m⟩:=h.cell (j:=0) (v:=.int .i64 (k:Int)) rfl;obtain⟨p,r,d,e⟩:=h.cell (j:=1) (v:=.slice so.a so.len so.cap) rfl;have g:=h.1;rw[Kx]at g;simp only[zY]at g;rw[i]at d;cases d;rw[i];refine ix O O ?_;rw[add_lit];exact hK _ (by rw[add_lit];exact m) (by rw[add_lit];exact e)
theorem iw.app {s s2:Sl}{G Q:Rg}{bs bs2:List Bt}{e:Nat}(h:iw s bs u G)(h2:iw s2 bs2 u Q)(hd:∀b,G b->¬Q b)(hl:bs.length+bs2.length<=1000){K:Sl->Hp->Prop}
 (hK:∀s' u',Ext G u u'->iw s' (bs++bs2) u' (λb=>G b\/Q b\/u.size<=b)->K s' u'):App s 2 32 e [.int .i64 0,.slice none 0 0] s2 u K:=by
 have l1:=h.len;have l2:=h2.len;obtain⟨P,D,y,H,U,F,A⟩:=h;obtain⟨J,D2,z,m,r,X,w⟩:=h2;by_cases h0:s2.len=0
 ·have N:bs2=[]:=A0 O;subst N;refine y.sK h0 (by
   have:s.len*32<=1000*32:=lW (by simp at hl;omega) O;omega) (by simp at hl;omega) λV=>hK _ u (Ext.refl _ _) ?_
  rw[kV];exact⟨P,D,(dI.loc _ _ _).mono V λb _ d=>⟨.inl d.1,d.2⟩,H,λb d=>.inl (U b d),F,A⟩
 ·have e1:(s.len+s2.len)*32<=1000*32:=lW O O;refine((dI.loc _ _ _).cut y).app (ys:=fD J) rfl (by rw[Kx];have:=m.1;omega) z.gF.rd UU O O O λs' u' _ L V=>hK s' u' (L.sub λb d=>d.1.1) ?_;have hz:=L.1;have Y:=H.1;refine⟨P++J,λb=>D b/\b<u.size\/D2 b/\b<u.size,?_,⟨by simp[H.1,m.1],λi p x C g=>?_⟩,λb d=>?_,pK.2 ⟨F,X,λp C q hq a a' W Z e3=>?_⟩,λx g=>(zL.1 g).elim (A x) (w x)⟩
  ·rw[UN];refine(dI.loc _ _ _).mono V λb _ d=>?_;rcases d with d|d
   ·exact⟨.inl d.1.1,λg=>g.elim (λg=>d.1.2 g.1) λg=>hd b d.1.1 (r b g.1)⟩
   ·exact⟨.inr (.inr d),λg=>by rcases g with g|g<;>omega⟩
  ·rcases kc i P.length with B|B
   ·rw[ze B]at C;rw[ze O]at g;obtain⟨M,R,S⟩:=H.2 i p x C g;exact⟨M,aH.mono (aH.bS (aH.cut R) L λb _ d g=>g.1.2 d.1) λb _ d=>.inl d,S⟩
   ·rw[zp B]at C;rw[zp O,←Y]at g;obtain⟨M,R,S⟩:=m.2 _ p x C g;exact⟨M,aH.mono (aH.bS (aH.cut R) L λb _ d g=>hd b g.1.1 (r b d.1)) λb _ d=>.inr d,S⟩
  ·rcases d with d|d
   ·exact .inl (U b d.1)
   ·exact .inr (.inl (r b d.1))
  ·obtain⟨i,B⟩:=zQ C;obtain⟨j,F⟩:=zQ hq;have hil:=(cV.1 B).1;have hjl:=(cV.1 F).1;have hy:bs[i]?=some (bs[i]' O):=cU _;have E:bs2[j]?=some (bs2[j]'(by have:=m.1;omega)):=cU _;have b1:=(H.2 i p _ B hy).2.1.bT (by simpa[Wo]using A _ (zG hy)) ⟨a,W,rfl⟩;have b2:=(m.2 j q _ F E).2.1.bT (by simpa[Wo]using w _ (zG E)) ⟨a',Z,rfl⟩;rw[e3]at b1;exact hd _ (U _ b1.1) (r _ b2.1)
theorem HK.wV (K:HK F U B u P L H){B':Rg}(h1:∀b,B' b->U.size<=b/\b<u.size/\¬P b):HK F U (λb=>B b\/B' b) u P L H:=
 ⟨K.h,K.e,λb a=>⟨(K.p b a).1,λg=>g.elim (K.p b a).2.1 λd=>(h1 b d).2.2 a,(K.p b a).2.2⟩,λb a=>a.elim (K.b b) λd=>⟨(h1 b d).1,(h1 b d).2.1⟩,K.o⟩
theorem Zs (hg:H.bQ[t]?=some g)(f:Th->Th):H.dV t f = {H with bQ:=H.bQ.set t (f g)}:=by
 unfold Hw.dV;rw[KK hg]
theorem HY (hg:H.bQ[t]?=some g):H.jT t=g:=by unfold Hw.jT;rw[zP,hg];rfl
theorem VW (hc:H.tb[k]?=some c):H.cls k=c:=by unfold Hw.cls;rw[zP,hc];rfl
theorem yq (hl:g.ls[k]?=some l):g.li k=l:=by unfold Th.li;rw[zP,hl];rfl
theorem Bb (ha:H.bX[H.own t]?=some A):H.dZ t=A:=by unfold Hw.dZ;rw[zP,ha];rfl
theorem jL (h:HS L H)(t:Nat):H.own t<H.bX.length:=tW _ (by have:=h.a1;omega)
theorem HH.Bf (h:HH u P L H)(hx:L.ts[t]?=some x)(hg:H.bQ[t]?=some g):g.ls.length=H.tb.length:=by
 obtain⟨G,_,a,_⟩:=h.oH hx hg;exact a.len
theorem Dt (ha:H.bX[k]?=some A):H.cC k A=H:=by unfold Hw.cC;rw[Z8 ha]
theorem Lz (l:List Nat):ints l=Wo (l.map λ(x:Nat)=>(x:Int)):=by simp[ints,Wo]
theorem Cb (f:bZ->Li->List Int×Li)(tb:List bZ)(ls:List Li):(Q0 f tb ls).length<=tb.length:=by
 unfold Q0;exact zh (List.length_filterMap_le _ _) aA
theorem HH.qg (h:HH u P L H):H.tb.length<=40:=by
 obtain⟨x,g,b,d⟩:=h.th (t:=0) h.s.t1;obtain⟨G,_,a,_⟩:=h.oH b d;exact a.nv
theorem LC {s:Sl}{b o:Nat}(ha:s.a=some ⟨b,o,none⟩)(hl:0<s.len){K:Addr->Prop}(hK:K ⟨b,o+0,none⟩):Ix s.a s.len 0 1 K:=by
 rw[ha];exact ix (sM _) O (by rw[add_lit];exact hK)
theorem Nr {s:Sl}{ps:List (Nat×Sl)}{G:Rg}(h:cW s 2 (fD ps) U G)(hl:s.len<=1000000){R:Sl->Hp->Prop}(hR:∀s' σ',s'.len=s.len->bK U σ'->bR s' 2 (fD ps) σ' (λb=>U.size<=b)->R s' σ'):Wq.c s U R:=by
 refine Wq.o ?_;unfold Wq.v;exact FO h O rfl UU O hl hR
def uw (H:Hw)(t:Nat):Ph->Prop
 | .take k=>k<H.tb.length/\∀y l,QY (H.cls k) ((H.jT t).li k)=(some y,l)->iE y
 | .cH k _=>k<H.tb.length/\(ZY (H.dZ t) (k:Int)=0->Yp (H.dZ t) (k:Int)≠[])
 | .cJ _ _=>True
 | .grow _ _=>True
 | .fill=>∃k x xs r,(H.jT t).bP=(k,x::xs)::r/\k<H.tb.length/\iE x/\((H.jT t).li k).os.length+xs.length<=256
 | .eD m=>ZW (H.dZ t) H.sp (m:Int) 1<=1000000
 | .find x=>iE x/\(bW H.live x=none->∀A∈H.bX,iG A)/\∀b,bW H.live x=some b->0<=x
 | .put k _=>k<H.tb.length/\(H.jT t).bP≠[]
 | .back=>∃k xs r,(H.jT t).bP=(k,xs)::r/\(∀x∈xs,iE x/\0<=XN H.bX x)/\xs.length<=1000000
 | .dC _ a=>0<=a/\a.toNat<H.bX.length/\∀A∈H.bX,∀r∈A.runs,r.1<=1000000
 | .drain=>True
def Iq (U:Hp)(F:Rg)(L:dJ)(o:sO)(R:Value->Int->Int->Hp->Prop):Prop:=∀σ' ts',Ext F U σ'->HH σ' (Grow F U) {L with ts:=ts'} o.1->R (mP o.2.1) o.2.2.1 o.2.2.2 σ'
set_option maxRecDepth 8000 in
theorem Nt (hso:H8)(h:HH U F L H)(ht:t<H.bQ.length)(p:Ph)(hp:uw H t p)(hlen:∀g,H.bQ[t]?=some g->g.bP.length<=900){R:Value->Int->Int->Hp->Prop}(hR:Iq U F L (Wt H t p) R) :
 Zk.c (aW L.p) (t:Int) (mP (some p)) U R:=by
 refine Zk.o ?_;unfold Zk.v;have hlen':∀g,H.bQ[t]?=some g->g.bP.length<=1000:=λg hg=>by have:=hlen g hg;omega
 refine nw (cs:=[.int .i64 0,.int .i64 0]) λv hz e i=>?_;have K1:=(HK.start h).box e hz;obtain⟨x,g,E,hg⟩:=h.th ht;have hlen:=hlen g hg;have htg:=HY hg;have hol:=jL h.s t;obtain⟨A,hA⟩:∃A,H.bX[H.own t]?=some A:=⟨_,cU hol⟩;have hAe:=Bb hA;obtain⟨Y,hY,_,_⟩:=h.ar hA;refine aG (K1.h.hd.rS rfl ?_);refine AO K1.h.mV K1.h.s.ts E hg (d:=0) O rfl λtb0 to0 ha _=>?_;have hS1:m5 (λu=>u=v) L H.tb:=λm hm=>by cases hm;exact⟨_,L.ts,H,K1.h,rfl⟩
 refine⟨λu=>u=v,rfl,aG (hS1.fM (D3 K1.h t ⟨rfl,K1.h.rA hY ⟨rfl,?_⟩⟩))⟩;refine uO (λw=>∃P ts',HK F U (λb=>False\/b=U.size) w P {L with ts:=ts'} (Wt H t p).1/\bY w U.size [.int .i64 0,.int .i64 0]/\(Wt H t p).2=(none,0,0)) (λw ⟨P,ts',K,hbw,W⟩=>?_) λJ hJ=>?_
 ·refine gH (n:=U.size) K (.inr rfl) hbw λw' K'=>?_;have:=hR w' ts' K'.e (K'.fin h);rw[W]at this;exact this
 cases p with
 | take k=>
  obtain⟨hk,hy9⟩:k<H.tb.length/\∀y l,QY (H.cls k) ((H.jT t).li k)=(some y,l)->iE y:=hp;obtain⟨c,hc⟩:∃c,H.tb[k]?=some c:=⟨_,cU hk⟩;have hll:=h.Bf E hg;obtain⟨l,hl⟩:∃l,g.ls[k]?=some l:=⟨_,cU (by rw[hll];exact hk)⟩;have hce:=VW hc;have hle:=yq hl;rw[hce,htg,hle]at hy9;refine B4 (nw (cs:=[.int .i64 0]) λv5 M X N=>?_);have K5:=K1.box X M;refine N.s0 aA λv6 o6 hb6=>?_;have K6:=K5.own o6 (.inr rfl);have C:=Ws o6 (X.bT i id) O;refine⟨λu=>u=v6,rfl,aG ⟨some ⟨x.c.p,0,none⟩,λu V=>by cases V;exact K6.h.tc E hg ha O rfl,⟨(k:Int),λu V=>by cases V;rw[add_lit,hb6.cell];rfl,?_⟩⟩⟩;refine NA K6.h E hg hc hl λv7 ts7 Z h7=>?_;have K7:=K6.to Z h7 λb _ i=>i;have hb7:=K6.cT Z hb6 (.inr rfl);have B:=K6.cT Z C (.inl (.inr rfl));cases htk:QY c l with
  | mk o l'=>
  rw[htk]at h7 K7;cases o with
  | some y=>
   have W:Wt H t (.take k)=(Vp (H.dR t g (g.ls.set k l')) y (c.size:Int) (k:Int),none,y,0):=by
    simp only[Wt,hce,htg,hle,htk,Zs hg];rfl
   rw[W]at hR;have hS2:m5 (λu=>(∃P ts H',HH u P {L with ts:=ts} H'/\H'.tb=H.tb)/\bY u v.size [.int .i64 (k:Int)]) L H.tb:=λm hm=>hm.1;refine cE rfl ⟨λu=>(∃P ts H',HH u P {L with ts:=ts} H'/\H'.tb=H.tb)/\bY u v.size [.int .i64 (k:Int)],⟨⟨_,_,_,K7.h,rfl⟩,hb7⟩,aG (hS2.dD ⟨(k:Int),λu V=>by rw[add_lit,V.2.cell];rfl,?_⟩)⟩;refine m5.rC (L:={L with ts:=ts7}) (H:=H.dR t g (g.ls.set k l')) hS2 K7.h hc ⟨(k:Int),λu V=>by rw[add_lit,V.2.cell];rfl,?_⟩;refine Ba K7.h y (c.size:Int) (k:Int) (hy9 y l' htk) λv8 e8 h8=>?_;have K8:=K7.to e8 h8 λb _ i=>.inl i;refine⟨⟨⟨_,_,_,h8,rfl⟩,K7.cT e8 hb7 (.inr rfl)⟩,?_⟩;exact gH (n:=U.size) K8 (.inl (.inr rfl)) (K7.cT e8 B (.inl (.inr rfl))) λw' K'=>hR w' ts7 K'.e (K'.fin h)
  | none=>
   have W:Wt H t (.take k)=(H.dR t g (g.ls.set k l'),some (.cH k (GU c l')),0,0):=by
    simp only[Wt,hce,htg,hle,htk,Zs hg];rfl
   rw[W]at hR;have htlt:=(cV.1 hg).1;have hklt:=(cV.1 hl).1;have hg7:(H.dR t g (g.ls.set k l')).bQ[t]?=some {g with ls:=g.ls.set k l'}:=by simp[Hw.dR,htlt]
   obtain⟨x7,g7,hx7,_⟩:=K7.h.th (t:=t) (by simp[Hw.dR,htlt]);have hl7:({g with ls:=g.ls.set k l'}:Th).ls[k]?=some l':=by simp[hklt]
   refine cB rfl ⟨λu=>u=v7,rfl,aG ⟨some ⟨x7.c.p,0,none⟩,λu V=>by cases V;exact K7.h.tc hx7 hg7 ha O rfl,⟨(k:Int),λu V=>by cases V;rw[add_lit,hb7.cell];rfl,?_⟩⟩⟩;refine PX K7.h hx7 hg7 hc hl7 λv8 ts8 e8 h8=>?_;have K8:=K7.to e8 h8 λb _ i=>i;refine(K7.cT e8 hb7 (.inr rfl)).rI rfl ?_;exact gH (n:=U.size) K8 (.inl (.inr rfl)) (K7.cT e8 B (.inl (.inr rfl))) λw' K'=>hR w' ts8 K'.e (K'.fin h)
 | cH k w=>
  obtain⟨hk,hne0⟩:k<H.tb.length/\(ZY (H.dZ t) (k:Int)=0->Yp (H.dZ t) (k:Int)≠[]):=hp;rw[hAe]at hne0;obtain⟨c,hc⟩:∃c,H.tb[k]?=some c:=⟨_,cU hk⟩;have hce:=VW hc;refine kL aB (uU (nw (cs:=[.int .i64 0,.int .i64 0]) λv5 M X N=>?_));have K5:=K1.box X M;refine N.s1 aA λv5b o5 b5=>b5.s1 aA λv6 o6 b6=>?_;have K6:=(K5.own o5 (.inr rfl)).own o6 (.inr rfl);have S:U.size≠v.size:=by omega
  have C:=Ws o6 (Ws o5 (X.bT i id) S) S;refine uO (λu=>(∃P',HK F U (λb=>(False\/b=U.size)\/b=v.size) u P' L H)/\bY u U.size [.int .i64 0,.int .i64 0]/\bY u v.size [.int .i64 (k:Int),.int .i64 (w:Int)]/\Wt H t (.cH k w)=(H,some (.cJ k w),0,0)) (λu ⟨⟨P',K⟩,hbw,hbx,W⟩=>?_) λJ1 hJ1=>?_
  ·rw[W]at hR;exact hbx.rI rfl (hbx.rI rfl (gH (n:=U.size) K (.inl (.inr rfl)) hbw λw' K'=>hR w' L.ts K'.e (K'.fin h)))
  ·refine b6.rI rfl (aG (K6.h.hd.rS rfl (b6.rI rfl (sQ K6.h.jy hc (d:=2) O ?_))));simp only[zB (show ¬(2=0) by omega),zB (show ¬(2=1) by omega)];refine cO (λheq=>b6.rI rfl ?_) λhne'=>hJ1 v6 ⟨⟨_,K6⟩,C,b6,?_⟩
   ·have heq':w=c.batch:=by simp only[zT]at heq;omega
    refine H9 K6.h hA hY (k:Int) λs v7 Q Z hQ hs7 hcap h7=>?_;have K7:=K6.to Z h7 λb _ i=>i.1;have b7:=K6.cT Z b6 (.inr rfl);have B:=K6.cT Z C (.inl (.inr rfl));refine cO (λh0=>b7.rI rfl ?_) λhn0=>?_
    ·have h0':ZY A (k:Int)=0:=by simpa using h0
     have W:Wt H t (.cH k w)=(QD (H.cC (H.own t) (Zx A (k:Int))) t k (Yp A (k:Int)),some .fill,0,0):=by
      simp only[Wt,hce,hAe,heq',h0',zR]
     rw[W]at hR;refine Gb K7.h (t:=t) ht k hs7 hcap (hne0 h0') (λb _ z E=>E.1.2 z) (K6.h.o.sub hQ) (λz=>K6.h.o2 (hQ _ z)) hlen' λv8 ts8 e8 h8=>?_;have K8:=K7.tn e8 h8 λb i z=>by
      rcases z with z|z
      ·exact z.imp id .inl
      ·exact .inr (.inr ⟨(K6.p b (hQ b z)).1,(K6.p b (hQ b z)).2.1⟩)
     exact gH (n:=U.size) K8 (.inl (.inr rfl)) (K7.cT e8 B (.inl (.inr rfl))) λw' K'=>hR w' ts8 K'.e (K'.fin h)
    ·have hn0':ZY A (k:Int)≠0:=by simpa using hn0
     have hsame:Zx A (k:Int)=A:=by unfold Zx;rw[zB hn0']
     rw[hsame,Dt hA]at K7;refine hJ1 v7 ⟨⟨_,K7⟩,B,b7,?_⟩;simp only[Wt,hce,hAe,heq',zB hn0',zR]
   ·have hne2:w≠c.batch:=λe=>by rw[e]at hne';simp at hne'
    simp only[Wt,hce,zB hne2]
 | cJ k w=>
  refine kL aB (jb aB (uU (nw (cs:=[.int .i64 0,.int .i64 0]) λv5 M X N=>?_)));have K5:=K1.box X M;refine N.s1 aA λv5b o5 b5=>b5.s1 aA λv6 o6 b6=>?_;have K6:=(K5.own o5 (.inr rfl)).own o6 (.inr rfl);have S:U.size≠v.size:=by omega
  have C:=Ws o6 (Ws o5 (X.bT i id) S) S;refine b6.rI rfl (b6.rI rfl (RN K6.h hA hY (k:Int) (w:Int) λs v7 Q Z hQ hs7 h7=>?_));have K7:=K6.to Z h7 λb _ i=>i.1;have b7:=K6.cT Z b6 (.inr rfl);have B:=K6.cT Z C (.inl (.inr rfl));have hsl:s.len=(Ya A (k:Int) (w:Int)).length:=by have:=hs7.1;simp[ints]at this;omega
  by_cases hemp:Ya A (k:Int) (w:Int)=[]
  ·have W:Wt H t (.cJ k w)=(H.cC (H.own t) (Yr A (k:Int) (w:Int)),some (.grow k w),0,0):=by
    simp only[Wt,hAe,zC hemp]
   rw[W]at hR;refine fR (by rw[hsl,hemp];simp) (b7.rI rfl (b7.rI rfl ?_));exact gH (n:=U.size) K7 (.inl (.inr rfl)) B λw' K'=>hR w' L.ts K'.e (K'.fin h)
  ·have W:Wt H t (.cJ k w)=(QD (H.cC (H.own t) (Yr A (k:Int) (w:Int))) t k ((Ya A (k:Int) (w:Int)).map λ(x:Nat)=>(x:Int)),some .fill,0,0):=by
    simp only[Wt,hAe,zB hemp]
   rw[W]at hR;have hpos:=pC.2 hemp;refine lT (by rw[hsl];omega) (b7.rI rfl ?_);have hs7':=bR.gF hs7;rw[Lz]at hs7';have hz6:=K6.e.1;refine Gb K7.h (t:=t) ht k hs7' (bR.qm hs7) (by simpa using hemp) (λb _ z E=>E.1.2 z) (K6.o.1.sub λb i=>by have:=hQ b i;omega) (λz=>K6.o.2 (by have:=hQ _ z;omega)) hlen' λv8 ts8 e8 h8=>?_;have K8:=K7.tn e8 h8 λb i z=>by
    rcases z with z|z
    ·exact z.imp id .inl
    ·have:=hQ b z;exact .inr (.inr ⟨.inr O,λhB=>by have:=(K6.b b hB).2;omega⟩)
   exact gH (n:=U.size) K8 (.inl (.inr rfl)) (K7.cT e8 B (.inl (.inr rfl))) λw' K'=>hR w' ts8 K'.e (K'.fin h)
 | grow k w=>
  refine kL aB (jb aB (jb aB (uU (nw (cs:=[.int .i64 0,.int .i64 0]) λv5 M X N=>?_))));have K5:=K1.box X M;refine N.s1 aA λv5b o5 b5=>b5.s1 aA λv6 o6 b6=>?_;have K6:=(K5.own o5 (.inr rfl)).own o6 (.inr rfl);have S:U.size≠v.size:=by omega
  have C:=Ws o6 (Ws o5 (X.bT i id) S) S;refine b6.rI rfl (PB K6.h hA hY (k:Int) λv7 Z h7=>?_);have K7:=K6.to Z h7 λb _ i=>i;have b7:=K6.cT Z b6 (.inr rfl);have B:=K6.cT Z C (.inl (.inr rfl));refine cO (λhn0=>?_) λh0=>?_
  ·have hn0':KC A H.sp (k:Int)≠0:=by simpa using hn0
   have W:Wt H t (.grow k w)=({H.cC (H.own t) (cL A H.sp (k:Int)).1 with sp:=(cL A H.sp (k:Int)).2},none,0,KC A H.sp (k:Int)):=by
    simp only[Wt,hAe,zB hn0']
   rw[W]at hR;exact gH (n:=U.size) K7 (.inl (.inr rfl)) B λw' K'=>hR w' L.ts K'.e (K'.fin h)
  ·have h0':KC A H.sp (k:Int)=0:=by simpa using h0
   have W:Wt H t (.grow k w)=({H.cC (H.own t) (cL A H.sp (k:Int)).1 with sp:=(cL A H.sp (k:Int)).2},some (.cJ k w),0,0):=by
    simp only[Wt,hAe,zC h0']
   rw[W]at hR;refine b7.rI rfl (b7.rI rfl ?_);exact gH (n:=U.size) K7 (.inl (.inr rfl)) B λw' K'=>hR w' L.ts K'.e (K'.fin h)
 | fill=>
  obtain⟨k,y,ys,r,hh,hk,hy9,hfit⟩:∃k x xs r,(H.jT t).bP=(k,x::xs)::r/\k<H.tb.length/\iE x/\((H.jT t).li k).os.length+xs.length<=256:=hp;rw[htg]at hh hfit;obtain⟨c,hc⟩:∃c,H.tb[k]?=some c:=⟨_,cU hk⟩;have hll:=h.Bf E hg;obtain⟨l,hl⟩:∃l,g.ls[k]?=some l:=⟨_,cU (by rw[hll];exact hk)⟩;have hce:=VW hc;have hle:=yq hl;rw[hle]at hfit;refine kL aB (jb aB (jb aB (jb aB (BY (nw (cs:=[]) λv5 M X N=>?_)))));have K5:=K1.box X M;have hbv5:=X.bT i id;obtain⟨G,D,hG,hD,hd,aa,hr,hput⟩:=K5.h.vC (λb i=>(K5.p b i).2.2) E hg (λ_=>False) (λb _ _ z=>z) (K5.o.1.sub λb i=>i.elim) (λz=>z);rw[hh]at aa;obtain⟨so,ps,Dn,hrow,hso1,hcap,hBr,hDn,hj,S,hxne⟩:=aa.my;have hz5':=K5.e.1;have hsol:so.len=ys.length+1:=by have:=hso1.1;simp[Wo]at this;omega
  refine aG (nF (K5.h.tc E hg ha (d:=1) O rfl) (Ez (dI.gF hrow) λa ha0 ha1=>nQ ha0 (nF ha1 ?_)));refine nw (cs:=[.int .i64 0,.slice none 0 0]) λv43 hz43 e43 hb43=>hb43.s1 aA λv44 o44 b44=>b44.s1 aA λv45 o45 b45=>?_;have e45:bK v5 v45:=(e43.only o44 (.inr (zD _))).only o45 (.inr (zD _));have hz45:v5.size<v45.size:=b45.lt;refine aG (hput v45 ⟨none,0,0⟩ [] (λ_=>False) (bK.to e45) (λb i=>i.elim) (iw.nil _ _ _) ha λv46 e46 h46=>?_);have hz46:=e46.1;have e546:Ext _ v5 v46:=(bK.to e45).trans (e46.sub hD);have K46:=K5.to e546 h46 λb _ z=>by
   rcases z with z|z
   ·exact .inl z.1
   ·exact z.1.elim
  have hbv46:=K5.cT e546 hbv5 (.inl (.inr rfl));have b46:bY v46 v5.size _:=e46.bT b45 λE=>by have:=(K5.p _ (hD _ E)).2.2;omega
  have K46b:=K46.wV (B':=λb=>b=v5.size) λb i=>⟨O,O,λE=>by
   subst i;rcases E.1 with h1|h1
   ·have:=(K5.p _ h1.1).2.2;omega
   ·exact h1.1⟩
  have hso46:=aH.bS (aH.bO (aH.cut hso1) e45) e46 λb _ i E=>hd b (hDn b i.1.1) E;have hXn:∀b,(Dn b/\kD so b)/\b<v5.size->¬Cut (λb=>(Cut F U b/\¬G b)\/False/\b<v45.size) v46 b:=λb i E=>by
   rcases E.1 with h1|h1
   ·exact h1.2 (hDn b i.1.1)
   ·exact h1.1
  have hg46:({H with bQ:=H.bQ.set t {g with bP:=[]}}:Hw).bQ[t]?=some {g with bP:=[]}:=by simp[ht]
  have hx46:(L.ts.set t {x with h:=⟨none,0,0⟩})[t]?=some {x with h:=⟨none,0,0⟩}:=zM (cV.1 E).1;refine aG (tT (K46b.h.tc hx46 hg46 ha (d:=0) O rfl) (b46.rI rfl (b46.rS (a:=so.a) (n:=so.len) (c:=so.cap) rfl (iM (lo:=1) (by show 1<=so.len;omega) hcap (zD _) ?_))));have hsub:=cW.sub hso46 (lo:=1) (hi:=so.len) (mx:=so.cap) O (zD _) hcap;have hsx:((Wo (y::ys)).drop (1*1)).take ((so.len-1)*1)=Wo ys:=by
   rw[mQ (by simp[Wo];omega)];rfl
  rw[hsx]at hsub;have hl46:({g with bP:=[]}:Th).ls[k]?=some l:=hl;refine Oc K46b.h hx46 hg46 hc hl46 hsub hXn hfit λv47 ts47 e47 h47=>?_;have K47:=K46b.to e47 h47 λb _ i=>i;have hso47:=aH.bS hso46 e47 λb _ i E=>hXn b i E;have b47:=K46b.cT e47 b46 (.inr rfl);have hbv47:=K46b.cT e47 hbv46 (.inl (.inl (.inr rfl)));have W:Wt H t .fill=(Vp {H with bQ:=H.bQ.set t {g with ls:=g.ls.set k (eA ys.reverse l),bP:=[]}} y (c.size:Int) (k:Int),none,y,0):=by
   simp only[Wt,htg,hh,Zs hg,hle,hce]
  rw[W]at hR;obtain⟨b0,o0,ha0',hc0⟩:=hso47.cell (j:=0) (v:=.int .i64 y) rfl;have hS4:m5 (λu=>((∃P ts H',HH u P {L with ts:=ts} H'/\H'.tb=H.tb)/\bY u v5.size [.int .i64 (k:Int),.slice so.a so.len so.cap])/\cell u ⟨b0,o0+0,none⟩=some (.int .i64 y)) L H.tb:=λm hm=>hm.1.1;refine⟨λu=>((∃P ts H',HH u P {L with ts:=ts} H'/\H'.tb=H.tb)/\bY u v5.size [.int .i64 (k:Int),.slice so.a so.len so.cap])/\cell u ⟨b0,o0+0,none⟩=some (.int .i64 y),⟨⟨⟨_,_,_,K47.h,rfl⟩,b47⟩,hc0⟩,⟨so,λu V=>by rw[add_lit,V.1.2.cell];rfl,?_⟩⟩;refine LC ha0' O ⟨y,λu V=>V.2,aG (hS4.dD ⟨(k:Int),λu V=>by rw[add_lit,V.1.2.cell];rfl,?_⟩)⟩;refine m5.rC (L:={L with ts:=ts47}) (H:=Hw.dR {H with bQ:=H.bQ.set t {g with bP:=[]}} t {g with bP:=[]} (g.ls.set k (eA ys.reverse l))) hS4 K47.h hc ⟨(k:Int),λu V=>by rw[add_lit,V.1.2.cell];rfl,?_⟩;refine Ba K47.h y (c.size:Int) (k:Int) hy9 λv48 e48 h48=>?_;have K48:=K47.to e48 h48 λb _ i=>.inl i;have hz4747:=e47.1;have hso48:=aH.bS hso47 e48 λb _ i E=>by
   rcases E.1 with h1|h1
   ·exact hXn b i h1
   ·have:=i.2;omega
  refine⟨⟨⟨⟨_,_,_,h48,rfl⟩,K47.cT e48 b47 (.inr rfl)⟩,?_⟩,?_⟩
  ·obtain⟨b1,o1,ha1',hc1⟩:=hso48.cell (j:=0) (v:=.int .i64 y) rfl;rw[ha0']at ha1';cases ha1';exact hc1
  ·have K49:=K48;simp only[Hw.dR,ns]at K49;exact gH (n:=U.size) K49 (.inl (.inl (.inr rfl))) (K47.cT e48 hbv47 (.inl (.inl (.inr rfl)))) λw' K'=>hR w' ts47 K'.e (K'.fin h)
 | eD m=>
  have hp:ZW (H.dZ t) H.sp (m:Int) 1<=1000000:=hp;rw[hAe]at hp;refine kL aB (jb aB (jb aB (jb aB (rj aB (B4 (nw (cs:=[.int .i64 0]) λv5 M X N=>?_))))));have K5:=K1.box X M;refine N.s0 aA λv6 o6 b6=>?_;have K6:=K5.own o6 (.inr rfl);have C:=Ws o6 (X.bT i id) O;refine b6.rI rfl (RP K6.h hA hY (m:Int) 1 λv7 Z h7=>?_);have K7:=K6.to Z h7 λb _ i=>i;have b7:=K6.cT Z b6 (.inr rfl);have B:=K6.cT Z C (.inl (.inr rfl));refine cO (λhn0=>?_) λh0=>?_
  ·have hn0':Qi A H.sp (m:Int) 1≠0:=by simpa using hn0
   have W:Wt H t (.eD m)=({H.cC (H.own t) (cA A H.sp (m:Int) 1).1 with sp:=(cA A H.sp (m:Int) 1).2},none,0,Qi A H.sp (m:Int) 1):=by
    simp only[Wt,hAe,zB hn0']
   rw[W]at hR;exact gH (n:=U.size) K7 (.inl (.inr rfl)) B λw' K'=>hR w' L.ts K'.e (K'.fin h)
  ·have h0':Qi A H.sp (m:Int) 1=0:=by simpa using h0
   have hm:m<=64:=by
    unfold Qi at h0';split at h0'
    ·rename_i hpo;simp only[Q5,zF,zU]at hpo;omega
    ·omega
   have W:Wt H t (.eD m)=(Vp {H.cC (H.own t) (cA A H.sp (m:Int) 1).1 with sp:=(cA A H.sp (m:Int) 1).2} ((ZW A H.sp (m:Int) 1*256:Nat):Int) ((m*256:Nat):Int) (-1),none,((ZW A H.sp (m:Int) 1*256:Nat):Int),0):=by
    simp only[Wt,hAe,zC h0']
   rw[W]at hR;refine cP (m:=ZW A H.sp (m:Int) 1*256) O O (b7.rI rfl (cP (m:=m*256) O O ?_));refine Ba K7.h _ _ _ O λv8 e8 h8=>?_;have K8:=K7.to e8 h8 λb _ i=>.inl i;exact gH (n:=U.size) K8 (.inl (.inr rfl)) (K7.cT e8 B (.inl (.inr rfl))) λw' K'=>hR w' L.ts K'.e (K'.fin h)
 | find x=>
  obtain⟨hx9,hro,hlv⟩:iE x/\(bW H.live x=none->∀A∈H.bX,iG A)/\∀b,bW H.live x=some b->0<=x:=hp;refine kL aB (jb aB (jb aB (jb aB (rj aB (kL aB (B4 (nw (cs:=[.int .i64 0]) λv5 M X N=>?_)))))));have K5:=K1.box X M;refine N.s0 aA λv6 o6 b6=>?_;have K6:=K5.own o6 (.inr rfl);have C:=Ws o6 (X.bT i id) O;refine b6.rI rfl (SC K6.h ht x hx9 hro hlen' hlv λv7 ts7 Z h7=>?_);have K7:=K6.to Z h7 λb _ i=>i;have B:=K6.cT Z C (.inl (.inr rfl));exact gH (n:=U.size) K7 (.inl (.inr rfl)) B λw' K'=>hR w' ts7 K'.e (K'.fin h)
 | put k y=>
  obtain⟨hk,hne0⟩:k<H.tb.length/\(H.jT t).bP≠[]:=hp;rw[htg]at hne0;obtain⟨c,hc⟩:∃c,H.tb[k]?=some c:=⟨_,cU hk⟩;have hll:=h.Bf E hg;obtain⟨l,hl⟩:∃l,g.ls[k]?=some l:=⟨_,cU (by rw[hll];exact hk)⟩;have hce:=VW hc;have hle:=yq hl;refine kL aB (jb aB (jb aB (jb aB (rj aB (kL aB (kL aB (uU (nw (cs:=[.int .i64 0,.int .i64 0]) λv5 M X N=>?_))))))));have K5:=K1.box X M;refine N.s1 aA λv5b o5 b5=>b5.s1 aA λv6 o6 b6=>?_;have K6:=(K5.own o5 (.inr rfl)).own o6 (.inr rfl);have S:U.size≠v.size:=by omega
  have C:=Ws o6 (Ws o5 (X.bT i id) S) S;generalize hgg:(if(dK c y l).1=[]then({g with ls:=g.ls.set k (dK c y l).2}:Th)else{g with ls:=g.ls.set k (dK c y l).2,bP:=g.bP++[(k,(dK c y l).1)]})=g2
  have hg2n:g2.bP≠[]/\g2.bP.length<=901:=by
   rw[←hgg];split
   ·exact⟨hne0,by simp;omega⟩
   ·exact⟨by simp,by simp;omega⟩
  refine uO (λw=>∃P ts',HK F U (λb=>(False\/b=U.size)\/b=v.size) w P {L with ts:=ts'} {H with bQ:=H.bQ.set t g2}/\bY w U.size [.int .i64 0,.int .i64 0]) (λw ⟨P,ts2,K,hbw⟩=>?_) λJ2 hJ2=>?_
  ·have hg3:({H with bQ:=H.bQ.set t g2}:Hw).bQ[t]?=some g2:=by simp[ht]
   obtain⟨x2,_,hx2,_⟩:=K.h.th (t:=t) (by simpa using ht);obtain⟨G,D,hG,hD,hd,aa,hr,hput⟩:=K.h.vC (λb i=>(K.p b i).2.2) hx2 hg3 (λ_=>False) (λb _ _ z=>z) (K.o.1.sub λb i=>i.elim) (λz=>z);have hbl:=aa.len;have hbc:=aa.cap;obtain⟨b0,r0,hbr⟩:∃b r,g2.bP=b::r:=by
    cases hh:g2.bP with
    | nil=>exact absurd hh hg2n.1
    | cons b r=>exact⟨b,r,rfl⟩
   have sC:g2.bP.drop 1=r0:=by rw[hbr];rfl
   rw[hbr]at aa;have hpos:1<=x2.h.len:=by rw[hbl,hbr];simp
   refine aG (nF (K.h.tc hx2 hg3 ha (d:=1) O rfl) ?_);refine iM (lo:=1) hpos hbc (zD _) ?_;refine aG (hput w _ _ G (Ext.refl _ _) (λb i=>.inl i) aa.lj ha λw1 e1 h1=>?_);have e1':=e1.sub hD;have K1b:=K.to e1' h1 λb _ z=>by
    rcases z with z|z
    ·exact .inl z.1
    ·exact .inl (hG b z.1)
   have hbw1:=K.cT e1' hbw (.inl (.inr rfl));have K3:=K1b;simp only[ns]at K3;generalize hg3':({g2 with bP:=r0}:Th)=g3 at K3;have hl3:g3.bP=r0/\g3.ls=g2.ls:=by rw[←hg3'];exact⟨rfl,rfl⟩
   have hr0:r0.length<=900:=by have:=hg2n.2;rw[hbr]at this;simp at this;omega
   have hg3e:({H with bQ:=H.bQ.set t g3}:Hw).bQ[t]?=some g3:=by simp[ht]
   have hpe:ir H t k y=(if H.cf.dA<QQ H.tb g3.ls then{H with bQ:=H.bQ.set t {g3 with ls:=QT KE H.tb g3.ls,bP:=g3.bP++Q0 KE H.tb g3.ls}}else{H with bQ:=H.bQ.set t g3}):=by
    have e2:(if(dK c y l).1=[]then H.dV t λh=>h.gO k (dK c y l).2 else QD (H.dV t λh=>h.gO k (dK c y l).2) t k (dK c y l).1) = {H with bQ:=H.bQ.set t g2}:=by
     rw[←hgg];split
     ·rw[Zs hg];rfl
     ·rw[Zs hg];unfold QD Hw.dV;simp only;rw[KK (t:=g.gO k (dK c y l).2) (by simp[ht]),ns];rfl
    have e3:({H with bQ:=H.bQ.set t g2}:Hw).dV t (λh=>{h with bP:=h.bP.drop 1}) = {H with bQ:=H.bQ.set t g3}:=by
     rw[Zs hg3];simp only[ns,sC,hg3']
    unfold ir;simp only[hce,htg,hle,e2,e3,HY hg3e,Zs hg3e,ns]
   have hx3:(ts2.set t {x2 with h:=⟨if x2.h.cap=1 then x2.h.a else x2.h.a.map (·.add (1*2)),x2.h.len-1,x2.h.cap-1⟩})[t]?=some {x2 with h:=⟨if x2.h.cap=1 then x2.h.a else x2.h.a.map (·.add (1*2)),x2.h.len-1,x2.h.cap-1⟩}:=zM (cV.1 hx2).1
   generalize hx3':({x2 with h:=⟨if x2.h.cap=1 then x2.h.a else x2.h.a.map (·.add (1*2)),x2.h.len-1,x2.h.cap-1⟩}:eH)=x3 at hx3 K3
   generalize ts2.set t x3=ts3 at hx3 K3;refine uO (λw=>∃P ts',HK F U (λb=>(False\/b=U.size)\/b=v.size) w P {L with ts:=ts'} (ir H t k y)/\bY w U.size [.int .i64 0,.int .i64 0]) (λw ⟨P,ts',K,hbw⟩=>?_) λJ3 hJ3=>?_
   ·have W:Wt H t (.put k y)=(ir H t k y,jX (ir H t k y) t,0,0):=rfl;rw[W]at hR;refine VF K.h (t:=t) ?_ ?_
    ·rw[hpe];split<;>simpa using ht
    ·exact gH (n:=U.size) K (.inl (.inr rfl)) hbw λw' K'=>hR w' ts' K'.e (K'.fin h)
   ·refine aG (tT (K3.h.tc hx3 hg3e ha (d:=0) O rfl) ?_);refine MA K3.h hx3 hg3e λv10 e10=>?_;have K10:=K3.fr e10;have hbw10:=e10.bT hbw1 id;refine cQ (λhov=>?_) λhno=>hJ3 v10 ⟨_,ts3,by rw[hpe,zB hno];exact K10,hbw10⟩;refine⟨λu=>cell u (Addr.add ⟨tb0,to0+3*t,none⟩ 1)=some (.slice x3.h.a x3.h.len x3.h.cap)/\cell u (Addr.add ⟨tb0,to0+3*t,none⟩ 0)=some (.pointer (some ⟨x3.c.p,0,none⟩)),⟨K10.h.tc hx3 hg3e ha (d:=1) O rfl,K10.h.tc hx3 hg3e ha (d:=0) O rfl⟩,aG ⟨x3.h,λu V=>V.1,aG ⟨some ⟨x3.c.p,0,none⟩,λu V=>V.2,?_⟩⟩⟩;refine Oi hso K10.h hx3 hg3e λv11 s Q e11 hQ hB h11=>?_;have K11:=K10.to e11 h11 λb _ i=>i.1;have hbw11:=K10.cT e11 hbw10 (.inl (.inr rfl));have hg11:(Hw.dR {H with bQ:=H.bQ.set t g3} t g3 (QT KE H.tb g3.ls)).bQ[t]?=some {g3 with ls:=QT KE H.tb g3.ls}:=by simp[Hw.dR,ht]
    refine⟨⟨K11.h.tc hx3 hg11 ha (d:=1) O rfl,K11.h.tc hx3 hg11 ha (d:=0) O rfl⟩,?_⟩;have hz0:=K10.e.1;obtain⟨G,D,hG,hD,hd,aa,hr,hput⟩:=K11.h.vC (λb i=>i.2) hx3 hg11 (λb=>Q b\/v11.size<=b) (λb i hP z=>z.elim (λz=>hP.1.2 z) λz=>O) (K10.o.1.sub λb i=>i.elim (λi=>by have:=hQ b i;omega) λi=>by have:=K11.e.1;omega) (λz=>K10.o.2 (z.elim (λi=>by have:=hQ _ i;omega) λi=>by have:=K11.e.1;omega));refine iw.app aa hB (λb hg z=>(hG b hg).1.2 z) ?_ λs' v12 e12 hB12=>?_
    ·have:=Cb KE H.tb g3.ls;have:H.tb.length<=40:=K3.h.qg;simp only[hl3.1];omega
    have hcell:∀{d:Nat} {w:Value},d<3->(jt (x3,({g3 with ls:=QT KE H.tb g3.ls}:Th)))[d]?=some w->cell v12 (Addr.add ⟨tb0,to0+3*t,none⟩ d)=some w:=λhd3 hv=>by
     obtain⟨b',o',ha',hc'⟩:=GX (hr v12 e12) hx3 hg11 hd3 hv;rw[ha]at ha';cases ha';rw[add_lit,vR];exact hc'
    refine⟨⟨hcell (d:=1) O rfl,hcell (d:=0) O rfl⟩,aG (hput v12 s' _ _ e12 (λb i=>i.imp id id) hB12 ha λv13 e13 h13=>?_)⟩;have e13':=(e12.sub hG).trans (e13.sub hD);have K13:=K11.tn e13' h13 λb i z=>by
     rcases z with z|z
     ·exact .inl z.1
     ·rcases z.1 with h1|h1|h1
      ·exact .inl (hG b h1)
      ·have:=hQ b h1;exact .inr (.inr ⟨.inr O,λhB=>by have:=(K10.b b hB).2;omega⟩)
      ·exact .inr (.inl h1)
    have hbw13:=K11.cT e13' hbw11 (.inl (.inr rfl));have K14:=K13;simp only[Hw.dR,ns]at K14;have hpe':=hpe;rw[zC hov]at hpe';rw[hpe']at hJ3;exact hJ3 v13 ⟨_,_,K14,hbw13⟩
  ·refine⟨λu=>u=v6,rfl,aG ⟨some ⟨x.c.p,0,none⟩,λu V=>by cases V;exact K6.h.tc E hg ha (d:=0) O rfl,⟨(k:Int),λu V=>by cases V;rw[add_lit,b6.cell];rfl,⟨y,λu V=>by cases V;rw[add_lit,b6.cell];rfl,?_⟩⟩⟩⟩;refine Jx K6.h E hg hc hl y λv7 ts7 s ee Q Z hQ hs7 h7=>?_;have K7:=K6.to Z h7 λb _ i=>i.1;have b7:=K6.cT Z b6 (.inr rfl);have B:=K6.cT Z C (.inl (.inr rfl));have hsl:s.len=(dK c y l).1.length:=by have:=hs7.1;simp[Wo]at this;omega
   by_cases hemp:(dK c y l).1=[]
   ·rw[zC hemp]at hgg;rw[←hgg]at hJ2;exact fR (by rw[hsl,hemp];simp) (hJ2 v7 ⟨_,ts7,K7,B⟩)
   ·rw[zB hemp]at hgg;have hpos:=pC.2 hemp;have hz6:=K6.e.1;refine lT (by rw[hsl];omega) (b7.rI rfl ?_);refine Gb K7.h (t:=t) (by simpa[Hw.dR]using ht) k (bR.gF hs7) (bR.qm hs7) hemp (λb _ z E=>E.1.2 z) (K6.o.1.sub λb i=>by have:=hQ b i;omega) (λz=>K6.o.2 (by have:=hQ _ z;omega)) (λg' hg'=>?_) λv8 ts8 e8 h8=>?_
    ·have:(H.dR t g (g.ls.set k (dK c y l).2)).bQ[t]?=some {g with ls:=g.ls.set k (dK c y l).2}:=by simp[Hw.dR,ht]
     rw[this]at hg';cases hg';simp only;omega
    ·have K8:=K7.tn e8 h8 λb i z=>by
      rcases z with z|z
      ·exact z.imp id .inl
      ·have:=hQ b z;exact .inr (.inr ⟨.inr O,λhB=>by have:=(K6.b b hB).2;omega⟩)
     have e9:QD (H.dR t g (g.ls.set k (dK c y l).2)) t k (dK c y l).1 = {H with bQ:=H.bQ.set t g2}:=by
      rw[←hgg];unfold QD Hw.dV Hw.dR;simp only;rw[KK (t:={g with ls:=g.ls.set k (dK c y l).2}) (by simp[ht]),ns]
     rw[e9]at K8;exact hJ2 v8 ⟨_,ts8,K8,K7.cT e8 B (.inl (.inr rfl))⟩
 | back=>
  obtain⟨k,xs,r,hh,hxs,hxl⟩:∃k xs r,(H.jT t).bP=(k,xs)::r/\(∀x∈xs,iE x/\0<=XN H.bX x)/\xs.length<=1000000:=hp;rw[htg]at hh;refine kL aB (jb aB (jb aB (jb aB (rj aB (kL aB (kL aB (jb aB (BY (nw (cs:=[]) λv5 M X N=>?_)))))))));have K5:=K1.box X M;have hbv5:=X.bT i id;obtain⟨G,D,hG,hD,hd,aa,hr,hput⟩:=K5.h.vC (λb i=>(K5.p b i).2.2) E hg (λb=>v5.size<=b) (λb i _ z=>O) K5.h.l5.1 K5.h.l5.2;have hbl:=aa.len;have hbc:=aa.cap;rw[hh]at aa;obtain⟨so,ps,Dn,hrow,hso1,hcap,hBr,hDn,hj,S,hxne⟩:=aa.my;have hz5':=K5.e.1;refine aG (nF (K5.h.tc E hg ha (d:=1) O rfl) (Ez (dI.gF hrow) λa ha0 ha1=>nQ ha0 (nF ha1 ?_)));refine nw (cs:=[.int .i64 0,.slice none 0 0]) λv81 hz81 e81 hb81=>hb81.s1 aA λv82 o82 b82=>b82.s1 aA λv83 o83 b83=>?_;have e83:bK v5 v83:=(e81.only o82 (.inr (zD _))).only o83 (.inr (zD _));have hz83:v5.size<v83.size:=b83.lt;have hcell:∀{u1:Hp},Ext G v5 u1->∀{d:Nat} {w:Value},d<3->(jt (x,g))[d]?=some w->cell u1 (Addr.add ⟨tb0,to0+3*t,none⟩ d)=some w:=λhe _ _ hd3 hv=>by
   obtain⟨b',o',ha',hc'⟩:=GX (hr _ he) E hg hd3 hv;rw[ha]at ha';cases ha';rw[add_lit,vR];exact hc'
  refine aG (nF (hcell (bK.to e83) (d:=1) (w:=.slice x.h.a x.h.len x.h.cap) O rfl) ?_);have hpos:1<=x.h.len:=by rw[hbl,hh];simp
  refine iM (lo:=1) hpos hbc (zD _) ?_;have hrow':=aH.bO (aH.cut (dI.gF (hrow.from (lo:=1) hpos))) e83;have sC:(fD ((k,so)::ps)).drop (1*2)=fD ps:=rfl;rw[sC]at hrow';refine Nr hrow' aC λs' v84 hs'l e84 hs'=>?_;have hBt':iw s' r v84 (λb=>Dn b/\¬kD so b/\b<v5.size\/v83.size<=b):=by
   refine⟨ps,λb=>Dn b/\¬kD so b/\b<v5.size,(dI.loc _ _ _).mono hs'.o λb _ i=>⟨.inr i,λE=>O⟩,(ku.loc _ _).bO ((ku.loc _ _).bO ((ku.loc _ _).mono ((ku.loc _ _).cut hBr) λb _ i=>⟨i.1.1,i.1.2,i.2⟩) e83) e84,λb i=>.inl i,hj,S⟩
  have e584:bK v5 v84:=e83.trans e84;refine aG (hput v84 s' r _ (bK.to e584) (λb i=>i.elim (λi=>.inl (hDn b i.1)) λi=>.inr O) hBt' ha λv85 e85 h85=>?_);have hz84:=e84.1;have hz85:=e85.1;have e585:Ext _ v5 v85:=(bK.to e584).trans (e85.sub hD);have K85:=K5.to e585 h85 λb _ z=>by
   rcases z with z|z
   ·exact .inl z.1
   ·rcases z.1 with h1|h1
    ·exact .inl (hG b (hDn b h1.1))
    ·exact .inr O
  have hbv85:=K5.cT e585 hbv5 (.inl (.inr rfl));have b85:bY v85 v5.size _:=e85.bT (e84.bT b83 id) λE=>by have:=(K5.p _ (hD _ E)).2.2;omega
  have K85b:=K85.wV (B':=λb=>b=v5.size) λb i=>⟨O,O,λE=>by
   subst i;rcases E.1 with h1|h1
   ·have:=(K5.p _ h1.1).2.2;omega
   ·rcases h1.1 with h2|h2<;>omega⟩
  have hso5:=aH.bS (aH.bO (aH.cut hso1) e584) e85 λb _ i E=>hd b (hDn b i.1.1) E;have W:Wt H t .back=(Hx {H with bQ:=H.bQ.set t {g with bP:=r}} (H.own t) k xs,jX (Hx {H with bQ:=H.bQ.set t {g with bP:=r}} (H.own t) k xs) t,0,0):=by
   simp only[Wt,htg,hh,Zs hg]
  rw[W]at hR;refine⟨λu=>u=v85,rfl,⟨(k:Int),λu V=>by cases V;rw[add_lit,b85.cell];rfl,⟨so,λu V=>by cases V;rw[add_lit,b85.cell];rfl,?_⟩⟩⟩;refine D3 K85b.h t ⟨rfl,Ns K85b.h hol k hso5 (λb _ i E=>?_) hcap hxs hxl λv87 e87 h87=>?_⟩
  ·rcases E.1 with h1|h1
   ·exact h1.2 (hDn b i.1.1)
   ·rcases h1.1 with h2|h2
    ·exact h2.2.1 i.1.2
    ·have:=i.2;omega
  have K87:=K85b.to e87 h87 λb _ i=>i;have hbl7:(Hx {H with bQ:=H.bQ.set t {g with bP:=r}} (H.own t) k xs).bQ.length=H.bQ.length:=by
   rw[G5];simp
  refine VF K87.h (t:=t) (by rw[hbl7];exact ht) ?_;exact gH (n:=U.size) K87 (.inl (.inl (.inr rfl))) (K85b.cT e87 hbv85 (.inl (.inl (.inr rfl)))) λw' K'=>hR w' _ K'.e (K'.fin h)
 | dC s a=>
  obtain⟨ha0,hal,hru⟩:0<=a/\a.toNat<H.bX.length/\∀A∈H.bX,∀r∈A.runs,r.1<=1000000:=hp;obtain⟨A2,hA2⟩:∃A,H.bX[a.toNat]?=some A:=⟨_,cU hal⟩;have hae:a=((a.toNat:Nat):Int):=by omega
  refine kL aB (jb aB (jb aB (jb aB (rj aB (kL aB (kL aB (jb aB (rj aB (uU (nw (cs:=[.int .i64 0,.int .i64 0]) λv5 M X N=>?_))))))))));have K5:=K1.box X M;refine N.s1 aA λv5b o5 b5=>b5.s1 aA λv6 o6 b6=>?_;have K6:=(K5.own o5 (.inr rfl)).own o6 (.inr rfl);have S:U.size≠v.size:=by omega
  have C:=Ws o6 (Ws o5 (X.bT i id) S) S;obtain⟨Y2,hY2,_,_⟩:=K6.h.ar hA2;refine aG (K6.h.hd.rS rfl (b6.rI (x:=((a.toNat:Nat):Int)) (by rw[←hae];rfl) (K6.h.rA hY2 (b6.rI rfl ?_))));refine O6 K6.h hA2 hY2 s (hru A2 (zG hA2)) λv7 Z h7=>?_;have K7:=K6.to Z h7 λb _ i=>i;have B:=K6.cT Z C (.inl (.inr rfl));have W:Wt H t (.dC s a)=(H.cC a.toNat (Qr A2 s),none,0,0):=by
   simp only[Wt,hA2]
  refine hJ v7 ⟨_,L.ts,⟨?_,K7.e,λb i=>⟨(K7.p b i).1,λE=>(K7.p b i).2.1 (.inl E),(K7.p b i).2.2⟩,λb i=>K7.b b (.inl i),K7.o⟩,B,by rw[W]⟩;rw[W];exact K7.h
 | drain=>
  refine kL aB (jb aB (jb aB (jb aB (rj aB (kL aB (kL aB (jb aB (rj aB (jb aB (BY (nw (cs:=[]) λv5 M X N=>?_)))))))))));have K5:=K1.box X M;have hbv5:=X.bT i id;refine aG (tT (K5.h.tc E hg ha (d:=0) O rfl) ?_);refine Mj hso K5.h E hg λv7 s Q Z hQ hB h7=>?_;have K7:=K5.to Z h7 λb _ i=>i.1;have B:=K5.cT Z hbv5 (.inl (.inr rfl));have hz0:=K5.e.1;have hg7:(H.dR t g (QT ZG H.tb g.ls)).bQ[t]?=some {g with ls:=QT ZG H.tb g.ls}:=by simp[Hw.dR,ht]
  obtain⟨G,D,hG,hD,hd,aa,hr,hput⟩:=K7.h.vC (λb i=>i.2) E hg7 Q (λb _ i z=>i.1.2 z) (K5.o.1.sub λb i=>by have:=hQ b i;omega) (λz=>K5.o.2 (by have:=hQ _ z;omega));refine aG (hput v7 s _ Q (Ext.refl _ _) (λb i=>.inr i) hB ha λv8 e8 h8=>?_);have e8':=e8.sub hD;have K8:=K7.tn e8' h8 λb _ z=>by
   rcases z with z|z
   ·exact .inl z.1
   ·have:=hQ b z.1;exact .inr (.inr ⟨.inr O,λhB=>by have:=(K5.b b hB).2;omega⟩)
  have hbv8:=K7.cT e8' B (.inl (.inr rfl));have W:Wt H t .drain=({H with bQ:=H.bQ.set t {g with ls:=QT ZG H.tb g.ls,bP:=Q0 ZG H.tb g.ls}},jX {H with bQ:=H.bQ.set t {g with ls:=QT ZG H.tb g.ls,bP:=Q0 ZG H.tb g.ls}} t,0,0):=by
   simp only[Wt,Zs hg]
  have K9:=K8;simp only[Hw.dR,ns]at K9;rw[W]at hR;refine VF K9.h (t:=t) (by simpa using ht) ?_;exact gH (n:=U.size) K9 (.inl (.inr rfl)) hbv8 λw' K'=>hR w' _ K'.e (K'.fin h)
def eO (H:Hw)(t:Nat)(p:Option Ph):Hw:=H.dV t λh=>{h with ph:=p}
theorem Ve (H:Hw)(t:Nat)(f:Th->Th):(H.dV t f).bQ.length=H.bQ.length:=by simp[Hw.dV]
theorem Mo (H:Hw)(t k:Nat)(x:Int):(ir H t k x).bQ.length=H.bQ.length:=by
 unfold ir;simp only;split<;>split<;>simp[Ve,QD]
theorem DT (H:Hw)(t:Nat)(p:Ph):(Wt H t p).1.bQ.length=H.bQ.length:=by
 cases p with
 | take k=>simp only[Wt];split<;>simp[Vp,Ve]
 | cH k w=>
  simp only[Wt];split
  ·split<;>simp[QD,Ve,Hw.cC]
  ·rfl
 | cJ k w=>simp only[Wt];split<;>simp[QD,Ve,Hw.cC]
 | grow k w=>simp only[Wt];split<;>simp[Hw.cC]
 | fill=>simp only[Wt];split<;>simp[Vp,Ve]
 | eD m=>simp only[Wt];split<;>simp[Vp,Hw.cC]
 | find x=>
  simp only[Wt,UK];split
  ·rfl
  ·split<;>simp[QD,Ve]
 | put k x=>exact Mo H t k x
 | back=>simp only[Wt];split<;>simp[G5,Ve]
 | dC s a=>simp only[Wt];split<;>simp[Hw.cC]
 | drain=>simp[Wt,Ve]
def tU (H:Hw)(t:Nat)(p:Ph):Prop:=uw H t p/\∀g,H.bQ[t]?=some g->g.bP.length<=900
def Qt (H:Hw)(t:Nat)(p:Ph):Hw:=eO (Wt H t p).1 t (Wt H t p).2.1
theorem RS (hso:H8)(h:HH U F L H)(hg:H.bQ[t]?=some g){p:Ph}(hp:g.ph=some p)(hok:tU H t p){R:Bool->Int->Int->Int->Hp->Prop}
 (hR:∀σ' ts',Ext F U σ'->HH σ' (Grow F U) {L with ts:=ts'} (Qt H t p)->R (Wt H t p).2.1.isNone (Wt H t p).2.2.1 (Wt H t p).2.2.2 0 σ'):Y1.c (aW L.p) (t:Int) U R:=by
 refine Y1.o ?_;unfold Y1.v;have K:=(cV.1 hg).1;refine nw (cs:=[.int .i64 0,.int .i64 0]) λv Z e m=>?_;have K1:=(HK.start h).box e Z;obtain⟨x,g',Q,z⟩:=h.th K;rw[hg]at z;cases z;refine Un K1.h (cB rfl (GY K1.h (t:Int) (cB (by rw[zJ O];rfl) ?_)));refine aG (K1.h.hd.rS rfl (K1.h.tR Q hg ?_));rw[hp];refine⟨uz _,cB (by rw[G3];rfl) (aG (K1.h.hd.rS rfl (K1.h.tR Q hg ?_)))⟩;rw[hp];refine Nt hso K1.h K p hok.1 hok.2 λS E P X=>?_;have K9:=K1.to P X λb _ m=>m;have j:=K1.cT P m (.inr rfl);refine nw (cs:=[.int .i64 0,.int .i64 0]) λY y B r=>?_;have K10:=K9.box B y;refine r.s1 aA λV s N=>N.s1 aA λaa A M=>?_;have K12:=(K10.own s (.inr rfl)).own A (.inr rfl);have w:U.size≠S.size:=by have:=(K9.b U.size (.inr rfl)).2;omega
 have d:=Ws A (Ws s (B.bT j id) w) w;have C:t<(Wt H t p).1.bQ.length:=by rw[DT];exact K
 obtain⟨x9,g9,J,u⟩:=K12.h.th C;have D:Qt H t p = {(Wt H t p).1 with bQ:=(Wt H t p).1.bQ.set t {g9 with ph:=(Wt H t p).2.1}}:=Zs u _;refine aG (K12.h.hd.rS rfl (K12.h.rr J u (Wt H t p).2.1 λW i G=>?_));have K13:=K12.to i G λb _ m=>.inl m;have a:=K12.cT i M (.inr rfl);rw[←D]at K13;refine⟨uz _,a.rI rfl (a.rI rfl ?_)⟩;refine gH (n:=U.size) K13 (.inl (.inr rfl)) (K12.cT i d (.inl (.inr rfl))) λw' K'=>?_;rw[G3];exact hR w' E K'.e (K'.fin h)
theorem BA {p:Nat->Prop}(h:∃n,p n):∃n,p n/\∀m,p m->n<=m:=by
 obtain⟨n,d⟩:=h
 induction n using Nat.strongRecOn with
 | _ n ih=>
  by_cases hm:∃m,m<n/\p m
  ·obtain⟨m,a,b⟩:=hm;exact ih m a b
  ·exact⟨n,d,λm b=>Nat.le_of_not_lt λa=>hm ⟨m,a,b⟩⟩
theorem Sa {start:eN []->Prop}{round:eN []->eN []}(Inv:Nat->Hp->Prop)(h0:start λh=>∃n,Inv n h)(hr:∀n h,Inv n h->∀J:Hp->Prop,(∀m h',m<n->Inv m h'->J h')->round J h):X9 [] start round:=by
 classical
 refine CG (λh=>∃n,Inv n h) (λh=>if hx:∃n,Inv n h then(BA hx).choose else 0) h0 λh d=>?_
 have e:=(BA d).choose_spec;refine hr _ h e.1 _ λm h' g b=>⟨⟨m,b⟩,?_⟩;have a:∃n,Inv n h':=⟨m,b⟩;rw[dif_pos a,dif_pos d];exact BV ((BA a).choose_spec.2 m b) g
inductive iC:Nat->Hw->Nat->Ph->Hw->Int->Int->Prop
 | done {H:Hw} {t:Nat} {p:Ph}:tU H t p->(Wt H t p).2.1=none->iC 1 H t p (Qt H t p) (Wt H t p).2.2.1 (Wt H t p).2.2.2
 | next {n:Nat} {H:Hw} {t:Nat} {p p':Ph} {H':Hw} {a e:Int}:tU H t p->(Wt H t p).2.1=some p'->iC n (Qt H t p) t p' H' a e->iC (n+1) H t p H' a e
theorem DE {p:Ph}(ht:t<H.bQ.length):∃g,(Qt H t p).bQ[t]?=some g/\g.ph=(Wt H t p).2.1:=by
 have a:t<(Wt H t p).1.bQ.length:=by rw[DT];exact ht
 exact⟨{(Wt H t p).1.bQ[t]with ph:=(Wt H t p).2.1},by simp[Qt,eO,Hw.dV,sy,cU a],rfl⟩
end Go.Ar
namespace Go.Ar
open Go Go.Vc Go.Proofs
open Go.Bu (eX)
variable {U:Hp}{F:Rg}
def Uz (size align:Int):Bool:=decide (1<=size)&&(decide (1<=align)&&(decide (align<=256)&&eX align))
def gN (tb:List bZ)(size align:Int):Option Nat:=tb.findIdx? λc=>decide (size<=(c.size:Int))&&((c.size:Int)%align==0)
theorem Mx (n:Int)(h1:1<=n)(h2:n<=256){R:aN}(hR:∀p:Int,(p != n) = !eX n->R p U):Z4.c n U R:=by
 refine Z4.o ?_;unfold Z4.v;refine Uw (a:=bN) (bb:=bN) (λ(p q:Int) w=>w=U/\(p=0/\q=1\/∃k:Nat,k<=8/\p=((2^k:Nat):Int)/\q=((2^(k+1):Nat):Int)/\p<=n)) (λp q _=>1000-q.toNat) ⟨rfl,.inl ⟨rfl,rfl⟩⟩ ?_;rintro(p:Int) (q:Int) w ⟨rfl,hpq⟩;refine cQ (λd=>?_) λr=>?_
 ·rcases hpq with⟨rfl,rfl⟩|⟨k,hk,rfl,rfl,hp⟩
  ·exact cP (m:=2) O O ⟨⟨rfl,.inr ⟨0,O,by simp,by simp,O⟩⟩,by simp⟩
  ·have s:k<=7:=by
    apply Classical.byContradiction;intro hc;have:2^9<=2^(k+1):=pd aB O;omega
   have g:=kF (k+1);exact cP (m:=2^(k+1+1)) (by rw[mD 2 (k+1)];omega) (by rw[mD 2 (k+1)];omega) ⟨⟨rfl,.inr ⟨k+1,O,rfl,rfl,d⟩⟩,by rw[mD 2 (k+1)];omega⟩
 ·rcases hpq with⟨rfl,rfl⟩|⟨k,hk,rfl,rfl,hp⟩
  ·omega
  ·refine hR _ ?_;by_cases e:((2^k:Nat):Int)=n
   ·have:eX n=true:=by
     unfold eX;rw[kC];exact⟨k,zg.2 O,by simp[←e]⟩
    rw[this,e];simp
   ·have:eX n=false:=by
     unfold eX;rw[mF];intro j hj he;have b:n=((2^j:Nat):Int):=by simpa using he
     rcases pE j k with h3|h3|h3
     ·have:2^(j+1)<=2^k:=pd aB h3;rw[mD]at this;have:=kF j;omega
     ·subst h3;exact e b.symm
     ·have:2^(k+1)<=2^j:=pd aB h3;omega
    rw[this];simpa using e
theorem Ss {s:Sl}{xs:List (Int×Int×Int)}(ha:ie U s xs)(hv:Qf xs=true)(size align:Int){R:Int->Int->Hp->Prop}
 (hR:∀σ',bK U σ'->R (if Uz size align then((gN (xs.map Z1) size align).getD 0:Nat)else 0) (if Uz size align then(if(gN (xs.map Z1) size align).isSome then 0 else 4)else 1) σ'):Z7.c s size align U R:=by
 refine Z7.o ?_;unfold Z7.v;refine nw (cs:=[.int .i64 size]) λv hz e hb=>nw (cs:=[.int .i64 align]) λv1 P e1 S=>?_;have hb':=e1.bT hb id;refine Gk (ZQ ha (e.trans e1)) λu e2=>?_;rw[hv];have L:=e2.bT hb' id;have y:=e2.bT S id;have g:=(e.trans e1).trans e2;refine cB rfl ?_;have key:∀r,r = !Uz size align->(If r (R 0 1 u) (Wl.c s ⟨203,#[],#[.pointer (some ⟨U.size,0,none⟩),.pointer (some ⟨v.size,0,none⟩)]⟩ u λk v4=>If (decide (k<0)) (R 0 4 v4) (R k 0 v4))):=by
  intro r b;cases hok:Uz size align with
  | false=>
   rw[hok]at b;have:=hR u g;rw[hok]at this;exact cE (by rw[b];rfl) this
  | true=>
   rw[hok]at b;refine cB (by rw[b];rfl) ?_;have H:=hok;simp only[Uz,zF,zU]at H;refine Wl.o ?_;unfold Wl.v;have hlen:=ha.1;have hxl:=((Qc xs).1 hv).2.1;refine ZX (a:=bN) (λ(z:Int) w=>∃i:Nat,z=(i:Int)/\i<=xs.length/\bK u w/\∀j c,j<i->(xs.map Z1)[j]?=some c->(decide (size<=(c.size:Int))&&((c.size:Int)%align==0))=false) (λz _=>xs.length-z.toNat) ⟨0,rfl,O,Ext.refl _ _,λj c h=>O⟩ ?_;rintro(z:Int) w ⟨i,rfl,hi,ew,hno⟩;refine cQ (λhlt=>?_) λQ=>?_
   ·have V:i<xs.length:=by omega
    have B:(xs.map Z1)[i]?=some (Z1 xs[i]):=by simp[V]
    generalize Z1 xs[i]=c at B;have K:=ZQ ha (g.trans ew);obtain⟨hx,hcok⟩:=UQ K hv B;refine xq K hx ?_;refine py (all := #[.agg #[.int .i64 (c.size:Int),.int .i64 (c.aF:Int),.int .i64 (c.batch:Int)],.pointer (some ⟨U.size,0,none⟩),.pointer (some ⟨v.size,0,none⟩)]) (by kernel_rfl) aA ?_;refine ZN.o ?_;unfold ZN.v;refine nw (cs:=[.int .i64 (c.size:Int),.int .i64 (c.aF:Int),.int .i64 (c.batch:Int)]) λC P e1 E=>?_;have aa:=e1.bT (ew.bT L id) id;have M:=e1.bT (ew.bT y id) id;have G:=ew.trans e1;have go:∀r,r=(decide (size<=(c.size:Int))&&((c.size:Int)%align==0))->If r (If (decide ((i:Int)<0)) (R 0 4 C) (R (i:Int) 0 C)) (Ar .i64 ((i:Int)+1) λD=>(∃i:Nat,D=(i:Int)/\i<=xs.length/\bK u C/\∀j c,j<i->(xs.map Z1)[j]?=some c->(decide (size<=(c.size:Int))&&((c.size:Int)%align==0))=false)/\xs.length-D.toNat<xs.length-(i:Int).toNat):=by
     intro r b;refine cO (λW=>fR O ?_) λh0=>?_
     ·have hf:gN (xs.map Z1) size align=some i:=by
       obtain⟨X,rfl⟩:=cV.1 B;exact m7.2 ⟨X,by rw[←b];exact W,λj F=>by rw[hno j _ F (cU O)];simp⟩
      have:=hR C (g.trans G);rw[hok,hf]at this;exact this
     ·exact cP (m:=i+1) O O ⟨⟨i+1,rfl,O,G,λj d F hd=>by
       by_cases e:j=i
       ·subst e;rw[B]at hd;cases hd;rw[←b];exact h0
       ·exact hno j d O hd⟩,O⟩
    refine E.rI rfl (aa.uv rfl ?_);refine QZ (λr w=>w=C/\r=(decide (size<=(c.size:Int))&&((c.size:Int)%align==0))) (λr w ⟨N,b⟩=>by subst N;exact go r b) λJ A=>?_;refine cQ (λQ=>E.rI rfl (M.uv rfl (nz O (A _ _ ⟨rfl,?_⟩)))) λhlt2=>A _ _ ⟨rfl,?_⟩
    ·rw[Qp O,zJ (by omega:size<=(c.size:Int)),qG]
    ·rw[zK O,tY]
   ·have hf:gN (xs.map Z1) size align=none:=by
     unfold gN;rw[uK];intro c B;obtain⟨j,F⟩:=zQ B;have:=(cV.1 F).1;simp at this;exact hno j c O F
    have:=hR w (g.trans ew);rw[hok,hf]at this;exact lT aB this
 refine wa (λr w=>w=u/\r = !Uz size align) (λr w ⟨N,b⟩=>by subst N;exact key r b) λJ A=>?_;have Y:∀m,m=u->cell m ⟨U.size,0,none⟩=some (.int .i64 size):=λm Z=>by rw[Z,L.cell];rfl
 have x:∀m,m=u->cell m ⟨v.size,0,none⟩=some (.int .i64 align):=λm Z=>by rw[Z,y.cell];rfl
 refine⟨λm=>m=u,rfl,⟨size,Y,?_⟩⟩;refine cQ (λW=>A _ _ ⟨rfl,?_⟩) λW=>⟨align,x,cQ (λh2=>A _ _ ⟨rfl,?_⟩) λh2=>⟨align,x,cQ (λh3=>A _ _ ⟨rfl,?_⟩) λh3=>⟨align,x,⟨align,x,?_⟩⟩⟩⟩
 ·simp only[Uz,zK (by omega:¬1<=size),tY,wB]
 ·simp only[Uz,zK (by omega:¬1<=align),tY,tv,wB]
 ·simp only[Uz,zK (by omega:¬align<=256),tY,tv,wB]
 ·refine Mx align O O λp hp=>⟨rfl,A _ _ ⟨rfl,?_⟩⟩;rw[hp];simp only[Uz,zJ (by omega:1<=size),zJ (by omega:1<=align),zJ (by omega:align<=256),qG]
end Go.Ar
namespace Go.Ar
open Go Go.Vc Go.Proofs
variable {U u u':Hp}{F B P Q:Rg}{L:dJ}{H H':Hw}{t k n pb:Nat}{A:AR}{Y:Lay}{x:eH}{g:Th}{c:bZ}{l:Li}{cs:List Value}
def mq (c:bZ):Int×Int×Int:=((c.size:Int),(c.aF:Int),(c.batch:Int))
theorem Ij (tb:List bZ):(tb.map mq).map Z1=tb:=by
 rw[lb]
 conv=>rhs;rw[←uQ tb]
 apply j2;intro c _;rfl
theorem Rf {s:Sl}{tb:List bZ}(h:cW s 3 (fZ tb) U F):ie U s (tb.map mq):=by
 have B:=h.1;rw[VH]at B;refine⟨by simp;omega,λi x y z j=>?_⟩;rw[za,oF]at j;obtain⟨c,m,g⟩:=j;obtain⟨w,C,r⟩:=Gm m;simp only[mq,Prod.mk.injEq]at g;obtain⟨rfl,rfl,rfl⟩:=g;obtain⟨b,o,d,e⟩:=h.cell w;obtain⟨p,D,a,A⟩:=h.cell C;rw[d]at a;cases a;obtain⟨p,D,a,u⟩:=h.cell r;rw[d]at a;cases a;exact⟨b,o,d,Q8 e,by rw[show o+i*3=o+3*i by omega];exact e,by rw[show o+i*3+1=o+(3*i+1) by omega];exact A,by rw[show o+i*3+2=o+(3*i+2) by omega];exact u⟩
def l6 (tb:List bZ):Prop:=Qf (tb.map mq)=true
def iI (tb:List bZ)(kind size align addr:Int):Option Ph:=
 if kind=0 then(if 1<=size/\size<=16384 then(if Uz size align then(match gN tb size align with
  | some k=>some (.take k)
  | none=>some (.eD ((size+255).toNat/256)))else none)else none)
 else if kind=1 then some (.find addr)else if kind=2 then some .drain else none
theorem NF (h:HH U F L H)(hv:l6 H.tb)(kind size align addr:Int){R:Value->Hp->Prop}(hR:∀σ',bK U σ'->R (mP (iI H.tb kind size align addr)) σ'):Yh.c (aW L.p) kind size align addr U R:=by
 refine Yh.o ?_;unfold Yh.v;refine nw (cs:=[.int .i64 kind,.int .i64 size,.int .i64 align,.int .i64 addr]) λv M e s=>s.rI rfl ?_;have B:=h.bO e;have a:=hR v e;refine cO (λz=>?_) λz=>?_
 ·have g:kind=0:=by simpa using z
  have E:iI H.tb kind size align addr=(if 1<=size/\size<=16384 then(if Uz size align then(match gN H.tb size align with
   | some k=>some (.take k)
   | none=>some (.eD ((size+255).toNat/256)))else none)else none):=by unfold iI;rw[zC g]
  rw[E]at hR a;refine s.rI rfl (QZ (λr w=>w=v/\r = !decide (1<=size/\size<=16384)) (λr w ⟨D,y⟩=>?_) λJ C=>?_)
  ·subst D;by_cases hs:1<=size/\size<=16384
   ·rw[zC hs]at hR;rw[zJ hs]at y;refine cB (by rw[y];rfl) ⟨λm=>m=w,rfl,aG ⟨L.dD,λm x=>by rw[x,add_lit,B.hd.cell];rfl,⟨size,λm x=>by rw[x,add_lit,s.cell];rfl,⟨align,λm x=>by rw[x,add_lit,s.cell];rfl,?_⟩⟩⟩⟩;refine Ss (Rf B.jy) hv size align λK e2=>?_;rw[Ij];have A:=e2.bT s id;have b:=hR K (e.trans e2);cases hok:Uz size align with
    | false=>
     rw[hok]at b;exact cB rfl (cB rfl b)
    | true=>
     rw[hok]at b;simp only[zR]at b ⊢;cases hcl:gN H.tb size align with
     | some k=>rw[hcl]at b;exact cE rfl b
     | none=>
      rw[hcl]at b;refine cB rfl (cE rfl (A.rI rfl (ar O O (ar O O (nz aB (ar (by rw[XO O];omega) (by rw[XO O];omega) ?_))))));rw[XO O];have:(size+256-1)/256=(((size+255).toNat/256:Nat):Int):=by omega
      rw[this];exact b
   ·rw[zB hs]at a;rw[zK hs]at y;exact cE (by rw[y];rfl) a
  ·refine cQ (λG=>C _ _ ⟨rfl,?_⟩) λG=>s.rI rfl (C _ _ ⟨rfl,?_⟩)
   ·rw[zK O];rfl
   ·by_cases h2:size>16384
    ·rw[zJ h2,zK O];rfl
    ·rw[zK h2,zJ O];rfl
 ·have g:kind≠0:=by simpa using z
  refine cO (λj=>s.rI rfl ?_) λj=>?_
  ·have d:kind=1:=by simpa using j
   unfold iI at a;rw[zB g,zC d]at a;exact a
  ·have d:kind≠1:=by simpa using j
   refine cO (λu=>?_) λu=>?_
   ·have i:kind=2:=by simpa using u
    unfold iI at a;rw[zB g,zB d,zC i]at a;exact a
   ·have i:kind≠2:=by simpa using u
    unfold iI at a;rw[zB g,zB d,zB i]at a;exact a
def Kf (H:Hw)(thread kind size align addr:Int):Int ⊕ (Nat×Ph):=
 if 0<=thread/\thread<(H.bQ.length:Int)then(match H.bQ[thread.toNat]? with
  | some g=>(if g.ph=none then(match iI H.tb kind size align addr with
   | some p=>.inr (thread.toNat,p)
   | none=>.inl 1)else .inl 5)
  | none=>.inl 1)else .inl 1
theorem Ip (h:HH U F L H)(hv:l6 H.tb)(thread kind size align addr:Int){R:aN}(h0:∀e,Kf H thread kind size align addr=.inl e->e≠0->∀σ',Ext F U σ'->HH σ' (Grow F U) L H->R e σ')
 (h1:∀t p,Kf H thread kind size align addr=.inr (t,p)->thread=(t:Int)->t<H.bQ.length->∀σ',Ext F U σ'->HH σ' (Grow F U) L (eO H t (some p))->R 0 σ'):YW.c (aW L.p) thread kind size align addr U R:=by
 refine YW.o ?_;unfold YW.v;refine nw (cs:=[.int .i64 kind,.int .i64 size,.int .i64 align,.int .i64 addr]) λv s e d=>?_;have K1:=(HK.start h).box e s;refine Un K1.h (cB rfl (GY K1.h thread ?_));by_cases hth:0<=thread/\thread<(H.bQ.length:Int)
 ·obtain⟨t,rfl⟩:∃t:Nat,thread=(t:Int):=⟨thread.toNat,O⟩;have j:t<H.bQ.length:=by omega
  obtain⟨x,g,m,i⟩:=h.th j;have a:Kf H (t:Int) kind size align addr=(if g.ph=none then(match iI H.tb kind size align addr with
   | some p=>.inr (t,p)
   | none=>.inl 1)else .inl 5):=by
   unfold Kf;rw[zC hth,dE,i]
  refine cB (by rw[zJ hth];rfl) (aG (K1.h.hd.rS rfl (K1.h.tR m i ⟨uz _,?_⟩)));cases hp:g.ph with
  | some p=>
   rw[hp,zB aA]at a;exact cE (by rw[G3];rfl) (h0 5 a aB v K1.e (K1.fin h))
  | none=>
   rw[hp,zC rfl]at a;refine cB rfl (d.rI rfl (d.rI rfl (d.rI rfl (d.rI rfl (NF K1.h hv kind size align addr λv3 y=>⟨uz _,?_⟩)))));have K3:=K1.fr y;rw[G3];cases hq:iI H.tb kind size align addr with
   | none=>
    rw[hq]at a;exact cE rfl (h0 1 a aB v3 K3.e (K3.fin h))
   | some p=>
    rw[hq]at a;refine cB rfl (aG (K3.h.hd.rS rfl (K3.h.rr m i (some p) λw r u=>?_)));have K4:=K3.to r u λb _ d=>.inl d;have z:eO H t (some p) = {H with bQ:=H.bQ.set t {g with ph:=some p}}:=Zs i _;rw[←z]at K4;exact h1 t p a rfl j w K4.e (K4.fin h)
 ·have a:Kf H thread kind size align addr=.inl 1:=by unfold Kf;rw[zB hth]
  exact cE (by rw[zK hth];rfl) (h0 1 a aB v K1.e (K1.fin h))
theorem SB {p:Option Ph}(ht:t<H.bQ.length):∃g,(eO H t p).bQ[t]?=some g/\g.ph=p:=
 ⟨{H.bQ[t]with ph:=p},by simp[eO,Hw.dV,sy,cU ht],rfl⟩
theorem DB (hso:H8)(h:HH U F L H)(hv:l6 H.tb)(thread kind size align addr:Int){R:Int->Int->Hp->Prop}(h0:∀e,Kf H thread kind size align addr=.inl e->e≠0->∀σ',Ext F U σ'->HH σ' (Grow F U) L H->R 0 e σ')
 (h1:∀t p,Kf H thread kind size align addr=.inr (t,p)->∃n H' a e,iC n (eO H t (some p)) t p H' a e/\∀σ' ts',Ext F U σ'->HH σ' (Grow F U) {L with ts:=ts'} H'->R a e σ'):XR.c (aW L.p) thread kind size align addr U R:=by
 refine XR.o ?_;unfold XR.v;refine nw (cs:=[.int .i64 kind,.int .i64 size,.int .i64 align,.int .i64 addr]) λv hz e i=>i.rI rfl (i.rI rfl (i.rI rfl (i.rI rfl ?_)));have K1:=(HK.start h).box e hz;refine Ip K1.h hv thread kind size align addr (λG he z v1 e1 u=>?_) λt p S N ht v1 e1 u=>?_
 ·have K2:=K1.to e1 u λb _ i=>i;exact cE (by simpa using z) (h0 G he z v1 K2.e (K2.fin h))
 ·subst N;have K2:=K1.to e1 u λb _ i=>i;obtain⟨n,Hf,a,G,d,E⟩:=h1 t p S;refine cB rfl (Sa (λn w=>∃(B P:Rg) (ts:List eH) (H:Hw) (p:Ph),HK F U B w P {L with ts:=ts} H/\(∃g,H.bQ[t]?=some g/\g.ph=some p)/\iC n H t p Hf a G) ⟨n,_,_,L.ts,_,p,K2,SB ht,d⟩ ?_);rintro n w ⟨B,P,ts,H2,j,K,⟨g,hg,V⟩,d⟩ J hJ;have go:tU H2 t j->((Wt H2 t j).2.1.isNone=true->(Wt H2 t j).2.2.1=a/\(Wt H2 t j).2.2.2=G/\Qt H2 t j=Hf)->((Wt H2 t j).2.1.isNone=false->∃m M,m<n/\(Wt H2 t j).2.1=some M/\iC m (Qt H2 t j) t M Hf a G)->Y1.c (aW L.p) (t:Int) w λag x y t223 v3=>Nw (.cells #[.int .i64 0,.int .i64 0] 125 (0,0)) v3 λr v4=>dS (r.add 0) (.int .i64 x) v4 λv5=>dS (r.add 1) (.int .i64 y) v5 λs=>If ag (gA .i64 (r.add 0) s λY=>gA .i64 (r.add 1) s λad=>R Y ad s) (J s):=by
   intro hok hd hn;refine RS hso K.h hg V hok λv3 C e3 ab=>?_;have K3:=K.to e3 ab λb _ i=>i;refine nw (cs:=[.int .i64 0,.int .i64 0]) λv4 ac e4 Q=>?_;have K4:=K3.box e4 ac;refine Q.s1 aA λv5 o5 b5=>b5.s1 aA λs o6 b6=>?_;have K6:=(K4.own o5 (.inr rfl)).own o6 (.inr rfl);refine cO (λW=>?_) λZ=>?_
   ·obtain⟨q1,q2,q3⟩:=hd W;rw[q3]at K6;refine b6.rI rfl (b6.rI rfl ?_);rw[q1,q2];exact E s C K6.e (K6.fin h)
   ·obtain⟨m,M,hm,aa,ae⟩:=hn Z;have X:t<H2.bQ.length:=(cV.1 hg).1;obtain⟨g',af,D⟩:=DE (p:=j) X;exact hJ m s hm ⟨_,_,C,_,M,K6,⟨g',af,by rw[D,aa]⟩,ae⟩
  cases d with
  | done hok hnone=>exact go hok (λ_=>⟨rfl,rfl,rfl⟩) λA=>by rw[hnone]at A;cases A
  | next hok hsome hrun'=>exact go hok (λA=>by rw[hsome]at A;cases A) λ_=>⟨_,_,Nat.lt_succ_self _,hsome,hrun'⟩
end Go.Ar
namespace Go.Ar
open Go Go.Vc Go.Proofs
variable {U u w w':Hp}{F B P Q:Rg}{n:Nat}{cs:List Value}{tb:List bZ}{cf:Cf}
def VQ (tb:List bZ)(cf:Cf):Hw:=⟨tb,cf,Va cf.aF,List.replicate cf.gY (fo cf.aF cf.room tb),List.replicate cf.threads ⟨List.replicate tb.length ij,[],none⟩,[]⟩
def qU (p a t b r:Int):Bool:=decide (32<=p)&&decide (p<=1024)&&(p%16==0)&&decide (1<=a)&&decide (a<=4)&&decide (1<=t)&&decide (t<=4)&&decide (0<=b)&&decide (b<=65536)&&decide (0<=r)&&decide (r<=8)
theorem lvl {K:aO}{r:Bool}{a:Addr}{x:Int}{k:IntKind}{f:Int->Bool}(hl:∀{K':Int->Prop},K' x->gA k a w K')(h:K (r&&f x) w):bV K λJ=>If r (gA k a w λt=>J (f t) w) (J false w):=
 bV.intro (cO (λb=>hl (by rw[b]at h;exact h)) λb=>by rw[b]at h;exact h)
theorem PM (p a t b r:Int){R:aO}(hR:∀σ',bK U σ'->R (qU p a t b r) σ'):Qk.c p a t b r U R:=by
 refine Qk.o ?_;unfold Qk.v;refine nw (cs:=[.int .i64 p,.int .i64 a,.int .i64 t,.int .i64 b,.int .i64 r]) λv A e g=>g.rI rfl ?_;have i:=hR v e;unfold qU at i;refine QZ (λm w=>w=v/\m=(decide (32<=p)&&decide (p<=1024))) (λm w ⟨u,x⟩=>?_) λJ j=>?_
 ·subst u;subst x;refine QZ (λm z=>z=w/\m=(decide (32<=p)&&decide (p<=1024)&&(p%16==0))) (λm z ⟨u,x⟩=>?_) λJ j=>?_
  ·rw[u];subst x;exact lvl (λd=>g.rI rfl d) (lvl (λd=>g.rI rfl d) (lvl (λd=>g.rI rfl d) (lvl (λd=>g.rI rfl d) (lvl (λd=>g.rI rfl d) (lvl (λd=>g.rI rfl d) (lvl (λd=>g.rI rfl d) (lvl (λd=>g.rI rfl d) i)))))))
  ·refine cO (λs=>g.rI rfl (nz aB (j _ _ ⟨rfl,?_⟩))) λy=>j _ _ ⟨rfl,?_⟩
   ·simp only[zF,zU]at s;rw[Qp O,zJ s.1,zJ s.2];rfl
   ·rw[y];rfl
 ·refine cQ (λs=>g.rI rfl (j _ _ ⟨rfl,?_⟩)) λy=>j _ _ ⟨rfl,?_⟩
  ·rw[zJ (by omega:32<=p)];rfl
  ·rw[zK O];rfl
structure oE where
 p:Nat
 dD:Sl
 lm:Nat
 hs:Option Nat
 hp:Option Nat
 aw:Sl
 al:List Nat
 ha:Sl
 tw:Sl
 tl:List Value
 ht:Sl
 ys:List Lay
 cs:List gS
def qv (cf:Cf)(N:oE):List Value:=[.slice N.dD.a N.dD.len N.dD.cap,.int .i64 (cf.aF:Int),.int .i64 (cf.gY:Int),.int .i64 (cf.threads:Int),.int .i64 (cf.dA:Int),.int .i64 (cf.room:Int),
 .pointer (N.hp.map λq=>⟨q,0,none⟩),.slice N.ha.a N.ha.len N.ha.cap,.slice N.ht.a N.ht.len N.ht.cap,.map (some N.lm)]
def rR (n room:Nat)(tb:List bZ)(y:Option Lay):Hp->Rg->Prop:=λU F=>match y with
 | some Y=>dG U F Y (fo n room tb) (cK (fo n room tb) Y)
 | none=>True
def ru (tb:List bZ)(bud:Nat)(y:Option gS):Hp->Rg->Prop:=λU F=>match y with
 | some Y=>eC U F Y tb bud (List.replicate tb.length ij)
 | none=>True
def yk (n:Nat)(q:Option Nat):Hp->Rg->Prop:=λU F=>match q with
 | some q=>dL U F q (Va n)
 | none=>True
def iT (tb:List bZ)(cf:Cf)(N:oE):kH->Hp->Rg->Prop
 | .hd=>iq N.p (qv cf N)
 | .dD=>cW N.dD 3 (fZ tb)
 | .sp=>yk cf.aF N.hs
 | .fM=>bR N.aw 1 (fJ N.al)
 | .cN=>bR N.tw 3 N.tl
 | .live=>jE N.lm .i64 (.ag 4) []
 | .ar k=>rR cf.aF cf.room tb N.ys[k]?
 | .ca k=>ru tb cf.dA N.cs[k]?
 | .hn _=>λ_ _=>True
theorem rR.loc (n room:Nat)(tb:List bZ)(y:Option Lay):dM (rR n room tb y):=by
 intro U σ' F G h hz hs;cases y with
 | some Y=>exact dG.loc _ _ _ _ h hz hs
 | none=>trivial
theorem ru.loc (tb:List bZ)(bud:Nat)(y:Option gS):dM (ru tb bud y):=by
 intro U σ' F G h hz hs;cases y with
 | some Y=>exact eC.loc _ _ _ _ h hz hs
 | none=>trivial
theorem yk.loc (n:Nat)(q:Option Nat):dM (yk n q):=by
 intro U σ' F G h hz hs;cases q with
 | some q=>exact dL.loc _ _ _ _ h hz hs
 | none=>trivial
theorem iT.loc {N:oE}:∀i,dM (iT tb cf N i)
 | .hd=>iq.loc _ _
 | .dD=>cW.loc _ _ _
 | .sp=>yk.loc _ _
 | .fM=>bR.loc _ _ _
 | .cN=>bR.loc _ _ _
 | .live=>jE.loc _ _ _ _
 | .ar k=>rR.loc _ _ _ _
 | .ca k=>ru.loc _ _ _
 | .hn _=>λ_ _ _ _ _ _ _=>trivial
structure NK (U:Hp) (B:Rg) (w:Hp) (P:Rg) (tb:List bZ) (cf:Cf) (N:oE):Prop where
 sep:Sep (iT tb cf N) w P
 e:bK U w
 p:∀b,P b->U.size<=b/\¬B b/\b<w.size
 b:∀b,B b->U.size<=b/\b<w.size
variable {N N':oE}
theorem NK.fr (K:NK U B w P tb cf N)(e:bK w w'):NK U B w' P tb cf N:=
 ⟨(Sep.loc iT.loc).bO K.sep e,K.e.trans e,λb a=>⟨(K.p b a).1,(K.p b a).2.1,by have:=(K.p b a).2.2;have:=e.1;omega⟩,λb a=>by have:=K.b b a;have:=e.1;omega⟩
theorem NK.box (K:NK U B w P tb cf N)(e:bK w w')(hz:w'.size=w.size+1):NK U (λb=>B b\/b=w.size) w' P tb cf N:=by
 have h:=K.fr e;have i:=K.e.1;exact⟨h.sep,h.e,λb a=>⟨(K.p b a).1,λg=>g.elim (K.p b a).2.1 λd=>by have:=(K.p b a).2.2;omega,(h.p b a).2.2⟩,λb a=>a.elim (h.b b) λd=>O⟩
theorem NK.drop (K:NK U B w P tb cf N){B':Rg}(hb:∀b,B' b->B b):NK U B' w P tb cf N:=⟨K.sep,K.e,λb h=>⟨(K.p b h).1,λa=>(K.p b h).2.1 (hb b a),(K.p b h).2.2⟩,λb h=>K.b b (hb b h)⟩
theorem NK.put (K:NK U B w P tb cf N)(e:bK w w')(i:kH)(hj:∀j,j≠i->iT tb cf N' j=iT tb cf N j)(hi:iT tb cf N' i w' (λb=>w.size<=b)):NK U B w' (λb=>P b\/w.size<=b/\b<w'.size) tb cf N':=by
 have h:=K.fr e;have m:=K.e.1;refine⟨h.sep.put iT.loc i (G:=λb=>w.size<=b/\b<w'.size) (λb a g=>by have:=(K.p b g).2.2;omega) hj ((iT.loc i).mono hi λb a d=>⟨d,a⟩) (iT.loc i),h.e,λb a=>?_,h.b⟩;rcases a with a|a
 ·exact h.p b a
 ·exact⟨O,λd=>by have:=(K.b b d).2;omega,a.2⟩
theorem NK.step (K:NK U B w P tb cf N)(i:kH):∃G:Rg,(∀b,G b->P b)/\iT tb cf N i w G/\∀(w':Hp) (N':oE) (G':Rg),(∀j,j≠i->iT tb cf N' j=iT tb cf N j)->Ext G w w'->(∀b,G' b->G b\/w.size<=b/\¬B b)->iT tb cf N' i w' G'->(∀b,B b->b<w'.size) →
 NK U B w' (λb=>(P b/\¬G b\/G' b)/\b<w'.size) tb cf N':=by
 obtain⟨G,m,u,_,g⟩:=K.sep.jQ iT.loc i;refine⟨G,m,u,λw' N' G' x e r y s=>⟨?_,?_,λb a=>?_,λb a=>⟨(K.b b a).1,s b a⟩⟩⟩
 ·have:=g w' (iT tb cf N') G' x e (λb a=>(r b a).imp id λd=>d.1) y (iT.loc _);refine(Sep.loc iT.loc).mono this λb a d=>⟨?_,a⟩;exact d.imp (λd=>⟨d.1,d.2.2⟩) id
 ·exact Ext.dT K.e e λb a=>.inr (K.p b (m b a)).1
 ·have z:=K.e.1;rcases a.1 with h1|h1
  ·exact⟨(K.p b h1.1).1,(K.p b h1.1).2.1,a.2⟩
  ·rcases r b h1 with h2|h2
   ·exact⟨(K.p b (m b h2)).1,(K.p b (m b h2)).2.1,a.2⟩
   ·exact⟨O,h2.2,a.2⟩
theorem B3 {K:eN [.p]}{body:eN [.p]->Prop}(P:Option Addr->Hp->Prop)(h1:∀r w,P r w->K r w)(h2:∀J:eN [.p],(∀r w,P r w->J r w)->body J):Jn [.p] K body:=Jn.intro (h2 K h1)
def gG:Sl:=⟨none,0,0⟩
def pI (cs:List gS):List Value:=cs.flatMap λc=>[.pointer (some ⟨c.p,0,none⟩),.slice none 0 0,.nilIface]
def N0 (p:Nat)(dD:Sl)(lm:Nat):oE:=⟨p,dD,lm,none,none,gG,[],gG,gG,[],gG,[],[]⟩
def NB (p:Nat)(dD:Sl)(lm q:Nat)(aw:Sl)(ys:List Lay)(tw:Sl)(cs:List gS):oE:=⟨p,dD,lm,some q,some q,aw,ys.map (·.p),aw,tw,pI cs,tw,ys,cs⟩
theorem Fu {p lm:Nat}{dD:Sl}{D:Rg}(e:bK U w)(hz:U.size<w.size)(hp:bY w p (qv cf (N0 p dD lm)))(hm:dH w lm .i64 (.ag 4) [])(ht:cW dD 3 (fZ tb) w D)(hD:∀b,D b->U.size<b/\b<w.size/\b≠p/\b≠lm)(hpl:p≠lm)(h1:U.size<p)(h2:U.size<lm) :
 NK U (· = U.size) w (λb=>D b\/b=p\/b=lm) tb cf (N0 p dD lm):=by
 have d:=hp.lt;have g:=hm.lt;refine⟨⟨λb=>if b=p then .hd else if b=lm then .live else .dD,λi=>?_⟩,e,λb a=>?_,λb a=>O⟩
 ·cases i with
  | hd=>exact⟨⟨.inr (.inl rfl),zC rfl⟩,hp⟩
  | live=>exact⟨⟨.inr (.inr rfl),by show(if lm=p then kH.hd else if lm=lm then kH.live else kH.dD)=.live;rw[zB (Ne.symm hpl),zC rfl]⟩,hm⟩
  | dD=>exact aH.mono ht λb _ a=>⟨.inl a,by show(if b=p then kH.hd else if b=lm then kH.live else kH.dD)=.dD;rw[zB (hD b a).2.2.1,zB (hD b a).2.2.2]⟩
  | sp=>trivial
  | fM=>exact bR.nil _ _ _ _
  | cN=>exact bR.nil _ _ _ _
  | ar k=>trivial
  | ca k=>trivial
  | hn k=>trivial
 ·rcases a with a|a|a
  ·have:=hD b a;omega
  ·omega
  ·omega
theorem NK.xj (K:NK U B w P tb cf N):P N.p/\bY w N.p (qv cf N):=by
 obtain⟨G,b,a⟩:=K.sep.get .hd;exact⟨b _ a.1,a.2⟩
theorem NK.sC (K:NK U B w P tb cf N)(N':oE)(hN':∀j,j≠.hd->iT tb cf N' j=iT tb cf N j)(hp:N'.p=N.p){i:Nat}{v:Value}(hs:(qv cf N).set i v=qv cf N')(hi:i<10){Kk:aP}(hK:∀w' P',NK U B w' P' tb cf N'->Qo w w' N.p->Kk w'):dS (Addr.add ⟨N.p,0,none⟩ i) v w Kk:=by
 obtain⟨G,m,e,d⟩:=K.step .hd;have e:iq N.p (qv cf N) w G:=e;refine e.2.s1 (by simpa[qv]using hi) λw' o g=>hK w' _ (d w' N' G hN' (o.ext.sub λx a=>by rw[a];exact e.1) (λx a=>.inl a) ?_ λx a=>by have:=(K.b x a).2;have:=o.1;omega) o;show iq N'.p (qv cf N') w' G;rw[zH,hs]at g;rw[hp];exact⟨e.1,g⟩
theorem Ou {Y:Lay}(h:N'.ys=N.ys++[Y])(hr:∀j,(∀k,j≠.ar k)->iT tb cf N' j=iT tb cf N j):∀j,j≠kH.ar N.ys.length->iT tb cf N' j=iT tb cf N j:=by
 intro j hj;cases j with
 | ar k=>
  have a:k≠N.ys.length:=λe=>hj (by rw[e]);show rR _ _ _ N'.ys[k]?=rR _ _ _ N.ys[k]?;rw[h]
  congr 1
  rcases Nat.lt_or_gt_of_ne a with h1|h1
  ·rw[ze h1]
  ·rw[zV aE,zV O]
 | _=>exact hr _ (λk e=>by cases e)
theorem NL {Y:gS}(h:N'.cs=N.cs++[Y])(hr:∀j,(∀k,j≠.ca k)->iT tb cf N' j=iT tb cf N j):∀j,j≠kH.ca N.cs.length->iT tb cf N' j=iT tb cf N j:=by
 intro j hj;cases j with
 | ca k=>
  have a:k≠N.cs.length:=λe=>hj (by rw[e]);show ru _ _ N'.cs[k]?=ru _ _ N.cs[k]?;rw[h]
  congr 1
  rcases Nat.lt_or_gt_of_ne a with h1|h1
  ·rw[ze h1]
  ·rw[zV aE,zV O]
 | _=>exact hr _ (λk e=>by cases e)
end Go.Ar
namespace Go.Ar
open Go Go.Vc Go.Proofs
variable {U u w w':Hp}{F B P Q:Rg}{n:Nat}{cs:List Value}{tb:List bZ}{cf:Cf}{N:oE}
theorem FL (p a t b r:Int):qU p a t b r=true↔(32<=p/\p<=1024/\p%16=0)/\(1<=a/\a<=4)/\(1<=t/\t<=4)/\(0<=b/\b<=65536)/\0<=r/\r<=8:=by
 simp only[qU,zF,zU,zT];omega
theorem AN (g:Gl U)(gd:Gd U):iV (λb=>U.size<=b)/\¬(U.size<=1):=by
 refine⟨?_,λh=>by have:=An gd;omega⟩;have d:iV (λ_=>False):=λb a=>a.elim;exact(d.grow g).sub λb a=>.inr a
theorem L5 (cs:List gS)(ls:List Li):gR (cs.map λc=>⟨c,gG⟩) (List.replicate cs.length ⟨ls,[],none⟩)=pI cs:=by
 induction cs with
 | nil=>rfl
 | cons c cs ih=>
  have e1:gR ((c::cs).map λc=>(⟨c,gG⟩:eH)) (List.replicate (c::cs).length ⟨ls,[],none⟩)=jt (⟨c,gG⟩,⟨ls,[],none⟩)++gR (cs.map λc=>(⟨c,gG⟩:eH)) (List.replicate cs.length ⟨ls,[],none⟩):=rfl;rw[e1,ih];rfl
theorem OA (cs:List gS):(pI cs).length=cs.length*3:=by
 induction cs with
 | nil=>rfl
 | cons c cs ih=>simp only[pI,oy,zO,zY,lA]at *;omega
set_option maxRecDepth 8000 in
theorem B6 {s:Sl}{xs:List (Int×Int×Int)}(ha:ie U s xs)(g:Gl U)(gd:Gd U)(p a t b r:Int){R:Option Addr->Int->Hp->Prop}
 (h2:Qf xs=false->∀σ',bK U σ'->R none 2 σ')
 (h1:Qf xs=true->qU p a t b r=false->∀σ',bK U σ'->R none 1 σ')
 (h0:Qf xs=true->qU p a t b r=true->∀σ' L,bK U σ'->HH σ' (λq=>U.size<=q) L (VQ (xs.map Z1) ⟨p.toNat,a.toNat,t.toNat,b.toNat,r.toNat⟩)->R (some ⟨L.p,0,none⟩) 0 σ') :
 Ko.c s p a t b r U R:=by
 refine Ko.o ?_;unfold Ko.v;refine nw (cs:=[.int .i64 p,.int .i64 a,.int .i64 t,.int .i64 b,.int .i64 r]) λv hz e y=>?_;refine Gk (ZQ ha e) λv1 e1=>?_;cases hv:Qf xs with
 | false=>exact cE rfl (h2 hv v1 (e.trans e1))
 | true=>
 have W:=e1.bT y id;refine cB rfl (W.rI rfl (W.rI rfl (W.rI rfl (W.rI rfl (W.rI rfl (PM p a t b r λv2 e2=>?_))))));have X:=(e.trans e1).trans e2;cases hc:qU p a t b r with
 | false=>exact cE rfl (h1 hv hc v2 X)
 | true=>
 have hcf:=(FL p a t b r).1 hc;obtain⟨p,rfl⟩:∃n:Nat,p=(n:Int):=⟨p.toNat,O⟩;obtain⟨a,rfl⟩:∃n:Nat,a=(n:Int):=⟨a.toNat,O⟩;obtain⟨t,rfl⟩:∃n:Nat,t=(n:Int):=⟨t.toNat,O⟩;obtain⟨b,rfl⟩:∃n:Nat,b=(n:Int):=⟨b.toNat,O⟩;obtain⟨r,rfl⟩:∃n:Nat,r=(n:Int):=⟨r.toNat,O⟩;simp only[dE]at h0;have h0:=h0 hv hc;have A:=e2.bT W id;have hxl:=(Qc xs).1 hv;have hz2:=X.1;have hz02:U.size<v2.size:=A.lt;generalize hcfd:(⟨p,a,t,b,r⟩:Cf)=cf at h0;generalize htbd:xs.map Z1=tb at h0;have hdE:∀(q:Nat) (dD:Sl) (C:Nat),qv cf (N0 q dD C)=[.slice dD.a dD.len dD.cap,.int .i64 (p:Int),.int .i64 (a:Int),.int .i64 (t:Int),.int .i64 (b:Int),.int .i64 (r:Int),.pointer none,.slice none 0 0,.slice none 0 0,.map (some C)]:=λq dD C=>by rw[←hcfd];rfl
 refine cB rfl (B3 (λvh w=>∃P q dD C,vh=some ⟨q,0,none⟩/\NK U (· = U.size) w P tb cf (N0 q dD C)/\bY w U.size [.int .i64 (p:Int),.int .i64 (a:Int),.int .i64 (t:Int),.int .i64 (b:Int),.int .i64 (r:Int)]) (λvh w ⟨P,q,dD,C,hvh,K,hbw⟩=>?_) λJ hJ=>?_)
 ·subst hvh;refine hbw.rI rfl (LH (n:=p) O O λv4 sp e4 _ hS=>?_);have hp:cf.aF=p:=by rw[←hcfd]
  have hroom:cf.room=r:=by rw[←hcfd]
  have hbud:cf.dA=b:=by rw[←hcfd]
  have K1:NK U (· = U.size) v4 _ tb cf {N0 q dD C with hs:=some sp}:=K.put e4 .sp (λj H=>by cases j<;>first|rfl|exact absurd rfl H) (by
   show dL v4 _ sp (Va cf.aF);rw[hp];exact hS)
  have hbw4:=e4.bT hbw id;refine aG (K1.sC (NB q dD C sp gG [] gG []) (λj H=>by cases j<;>first|rfl|exact absurd rfl H) rfl (i:=6) rfl O λv5 P5 K5 o5=>?_)
  have af:∀{w:Hp} {P:Rg} {N:oE},NK U (· = U.size) w P tb cf N->U.size≠N.p:=λK e=>(K.p _ K.xj.1).2.1 e.symm;have hbw5:=Ws o5 hbw4 (af K1);refine hbw5.rI rfl ?_;refine ZX (a:=bN) (λ(z:Int) w=>∃(P:Rg) (aw:Sl) (ys:List Lay),z=(ys.length:Int)/\ys.length<=a/\(∀Y∈ys,Y.hs=sp)/\NK U (· = U.size) w P tb cf (NB q dD C sp aw ys gG [])/\bY w U.size [.int .i64 (p:Int),.int .i64 (a:Int),.int .i64 (t:Int),.int .i64 (b:Int),.int .i64 (r:Int)]) (λz _=>a-z.toNat) ⟨P5,gG,[],rfl,by simp,by simp,K5,hbw5⟩ ?_;rintro(z:Int) w6 ⟨P6,aw,ys,rfl,hyl,hys,K6,hbw6⟩;refine cQ (λhlt=>?_) λhge=>?_
  ·refine⟨λu=>u=w6,rfl,aG ⟨some ⟨sp,0,none⟩,λu hu=>by cases hu;rw[add_lit];exact(bY.cell (b:=q) K6.xj.2).trans rfl,⟨(r:Int),λu hu=>by cases hu;rw[add_lit,hbw6.cell];rfl,?_⟩⟩⟩;obtain⟨GS,hGS,hSp⟩:=K6.sep.get .sp;have hSp:dL w6 GS sp (Va cf.aF):=hSp;have hnl:(Va cf.aF).st.length=p:=by rw[hp];simp[Va]
   have hnE:kS xs (Va cf.aF).st.length (r:Int)=0:=by
    unfold kS;rw[zC hv,hnl,zC O]
   refine Ng (ZQ ha K6.e) hSp (r:Int) (λhne=>absurd hnE hne) λ_ v7 Y e7 hYh hA=>?_;rw[hnl,dE,htbd]at hA;have K7:NK U (· = U.size) v7 _ tb cf {NB q dD C sp aw ys gG []with ys:=ys++[Y]}:=K6.put e7 (.ar ys.length) (Ou (N:=NB q dD C sp aw ys gG []) rfl (λj H=>by
    cases j with
    | ar k=>exact absurd rfl (H k)
    | _=>rfl)) (by
    show rR cf.aF cf.room tb (ys++[Y])[ys.length]? v7 _;rw[zp (zD _),qi,hp,hroom];exact hA)
   have V:=e7.bT hbw6 id;refine aG (K7.xj.2.rS (a:=aw.a) (n:=aw.len) (c:=aw.cap) rfl (nw (cs:=[.pointer (some ⟨Y.p,0,none⟩)]) λv8 hz8 e8 hb8=>?_));have K8:=K7.box e8 hz8;obtain⟨G,hG,d,ae⟩:=K8.step .fM;have d:bR aw 1 (fJ (ys.map (·.p))) v8 G:=d;have hal:aw.len=ys.length:=by have:=d.1;simp[fJ]at this;omega
   refine d.app (ys:=[.pointer (some ⟨Y.p,0,none⟩)]) rfl rfl ?_ (by simp[dP]) ?_ ?_ mN λs' v9 _ e9 hr9=>?_
   ·intro j u hu;rw[add_lit,zH,hb8.cell];exact hu
   ·simp only;omega
   ·simp only;omega
   have hz9:=e9.1;have hbw9:bY v9 U.size _:=e9.bT (e8.bT V id) λE=>(K8.p _ (hG _ E)).2.1 (.inl rfl);have K9:=(ae v9 {NB q dD C sp aw ys gG []with ys:=ys++[Y],aw:=s',al:=(ys++[Y]).map (·.p)} (λb=>Grow G v8 b/\b<v9.size) (λj H=>by cases j<;>first|rfl|exact absurd rfl H) e9 (λb y=>y.1.imp id λE=>⟨E,λhB=>by have:=(K8.b b hB).2;omega⟩) (by
    show bR s' 1 (fJ ((ys++[Y]).map (·.p))) v9 _;have:fJ ((ys++[Y]).map (·.p))=fJ (ys.map (·.p))++[.pointer (some ⟨Y.p,0,none⟩)]:=by simp[fJ]
    rw[this];exact aI.mono hr9 λb y E=>⟨E,y⟩) λb hB=>by have:=(K8.b b hB).2;omega).drop (B':=(· = U.size)) λb y=>.inl y
   refine aG (K9.sC (NB q dD C sp s' (ys++[Y]) gG []) (λj H=>by cases j<;>first|rfl|exact absurd rfl H) rfl (i:=7) rfl O λai P10 K10 gT=>?_)
   have M:=Ws gT hbw9 (af K9);exact cP (m:=ys.length+1) O O ⟨⟨P10,s',ys++[Y],by simp,by simp;omega,λZ hZ=>(zL.1 hZ).elim (hys Z) λh=>by
    rw[zN]at h;rw[h];exact hYh,K10,M⟩,O⟩
  ·have hya:ys.length=a:=by omega
   refine hbw6.rI rfl ?_;refine ZX (a:=bN) (λ(z:Int) w=>∃(P:Rg) (tw:Sl) (cs:List gS),z=(cs.length:Int)/\cs.length<=t/\NK U (· = U.size) w P tb cf (NB q dD C sp aw ys tw cs)/\bY w U.size [.int .i64 (p:Int),.int .i64 (a:Int),.int .i64 (t:Int),.int .i64 (b:Int),.int .i64 (r:Int)]) (λz _=>t-z.toNat) ⟨P6,gG,[],rfl,by simp,K6,hbw6⟩ ?_;rintro(z:Int) w7 ⟨P7,tw,cs,rfl,hcsl,K7,V⟩;refine cQ (λhlt=>?_) λhge2=>?_
   ·refine V.rI rfl (OE (ZQ ha K7.e) (b:Int) (λhvf=>by rw[hv]at hvf;cases hvf) (λ_ hn=>absurd ⟨O,O⟩ hn) λ_ _ _ v8 Y e8 hC=>?_);rw[dE,htbd]at hC;have K8:NK U (· = U.size) v8 _ tb cf {NB q dD C sp aw ys tw cs with cs:=cs++[Y]}:=K7.put e8 (.ca cs.length) (NL (N:=NB q dD C sp aw ys tw cs) rfl (λj H=>by
     cases j with
     | ca k=>exact absurd rfl (H k)
     | _=>rfl)) (by
     show ru tb cf.dA (cs++[Y])[cs.length]? v8 _;rw[zp (zD _),qi,hbud];exact hC)
    have hbw8:=e8.bT V id;refine aG (K8.xj.2.rS (a:=tw.a) (n:=tw.len) (c:=tw.cap) rfl (nw (cs:=[.pointer (some ⟨Y.p,0,none⟩),.slice none 0 0,.nilIface]) λv9 hz9 e9 hb9=>?_));have K9:=K8.box e9 hz9;obtain⟨G,hG,d,ae⟩:=K9.step .cN;have d:bR tw 3 (pI cs) v9 G:=d;have hal:tw.len=cs.length:=by have:=d.1;rw[OA]at this;omega
    refine d.app (ys:=[.pointer (some ⟨Y.p,0,none⟩),.slice none 0 0,.nilIface]) rfl rfl ?_ (by simp[dP]) ?_ ?_ mN λs' ai _ e10 hr10=>?_
    ·intro j u hu;rw[add_lit,zH,hb9.cell];exact hu
    ·simp only;omega
    ·simp only;omega
    have hz10:=e10.1;have M:bY ai U.size _:=e10.bT (e9.bT hbw8 id) λE=>(K9.p _ (hG _ E)).2.1 (.inl rfl);have K10:=(ae ai {NB q dD C sp aw ys tw cs with cs:=cs++[Y],tw:=s',tl:=pI (cs++[Y])} (λb=>Grow G v9 b/\b<ai.size) (λj H=>by cases j<;>first|rfl|exact absurd rfl H) e10 (λb y=>y.1.imp id λE=>⟨E,λhB=>by have:=(K9.b b hB).2;omega⟩) (by
     show bR s' 3 (pI (cs++[Y])) ai _;have:pI (cs++[Y])=pI cs++[.pointer (some ⟨Y.p,0,none⟩),.slice none 0 0,.nilIface]:=by simp[pI]
     rw[this];exact aI.mono hr10 λb y E=>⟨E,y⟩) λb hB=>by have:=(K9.b b hB).2;omega).drop (B':=(· = U.size)) λb y=>.inl y
    refine aG (K10.sC (NB q dD C sp aw ys s' (cs++[Y])) (λj H=>by cases j<;>first|rfl|exact absurd rfl H) rfl (i:=8) rfl O λv11 P11 K11 o11=>?_)
    have hbw11:=Ws o11 M (af K10);exact cP (m:=cs.length+1) O O ⟨⟨P11,s',cs++[Y],by simp,by simp;omega,K11,hbw11⟩,O⟩
   ·have hct:cs.length=t:=by omega
    have S:cf.threads=cs.length:=by rw[←hcfd,hct]
    have ah:cf.gY=ys.length:=by rw[←hcfd,hya]
    have hN:=AN g gd;refine h0 w7 ⟨q,sp,C,dD,aw,tw,ys,cs.map λc=>⟨c,gG⟩⟩ K7.e ⟨⟨?_,hys,?_,?_,?_,?_,?_,?_⟩,?_,g.bO K7.e,gd.bO K7.e,hN.1,hN.2⟩
    ·simp[VQ,ah]
    ·simp[VQ,S]
    ·simp[VQ,ah];omega
    ·simp[VQ,ah];omega
    ·simp[VQ,S];omega
    ·simp[VQ,S];omega
    ·intro B hB;have:=Ad hB;rw[this];rfl
    ·refine(Sep.loc CH.loc).mono (G:=λq=>U.size<=q) ?_ λb _ y=>y;obtain⟨ρ,hs⟩:=(Sep.loc iT.loc).mono K7.sep (G:=λq=>U.size<=q) λb _ y=>(K7.p b y).1;refine⟨ρ,λi=>?_⟩;have Q:=hs i;cases i with
     | hd=>exact Q
     | dD=>exact Q
     | sp=>exact Q
     | fM=>exact bR.gF Q
     | cN=>
      show bR tw 3 (gR (cs.map λc=>⟨c,gG⟩) (List.replicate cf.threads ⟨List.replicate tb.length ij,[],none⟩)) w7 _;rw[S,L5];exact Q
     | live=>exact Q
     | ar k=>
      show nC ys[k]? (List.replicate cf.gY (fo cf.aF cf.room tb))[k]? w7 _;have Q:rR cf.aF cf.room tb ys[k]? w7 _:=Q;unfold nC;by_cases hk:k<ys.length
      ·rw[l7,zC O,cU hk];rw[cU hk]at Q;exact Q
      ·rw[zV O];trivial
     | ca k=>
      show qt (cs.map λc=>(⟨c,gG⟩:eH))[k]? (List.replicate cf.threads (⟨List.replicate tb.length ij,[],none⟩:Th))[k]? tb cf.dA w7 _;have Q:ru tb cf.dA cs[k]? w7 _:=Q;unfold qt;by_cases hk:k<cs.length
      ·rw[l7,zC O,za,cU hk];rw[cU hk]at Q;exact Q
      ·rw[za,zV O];trivial
     | hn k=>
      show pF (cs.map λc=>(⟨c,gG⟩:eH))[k]? (List.replicate cf.threads (⟨List.replicate tb.length ij,[],none⟩:Th))[k]? w7 _;unfold pF;by_cases hk:k<cs.length
      ·rw[l7,zC O,za,cU hk];exact iw.nil _ _ _
      ·rw[za,zV O];trivial
 ·have rd:∀(i:Nat) (x:Int),[Value.int .i64 (p:Int),.int .i64 (a:Int),.int .i64 (t:Int),.int .i64 (b:Int),.int .i64 (r:Int)][i]?=some (.int .i64 x)->∀m,bY m U.size [.int .i64 (p:Int),.int .i64 (a:Int),.int .i64 (t:Int),.int .i64 (b:Int),.int .i64 (r:Int)]->cell m (Addr.add ⟨U.size,0,none⟩ i)=some (.int .i64 x):=λi x E m hm=>by
   rw[add_lit,hm.cell,zH];exact E
  refine⟨λm=>bY m U.size [.int .i64 (p:Int),.int .i64 (a:Int),.int .i64 (t:Int),.int .i64 (b:Int),.int .i64 (r:Int)],A,⟨(p:Int),rd 0 _ rfl,⟨(a:Int),rd 1 _ rfl,⟨(t:Int),rd 2 _ rfl,⟨(b:Int),rd 3 _ rfl,⟨(r:Int),rd 4 _ rfl,⟨?_,?_⟩⟩⟩⟩⟩⟩⟩
  ·refine VR (ZQ ha X) hv λdD am ab F=>⟨ab.bT A id,tE λv17 z17 aj hm=>⟨aj.bT (ab.bT A id) id,?_⟩⟩;rw[htbd]at F;have hz16:=ab.1;refine nw (cs:=[.slice dD.a dD.len dD.cap,.int .i64 (p:Int),.int .i64 (a:Int),.int .i64 (t:Int),.int .i64 (b:Int),.int .i64 (r:Int),.pointer none,.slice none 0 0,.slice none 0 0,.map (some am.size)]) λv18 z18 ad hb18=>⟨ad.bT (aj.bT (ab.bT A id) id) id,hJ _ _ ⟨_,v17.size,dD,am.size,rfl,Fu (D:=λq=>v2.size<=q/\q<am.size) (((X.trans ab).trans aj).trans ad) O (by rw[hdE];exact hb18) (ad.fQ (hm .i64 (.ag 4)) id) ?_ (λb y=>O) O O O,ad.bT (aj.bT (ab.bT A id) id) id⟩⟩;exact aH.bO (aH.bO (aH.mono F (G:=λq=>v2.size<=q/\q<am.size) λb y E=>⟨E,y⟩) aj) ad
  ·refine tE λv19 z19 aa hm=>⟨aa.bT A id,VR (ZQ ha (X.trans aa)) hv λdD v20 ac F=>⟨ac.bT (aa.bT A id) id,?_⟩⟩;rw[htbd]at F;have hz20:=ac.1;refine nw (cs:=[.slice dD.a dD.len dD.cap,.int .i64 (p:Int),.int .i64 (a:Int),.int .i64 (t:Int),.int .i64 (b:Int),.int .i64 (r:Int),.pointer none,.slice none 0 0,.slice none 0 0,.map (some v2.size)]) λv21 z21 ak hb21=>⟨ak.bT (ac.bT (aa.bT A id) id) id,hJ _ _ ⟨_,v20.size,dD,v2.size,rfl,Fu (D:=λq=>v19.size<=q/\q<v20.size) (((X.trans aa).trans ac).trans ak) O (by rw[hdE];exact hb21) (ak.fQ (ac.fQ (hm .i64 (.ag 4)) id) id) ?_ (λb y=>O) O O O,ak.bT (ac.bT (aa.bT A id) id) id⟩⟩;exact aH.bO (aH.mono F (G:=λq=>v19.size<=q/\q<v20.size) λb y E=>⟨E,y⟩) ak
end Go.Ar
namespace Go.Ar
open Go Go.Vc Go.Proofs
variable {U u w w':Hp}{F B P Q:Rg}{L:dJ}{H:Hw}{t:Nat}{g:Th}
theorem Mz (u:Value){R:ByteArray->Hp->Prop}(h:Wc Tryz.prog 346 #[u] [.one .str] U R):iL Tryz.prog (.iface 218 u) "freehold/heap.name" [] [.one .str] U R :=
 ⟨218,u,346,rfl,λw=>by kernel_rfl,λxs w=>by kernel_rfl,h⟩
theorem O0 (u:Value){R:ByteArray->Hp->Prop}(h:Wc Tryz.prog 350 #[u] [.one .str] U R):iL Tryz.prog (.iface 228 u) "freehold/heap.name" [] [.one .str] U R :=
 ⟨228,u,350,rfl,λw=>by kernel_rfl,λxs w=>by kernel_rfl,h⟩
theorem RV (u:Value){R:ByteArray->Hp->Prop}(h:Wc Tryz.prog 352 #[u] [.one .str] U R):iL Tryz.prog (.iface 231 u) "freehold/heap.name" [] [.one .str] U R :=
 ⟨231,u,352,rfl,λw=>by kernel_rfl,λxs w=>by kernel_rfl,h⟩
theorem R7 (u:Value){R:ByteArray->Hp->Prop}(h:Wc Tryz.prog 353 #[u] [.one .str] U R):iL Tryz.prog (.iface 233 u) "freehold/heap.name" [] [.one .str] U R :=
 ⟨233,u,353,rfl,λw=>by kernel_rfl,λxs w=>by kernel_rfl,h⟩
theorem Iy (u:Value){R:ByteArray->Hp->Prop}(h:Wc Tryz.prog 351 #[u] [.one .str] U R):iL Tryz.prog (.iface 230 u) "freehold/heap.name" [] [.one .str] U R :=
 ⟨230,u,351,rfl,λw=>by kernel_rfl,λxs w=>by kernel_rfl,h⟩
theorem JY (u:Value){R:ByteArray->Hp->Prop}(h:Wc Tryz.prog 347 #[u] [.one .str] U R):iL Tryz.prog (.iface 220 u) "freehold/heap.name" [] [.one .str] U R :=
 ⟨220,u,347,rfl,λw=>by kernel_rfl,λxs w=>by kernel_rfl,h⟩
theorem MN (u:Value){R:ByteArray->Hp->Prop}(h:Wc Tryz.prog 348 #[u] [.one .str] U R):iL Tryz.prog (.iface 222 u) "freehold/heap.name" [] [.one .str] U R :=
 ⟨222,u,348,rfl,λw=>by kernel_rfl,λxs w=>by kernel_rfl,h⟩
theorem IK (u:Value){R:ByteArray->Hp->Prop}(h:Wc Tryz.prog 354 #[u] [.one .str] U R):iL Tryz.prog (.iface 238 u) "freehold/heap.name" [] [.one .str] U R :=
 ⟨238,u,354,rfl,λw=>by kernel_rfl,λxs w=>by kernel_rfl,h⟩
theorem Ja (u:Value){R:ByteArray->Hp->Prop}(h:Wc Tryz.prog 355 #[u] [.one .str] U R):iL Tryz.prog (.iface 241 u) "freehold/heap.name" [] [.one .str] U R :=
 ⟨241,u,355,rfl,λw=>by kernel_rfl,λxs w=>by kernel_rfl,h⟩
theorem Na (u:Value){R:ByteArray->Hp->Prop}(h:Wc Tryz.prog 356 #[u] [.one .str] U R):iL Tryz.prog (.iface 245 u) "freehold/heap.name" [] [.one .str] U R :=
 ⟨245,u,356,rfl,λw=>by kernel_rfl,λxs w=>by kernel_rfl,h⟩
theorem Ni (u:Value){R:ByteArray->Hp->Prop}(h:Wc Tryz.prog 349 #[u] [.one .str] U R):iL Tryz.prog (.iface 224 u) "freehold/heap.name" [] [.one .str] U R :=
 ⟨224,u,349,rfl,λw=>by kernel_rfl,λxs w=>by kernel_rfl,h⟩
def nN (s:ByteArray):Prop:=(s.toList==(ByteArray.mk #[]).toList)=false
theorem OG (p:Ph){R:ByteArray->Hp->Prop}(hR:∀s σ',bK U σ'->nN s->R s σ'):iL Tryz.prog (mP (some p)) "freehold/heap.name" [] [.one .str] U R := by
 cases p with
 | take k=>
  refine Mz _ (ZK.o ?_);unfold ZK.v;exact nw (cs:=[.int .i64 (k:Int)]) λv hz e hb=>hR _ v e (by unfold nN;decide +kernel)
 | cH k w=>
  refine O0 _ (YR.o ?_);unfold YR.v;exact nw (cs:=[.int .i64 (k:Int),.int .i64 (w:Int)]) λv hz e hb=>hR _ v e (by unfold nN;decide +kernel)
 | cJ k w=>
  refine RV _ (Zd.o ?_);unfold Zd.v;exact nw (cs:=[.int .i64 (k:Int),.int .i64 (w:Int)]) λv hz e hb=>hR _ v e (by unfold nN;decide +kernel)
 | grow k w=>
  refine R7 _ (ZO.o ?_);unfold ZO.v;exact nw (cs:=[.int .i64 (k:Int),.int .i64 (w:Int)]) λv hz e hb=>hR _ v e (by unfold nN;decide +kernel)
 | fill=>
  refine Iy _ (ZM.o ?_);unfold ZM.v;exact nw (cs:=[]) λv hz e hb=>hR _ v e (by unfold nN;decide +kernel)
 | eD m=>
  refine JY _ (ZB.o ?_);unfold ZB.v;exact nw (cs:=[.int .i64 (m:Int)]) λv hz e hb=>hR _ v e (by unfold nN;decide +kernel)
 | find x=>
  refine MN _ (ZJ.o ?_);unfold ZJ.v;exact nw (cs:=[.int .i64 x]) λv hz e hb=>hR _ v e (by unfold nN;decide +kernel)
 | put k x=>
  refine IK _ (ZZ.o ?_);unfold ZZ.v;exact nw (cs:=[.int .i64 (k:Int),.int .i64 x]) λv hz e hb=>hR _ v e (by unfold nN;decide +kernel)
 | back=>
  refine Ja _ (ZP.o ?_);unfold ZP.v;exact nw (cs:=[]) λv hz e hb=>hR _ v e (by unfold nN;decide +kernel)
 | dC s a=>
  refine Na _ (ZI.o ?_);unfold ZI.v;exact nw (cs:=[.int .i64 s,.int .i64 a]) λv hz e hb=>hR _ v e (by unfold nN;decide +kernel)
 | drain=>
  refine Ni _ (ZC.o ?_);unfold ZC.v;exact nw (cs:=[]) λv hz e hb=>hR _ v e (by unfold nN;decide +kernel)
def Uf (H:Hw)(thread:Int):Option Ph:=if 0<=thread/\thread<(H.bQ.length:Int)then(match H.bQ[thread.toNat]? with
 | some g=>g.ph
 | none=>none)else none
theorem MJ (h:HH U F L H)(thread:Int){R:ByteArray->Hp->Prop}(hR:∀s σ',bK U σ'->(s.toList==(ByteArray.mk #[]).toList)=(Uf H thread).isNone->R s σ'):YV.c (aW L.p) thread U R:=by
 refine YV.o ?_;unfold YV.v;have i:Uf H thread=none->R (ByteArray.mk #[]) U:=λd=>hR _ U (Ext.refl _ _) (by rw[d];decide +kernel);refine Un h (QZ (λr w=>w=U/\r = !decide (0<=thread/\thread<(H.bQ.length:Int))) (λr w ⟨y,B⟩=>?_) λJ C=>cB rfl (GY h thread (C _ _ ⟨rfl,rfl⟩)));subst y;refine QZ (λr A=>A=w/\r=(Uf H thread).isNone) (λr A ⟨y,b⟩=>?_) λJ1 u=>?_
 ·rw[y];cases d:Uf H thread with
  | none=>rw[d]at b;exact cE (by rw[b];rfl) (i d)
  | some p=>
   rw[d]at b;have a:=d;unfold Uf at a;split at a
   ·rename_i hth;obtain⟨t,rfl⟩:∃t:Nat,thread=(t:Int):=⟨thread.toNat,O⟩;have j:t<H.bQ.length:=by omega
    obtain⟨x,g,z,m⟩:=h.th j;rw[dE,m]at a;simp only at a;refine cB (by rw[b];rfl) (aG (h.hd.rS rfl (h.tR z m ?_)));rw[a];exact OG p λs σ' e j=>hR s σ' e (by rw[d];exact j)
   ·cases a
 ·by_cases hth:0<=thread/\thread<(H.bQ.length:Int)
  ·obtain⟨t,rfl⟩:∃t:Nat,thread=(t:Int):=⟨thread.toNat,O⟩;have j:t<H.bQ.length:=by omega
   obtain⟨x,g,z,m⟩:=h.th j;refine cB (by rw[B,zJ hth];rfl) (aG (h.hd.rS rfl (h.tR z m ⟨uz _,u _ _ ⟨rfl,?_⟩⟩)));rw[G3];unfold Uf;rw[zC hth,dE,m]
  ·refine cE (by rw[B,zK hth];rfl) (u _ _ ⟨rfl,?_⟩);unfold Uf;rw[zB hth];rfl
def lu (H:Hw):Prop:=1<=H.cf.aF/\H.cf.threads=H.bQ.length/\l6 H.tb
end Go.Ar
namespace Go.Ar
open Go Go.Vc Go.Proofs
open Go.Bu (eX)
variable {U u w w':Hp}{F B P Q:Rg}{L:dJ}{H H':Hw}{t:Nat}{g:Th}
def V8 (H:Hw)(thread kind size align addr:Int)(H':Hw)(a e:Int):Prop:=
 (Kf H thread kind size align addr=.inl e/\e≠0/\H'=H/\a=0)\/∃t p n,Kf H thread kind size align addr=.inr (t,p)/\iC n (eO H t (some p)) t p H' a e
theorem Cy (hso:H8)(h:HH U F L H)(hv:l6 H.tb){thread kind size align addr:Int}{a e:Int}(hw:V8 H thread kind size align addr H' a e){R:Int->Int->Hp->Prop}
 (hR:∀σ' ts',Ext F U σ'->HH σ' (Grow F U) {L with ts:=ts'} H'->R a e σ'):XR.c (aW L.p) thread kind size align addr U R:=by
 rcases hw with⟨hs,hne,rfl,rfl⟩|⟨t,p,n,hs,hr⟩
 ·exact DB hso h hv thread kind size align addr (λi b _ σ' g d=>by
   rw[hs]at b;cases b;exact hR σ' L.ts g d) λt p b=>by rw[hs]at b;cases b
 ·exact DB hso h hv thread kind size align addr (λi b=>by rw[hs]at b;cases b) λm j b=>by
   rw[hs]at b;cases b;exact⟨n,H',a,e,hr,hR⟩
theorem OB (hso:H8)(h:HH U F L H)(hv:l6 H.tb){thread size align:Int}{a e:Int}(hw:V8 H thread 0 size align 0 H' a e){R:Int->Int->Hp->Prop}
 (hR:∀σ' ts',Ext F U σ'->HH σ' (Grow F U) {L with ts:=ts'} H'->R a e σ'):YG.c (aW L.p) thread size align U R:=by
 refine YG.o ?_;unfold YG.v;exact Cy hso h hv hw hR
theorem OF (hso:H8)(h:HH U F L H)(hv:l6 H.tb){thread addr:Int}{a e:Int}(hw:V8 H thread 1 0 0 addr H' a e){R:aN}
 (hR:∀σ' ts',Ext F U σ'->HH σ' (Grow F U) {L with ts:=ts'} H'->R e σ'):Zj.c (aW L.p) thread addr U R:=by
 refine Zj.o ?_;unfold Zj.v;exact Cy hso h hv hw hR
def Qu (H' H:Hw):Prop:=H'.tb=H.tb/\H'.cf=H.cf/\H'.bQ.length=H.bQ.length/\H'.bX.length=H.bX.length
theorem Qu.refl (H:Hw):Qu H H:=⟨rfl,rfl,rfl,rfl⟩
theorem Qu.trans {H1 H2 H3:Hw}(a:Qu H2 H1)(b:Qu H3 H2):Qu H3 H1:=⟨b.1.trans a.1,b.2.1.trans a.2.1,b.2.2.1.trans a.2.2.1,b.2.2.2.trans a.2.2.2⟩
theorem KF (H:Hw)(t:Nat)(f:Th->Th):Qu (H.dV t f) H:=⟨rfl,rfl,by simp[Hw.dV],rfl⟩
theorem KG (H:Hw)(k:Nat)(A:AR)(sp:Sp):Qu {H.cC k A with sp:=sp} H:=⟨rfl,rfl,rfl,by simp[Hw.cC]⟩
theorem NW (H:Hw)(k:Nat)(part:Nat->List Int)(j:Nat):Qu (KN H k part (List.range j)) H:=by
 induction j with
 | zero=>exact Qu.refl H
 | succ j ih=>
  rw[KZ];split
  ·split
   ·exact ih
   ·exact ih.trans (KG _ _ _ _)
  ·exact ih
theorem MK (H:Hw)(own k:Nat)(xs:List Int):Qu (Hx H own k xs) H:=by
 unfold Hx;split
 ·split
  ·exact KG _ _ _ H.sp
  ·refine Qu.trans ?_ (NW _ _ _ _);split
   ·exact KG _ _ _ H.sp
   ·exact Qu.refl H
 ·exact Qu.refl H
theorem Nu (H:Hw)(t k:Nat)(x:Int):Qu (ir H t k x) H:=by
 unfold ir;simp only;split<;>split<;>exact⟨rfl,rfl,by simp[Hw.dV,QD],rfl⟩
theorem JJ (H:Hw)(t:Nat)(p:Ph):Qu (Wt H t p).1 H:=by
 cases p with
 | take k=>simp only[Wt];split<;>exact⟨rfl,rfl,by simp[Vp,QD,Hw.dV,Hw.cC],by simp[Vp,QD,Hw.dV,Hw.cC]⟩
 | cH k w=>
  simp only[Wt];split
  ·split
   ·exact(KG _ _ _ H.sp).trans (KF _ _ _)
   ·exact Qu.refl H
  ·exact Qu.refl H
 | cJ k w=>
  simp only[Wt];split
  ·exact KG _ _ _ H.sp
  ·exact(KG _ _ _ H.sp).trans (KF _ _ _)
 | grow k w=>simp only[Wt];split<;>exact KG _ _ _ _
 | fill=>
  simp only[Wt];split
  ·exact⟨rfl,rfl,by simp[Vp,QD,Hw.dV,Hw.cC],by simp[Vp,QD,Hw.dV,Hw.cC]⟩
  ·exact Qu.refl H
 | eD m=>simp only[Wt];split<;>exact⟨rfl,rfl,by simp[Vp,QD,Hw.dV,Hw.cC],by simp[Vp,QD,Hw.dV,Hw.cC]⟩
 | find x=>
  simp only[Wt,UK];split
  ·exact Qu.refl H
  ·split
   ·exact⟨rfl,rfl,rfl,rfl⟩
   ·exact Qu.trans (H2:={H with live:=Go.Vc.cS H.live x}) ⟨rfl,rfl,rfl,rfl⟩ (KF _ _ _)
 | put k x=>exact Nu H t k x
 | back=>
  simp only[Wt];split
  ·exact(KF _ _ _).trans (MK _ _ _ _)
  ·exact Qu.refl H
 | dC s a=>
  simp only[Wt];split
  ·exact KG _ _ _ H.sp
  ·exact Qu.refl H
 | drain=>exact KF _ _ _
theorem Uk (H:Hw)(t:Nat)(p:Ph):Qu (Qt H t p) H:=(JJ H t p).trans (KF _ _ _)
theorem EF {n:Nat}{H H':Hw}{t:Nat}{p:Ph}{a e:Int}(h:iC n H t p H' a e):Qu H' H:=by
 induction h with
 | done=>exact Uk _ _ _
 | next _ _ _ ih=>exact(Uk _ _ _).trans ih
theorem lu.bS (h:lu H)(k:Qu H' H):lu H':=⟨by rw[k.2.1];exact h.1,by rw[k.2.1,k.2.2.1];exact h.2.1,by rw[k.1];exact h.2.2⟩
end Go.Ar