/- Texts joined. -/
import Derived.Test.YteihenagckcobaaGreatDoorI4
set_option linter.unusedVariables false
set_option linter.unusedSimpArgs false
namespace Go.Proofs
open Go.Vc
set_option maxRecDepth 100000
def Xt.h:Hn:=.q .o2 (.q (.q .o3 .aJ) (.q (.o 12) (.q (.q .o2 .aJ) (.q .o4 .l))))
def Xt.v (a:R2)(b:Int)(c:Hp)(d:Int->Int->Hp->Prop):Prop:=Xq.c a c λe f=>If (!e) (d 0 5 f) (bI a 9 f λh=>Lk .i64 (.ag 4) h b f λi=>aV #[.I 0,.I 0,.I 0,.I 0] 112 f λj k=>aR j 0 (.I ((i.getD (0,0,0,0)).1)) k λl=>aR j 1 (.I ((i.getD (0,0,0,0)).2.1)) l λm=>aR j 2 (.I ((i.getD (0,0,0,0)).2.2.1)) m λn=>aR j 3 (.I ((i.getD (0,0,0,0)).2.2.2)) n λo=>If (!i.isSome) (d 0 8 o) (aQ j 1 o λp=>d p 0 o))
theorem Xt.o {a b c d}(e:Xt.v a b c d):Xt.c a b c d:=Wa Tryz.func25 (x:=Xt.h) (R0 e)
def Xa.h:Hn:=.q .o1 (.q .o6 .l)
def Xa.v (a:R2)(b c:Int)(d:Hp)(e:aN):Prop:=Yx.c a d λf g=>Yf.c f b c g λh i=>e h i
theorem Xa.o {a b c d e}(f:Xa.v a b c d e):Xa.c a b c d e:=Wa Tryz.func27 (x:=Xa.h) (R0 f)
def YN.h:Hn:=.q .o2 (.q .gQ .l)
def YN.v (a:R2)(b c d:Int)(e:Hp)(f:Int->Int->Hp->Prop):Prop:=XT.c a b 0 c d 0 e λg h i=>f g h i
theorem YN.o {a b c d e f}(g:YN.v a b c d e f):YN.c a b c d e f:=Wa Tryz.func43 (x:=YN.h) (R0 g)
def YK.h:Hn:=.q .o2 (.q .o8 .l)
def YK.v (a:R2)(b:Int)(c:Hp)(d:Int->Int->Hp->Prop):Prop:=Yx.c a c λe f=>YA.c e b f λg h i=>d g h i
theorem YK.o {a b c d}(e:YK.v a b c d):YK.c a b c d:=Wa Tryz.func49 (x:=YK.h) (R0 e)
def Xq.h:Hn:=.q .o1 (.q (.cR (.seq [.op,.op,.op,.cX true 6 (RI.ops 6),.op])) .l)
def Xq.v (a:R2)(b:Hp)(c:aO):Prop:=bW (λd e=>c d e) λf=>If (!a.isNone) (bE a 8 b λh=>f (decide (((h.len:Nat):Int)>0)) b) (f false b)
theorem Xq.o {a b c}(d:Xq.v a b c):Xq.c a b c:=Wa Tryz.func58 (x:=Xq.h) (R0 d)
def Yx.h:Hn:=.q .o1 (.q (.q .o3 .aK) (.q .o5 .l))
def Yx.v (a:R2)(b:Hp)(c:Option Addr->Hp->Prop):Prop:=Xq.c a b λd e=>If (!d) (c none e) (bF a 6 e λg=>c g e)
theorem Yx.o {a b c}(d:Yx.v a b c):Yx.c a b c:=Wa Tryz.func61 (x:=Yx.h) (R0 d)
def Zh.h:Hn:=.q .o1 (.q .gQ .aL)
def Zh.v (a:R2)(b c:Int)(d:Hp)(e:aN):Prop:=XT.c a b 1 0 0 c d λf g h=>e g h
theorem Zh.o {a b c d e}(f:Zh.v a b c d e):Zh.c a b c d e:=Wa Tryz.func70 (x:=Zh.h) (R0 f)
def YW.h:Hn:=.q .o2 (.q (.k (.q .o4 (.c .aM (.q .o5 (.c .aM (.q .gQ .aK)))))) (.q .o4 (.q (.q .o2 .aK) (.q .o9 .aM))))
def YW.v (a:R2)(b c d e f:Int)(g:Hp)(h:aN):Prop:=aV #[.I c,.I d,.I e,.I f] 123 g λi j=>Xq.c a j λk l=>If (!k) (h 5 l) (X4.c a b l λm n=>If (!m) (h 1 n) (bE a 8 n λp=>Ix p.a p.len b 3 λq=>bA q 2 n λr=>And (iP r) <| If (!(kg r)) (h 5 n) (aQ i 0 n λs=>aQ i 1 n λt=>aQ i 2 n λu=>aQ i 3 n λv=>Yj.c a s t u v n λw x=>And (iP w) <| If (kg w) (h 1 x) (bE a 8 x λz=>Ix z.a z.len b 3 λaa=>And (iP w) <| aR aa 2 (w) x λab=>h 0 ab))))
theorem YW.o {a b c d e f g h}(i:YW.v a b c d e f g h):YW.c a b c d e f g h:=Wa Tryz.func72 (x:=YW.h) (R0 i)
def YZ.h:Hn:=.q .o3 (.q (.k (.q .o4 (.c (.q .o4 .l) (.q .o5 (.c (.q .o4 .l) (.q .gQ (.c (.q .o4 .l) .l))))))) (.q (.o 17) (.q .o9 (.q (.cR (.tail 4 (RI.ops 4) [.op,.op])) .l))))
def YZ.v (a:R2)(b:Int)(c:Hp)(d:Bool->Int->Int->Int->Hp->Prop):Prop:=aV #[.I 0,.I 0] 125 c λe f=>Xq.c a f λg h=>If (!g) (aR e 0 (.I 0) h λi=>aR e 1 (.I 0) i λj=>aQ e 0 j λk=>aQ e 1 j λl=>d false k l 5 j) (X4.c a b h λm n=>If (!m) (aR e 0 (.I 0) n λo=>aR e 1 (.I 0) o λp=>aQ e 0 p λq=>aQ e 1 p λr=>d false q r 1 p) (bE a 8 n λt=>Ix t.a t.len b 3 λu=>bA u 2 n λv=>And (iP v) <| If (kg v) (aR e 0 (.I 0) n λw=>aR e 1 (.I 0) w λx=>aQ e 0 x λy=>aQ e 1 x λz=>d false y z 5 x) (bE a 8 n λab=>Ix ab.a ab.len b 3 λac=>bA ac 2 n λad=>Zi.c a b (ad) n λae af ag ah=>aV #[.I 0,.I 0] 125 ah λai aj=>aR ai 0 (.I af) aj λak=>aR ai 1 (.I ag) ak λal=>bE a 8 al λan=>Ix an.a an.len b 3 λao=>And (iP ae) <| aR ao 2 (ae) al λap=>And (iP ae) <| aQ ai 0 ap λaq=>aQ ai 1 ap λar=>aR e 0 (.I aq) ap λau=>aR e 1 (.I ar) au λav=>aQ e 0 av λaw=>aQ e 1 av λax=>d (kg ae) aw ax 0 av)))
theorem YZ.o {a b c d}(e:YZ.v a b c d):YZ.c a b c d:=Wa Tryz.func73 (x:=YZ.h) (R0 e)
def XT.h:Hn:=.q .o3 (.q (.q .o5 (.q .o2 (.c (.q .o3 .l) .l))) (.k (.loop [] (.k (.q (.o 11) (.q .o1 (.c (.q (.oq 6) .l) .l)))))))
def XT.v (a:R2)(b c d e f:Int)(g:Hp)(h:Int->Int->Hp->Prop):Prop:=aV #[.I c,.I d,.I e,.I f] 123 g λi j=>aQ i 0 j λk=>aQ i 1 j λl=>aQ i 2 j λm=>aQ i 3 j λn=>YW.c a b k l m n j λo p=>If (o != 0) (h 0 o p) (Yo [] (λq=>q p) λr s=>YZ.c a b s λt u v w x=>aV #[.I 0,.I 0] 125 x λy z=>aR y 0 (.I u) z λaa=>aR y 1 (.I v) aa λab=>If t (aQ y 0 ab λac=>aQ y 1 ab λad=>h ac ad ab) (r ab))
theorem XT.o {a b c d e f g h}(i:XT.v a b c d e f g h):XT.c a b c d e f g h:=Wa Tryz.func81 (x:=XT.h) (R0 i)
def XY.h:Hn:=.q .o1 (.q (.q .o3 .aJ) (.q .o5 .l))
def XY.v (a:R2)(b:Hp)(c:Int->Int->Int->Int->Int->Hp->Prop):Prop:=aV #[.I 0,.I 0,.I 0,.I 0,.I 0] 23 b λd e=>Xq.c a e λf g=>If (!f) (aR d 0 (.I 0) g λh=>aR d 1 (.I 0) h λi=>aR d 2 (.I 0) i λj=>aR d 3 (.I 0) j λk=>aR d 4 (.I 0) k λl=>aQ d 0 l λm=>aQ d 1 l λn=>aQ d 2 l λo=>aQ d 3 l λp=>aQ d 4 l λq=>c m n o p q l) (bU a λr=>bM ((r.add 1).add 0) g λs=>bM ((r.add 1).add 1) g λt=>bM ((r.add 1).add 2) g λu=>bM ((r.add 1).add 3) g λv=>bM ((r.add 1).add 4) g λw=>aR d 0 (.I s) g λx=>aR d 1 (.I t) x λy=>aR d 2 (.I u) y λz=>aR d 3 (.I v) z λaa=>aR d 4 (.I w) aa λab=>aQ d 0 ab λac=>aQ d 1 ab λad=>aQ d 2 ab λae=>aQ d 3 ab λaf=>aQ d 4 ab λag=>c ac ad ae af ag ab)
theorem XY.o {a b c}(d:XY.v a b c):XY.c a b c:=Wa Tryz.func92 (x:=XY.h) (R0 d)
def Kl.h:Hn:=.q .o3 (.q (.k (.q .o4 (.c .aL (.q .o4 .aJ)))) (.q (.cR (.hO true [] [(6,.one .p)] (.take 0 (.take 2 (.all [(1,.all [(3,.take 4 (.all [(5,.take 6 (.done))]))]),(3,.all [(1,.take 4 (.all [(5,.take 6 (.done))]))])]))))) (.q .gQ (.q (.q .o3 (.k (.loop [(36,.I)] (.q .o1 (.q (.c .l .l) (.q (.k (.q (.cR (.held true [7] (.take 0 (.take 1 (.take 2 (.take 3 (.take 4 (.take 5 (.take 6 (.all [(7,.take 8 (.take 9 (.take 10 (.take 11 (.take 12 (.done))))))])))))))))) (.o 11))) .o2)))))) (.q (.q .o3 (.k (.loop [(62,.I)] (.q .o1 (.q (.c .l .l) (.q (.k (.q .o9 (.o 12))) .o2)))))) (.q .o3 .l))))))
def Kl.v (a:Sl)(b c d e f:Int)(g:Hp)(h:Option Addr->Int->Hp->Prop):Prop:=aV #[.I b,.I c,.I d,.I e,.I f] 23 g λi j=>Zs.c a j λk l=>If (!k) (h none 2 l) (aQ i 0 l λm=>aQ i 1 l λn=>aQ i 2 l λo=>aQ i 3 l λp=>aQ i 4 l λq=>Qj.c m n o p q l λr s=>If (!r) (h none 1 s) (Jn [.p] (λ(t:R2) u=>aQ i 0 u λv=>QM.c v u λw x y=>bU t λz=>aR z 6 (.pointer w) y λaa=>aQ i 1 aa λab=>Yo [bN] (λac=>ac 0 aa) λad (ae:Int) af=>If (ae<ab) (eL af λag=>bU t λah=>aU ag ah 6 λai=>aS ag i 4 λaj=>QK.c a ai aj af λak al am=>bE t 7 am λao=>aV #[.pointer ak] 138 am λap aq=>App ao 1 8 138 [.pointer none] ⟨some ap,1,1⟩ aq λar au=>bU t λav=>aR av 7 (.slice ar.a ar.len ar.cap) au λaw=>bL (ae+1) λax=>ad ax aw) (aQ i 2 af λay=>Yo [bN] (λaz=>az 0 af) λa0 (a1:Int) a2=>If (a1<ay) (aQ i 3 a2 λa3=>QL.c a a3 a2 λa4 a5 a6=>bE t 8 a6 λa8=>aV #[.pointer a4,.slice none 0 0,.nilIface] 133 a6 λa9 ba=>App a8 3 48 133 [.pointer none,.slice none 0 0,.nilIface] ⟨some a9,1,1⟩ ba λbb bc=>bU t λbd=>aR bd 8 (.slice bb.a bb.len bb.cap) bc λbe=>bL (a1+1) λbf=>a0 bf be) (h t 0 a2))) λbg=>eL s λbh=>aS bh i 0 λbi=>aS bh i 1 λbj=>
 aS bh i 2 λbk=>aS bh i 3 λbl=>aS bh i 4 λbm=>(Wi.c a s λbn bo=>And (bh bo) <| Nw (.map #[] 0) bo λbp bq=>And (bh bq) <| aV #[.slice bn.a bn.len bn.cap,.I bi,.I bj,.I bk,.I bl,.I bm,.pointer none,.slice none 0 0,.slice none 0 0,.map (some bp.block)] 81 bq λbr bs=>And (bh bs) <| bg (some br) bs) ∧ (Nw (.map #[] 0) s λbt bu=>And (bh bu) <| Wi.c a bu λbv bw=>And (bh bw) <| aV #[.slice bv.a bv.len bv.cap,.I bi,.I bj,.I bk,.I bl,.I bm,.pointer none,.slice none 0 0,.slice none 0 0,.map (some bt.block)] 81 bw λbx bz=>And (bh bz) <| bg (some bx) bz)))
theorem Kl.o {a b c d e f g h}(i:Kl.v a b c d e f g h):Kl.c a b c d e f g h:=Wa Tryz.func101 (x:=Kl.h) (R0 i)
def X4.h:Hn:=.q .o1 (.q (.cR (.seq [.op,.op,.op,.cX true 7 (RI.ops 7),.op])) .l)
def X4.v (a:R2)(b:Int)(c:Hp)(d:aO):Prop:=bW (λe f=>d e f) λg=>If (b≥0) (bE a 8 c λi=>g (decide (b<((i.len:Nat):Int))) c) (g false c)
theorem X4.o {a b c d}(e:X4.v a b c d):X4.c a b c d:=Wa Tryz.func102 (x:=X4.h) (R0 e)
def Yj.h:Hn:=.q .o2 (.q (.q .o2 (.k (.q .o2 (.c (.q (.q (.cR (.seq [.op,.op,.op,.op,.cX false 3 (RI.ops 3)])) .aK) (.q (.cR (.held true [8] (.tk [0,1,2,3,4,5,6,7] (.all [(8,.tk [9,10,11,12,13] (.done))])))) (.q .o1 (.k (.q .o2 (.c (.q .o4 .l) (.q .o2 (.c (.q .o8 .l) .l)))))))) (.q .o2 (.c (.q .o5 .l) (.q .o2 (.c (.q .o3 .l) .l)))))))) .aM)
def Yj.v (a:R2)(b c d e:Int)(f:Hp)(g:Value->Hp->Prop):Prop:=aV #[.I b,.I c,.I d,.I e] 123 f λh i=>aQ h 0 i λj=>If (j==0) (aQ h 1 i λk=>bW (λl m=>If l (g (.nilIface) m) (eL m λn=>bU a λo=>aT n o 0 λp=>aS n h 1 λq=>aS n h 2 λr=>Z1.c p q r m λs t u=>If (t==0) (g (.iface 218 (.agg #[.I s])) u) (If (t==4) (aQ h 1 u λv=>bL (v+256) λw=>bL (w-1) λx=>Nz 256<|bL (x.tdiv 256) λy=>g (.iface 220 (.agg #[.I y])) u) (g (.nilIface) u)))) λz=>If (k<1) (z true i) (aQ h 1 i λaa=>z (decide (aa>16384)) i)) (If (j==1) (aQ h 3 i λab=>g (.iface 222 (.agg #[.I ab])) i) (If (j==2) (g (.iface 224 (.agg #[])) i) (g (.nilIface) i)))
theorem Yj.o {a b c d e f g}(h:Yj.v a b c d e f g):Yj.c a b c d e f g:=Wa Tryz.func103 (x:=Yj.h) (R0 h)
def Zi.h:Hn:=.q .o2 (.q .o7 (.q (.cR (.held true [] (.tk [0,1,2,3,4,5] (.all [(6,.take 7 (.all [(8,.take 9 (.done))]))])))) (.ka [] (.q .o1 (.k (.q .o3 (.c (.q .o2 (.q (.q (.cR (.held true [6] (.tk [0,1,2,3,4,5] (.all [(6,.tk [7,8,9,10,11] (.done))])))) (.q .o2 (.c (.q (.cR (.held true [17] (.tk [0,1,2,3,4,5,6,7,8,9,10,11,12] (.all [(13,.tk [14,15,16] (.all [(17,.done)]))])))) .l) .l))) (.q (.cR (.held true [6] (.tk [0,1,2,3,4,5] (.all [(6,.tk [7,8,9,10,11] (.done))])))) (.q .o8 .l)))) (.q .o3 (.c (.q .o2 (.ka [] (.q (.oq 12) (.c (.q .o9 (.q .o2 (.c (.q .o6 (.q .o5 .l)) .l))) .l)) (.q .o5 .l))) (.q .o3 (.c (.q .o2 (.q (.q (.o 11) (.q .o3 (.c (.q .o6 (.q .o5 .l)) .l))) (.q .o5 .l))) (.q .o3 (.c (.q .o2 (.q (.q .o5 (.q .o2 (.c (.q .o4 .l) .l))) (.q .o5 .l))) (.q .o3 (.c (.q .o2 (.q .o8 (.q .o4 (.q (.cR (.tail 9 (RI.ops 9) [.op])) (.q (.cR (.held true [20] (.tk [0,1,2,3,4,5,6,7,8,9,10,11,12,13,14,15] (.all [(16,.tk [17,18,19] (.all [(20,.done)]))])))) .l))))) (.q .o3 (.c (.q .o2 (.q .o9 (.q (.q .o2 (.c (.q .o4 .l) .l)) (.q (.o 11) .l)))) (.q .o3 (.c (.q .o2 (.q .o9 .l)) (.q .o3 (.c (.q .o2 (.ka [] (.q (.cR (.held true [8] (.tk [0,1,2,3,4,5,6,7] (.all [(8,.tk [9,10,11,12,13] (.done))])))) (.q .o3 (.c .o6 .l))) (.q .o9 (.ka [] (.q .o5 (.c (.cR (.held true [13] (.tk [0,1,2,3,4,5,6,7,8] (.all [(9,.all [(10,.take 11 (.take 12 (.all [(13,.done)])))])])))) .l)) (.q .o6 .l))))) (.q .o3 (.c (.q .o2 (.q .o8 (.q .gQ (.q (.cR (.held true [5] (.take 0 (.take 1 (.take 2 (.take 4 (.all [(3,.all [(5,.done)])]))))))) (.q .o6 .l))))) (.q .o3 (.c (.q .o2 (.cR (.tail 10 (RI.ops 10) [.op]))) (.q .o3 (.c (.q .o2 (.q .o9 (.q .o6 .l))) .l)))))))))))))))))))))))) (.q .o3 .l))))
def Zi.v (a:R2)(b:Int)(c:Value)(d:Hp)(e:Value->Int->Int->Hp->Prop):Prop:=aV #[.I 0,.I 0] 125 d λf g=>bE a 8 g λi=>Ix i.a i.len b 3 λj=>eL g λk=>bU a λl=>aT k l 7 λm=>Zn.c a b g λn o=>And (k o) <| Ix m.a m.len n 1 λp=>fT p o λq=>And (k o) <| Jn [] (λr=>aR f 0 (.I 0) r λs=>aR f 1 (.I 0) s λt=>aQ f 0 t λu=>aQ f 1 t λv=>e (.nilIface) u v t) λw=>∃t52:Int,∃is:Bool,jZ c 218 [.I t52] [.I 0] is ∧ (If is (aV #[.I 0] 218 o λx y=>dW x (.I t52) y λz=>eL z λaa=>bU (some j) λab=>aU aa ab 0 λac=>aS aa x 0 λad=>X3.c ac ad z λae af ag=>If (af==0) (eL ag λah=>bU a λai=>aT ah ai 0 λaj=>aS ah x 0 λak=>Ix aj.a aj.len ak 3 λal=>aS ah al 0 λam=>aS ah x 0 λan=>YB.c a ae am an ag λao ap aq ar=>And (ah ar) <| aR f 0 (.I ap) ar λau=>aR f 1 (.I aq) au λav=>aQ f 0 av λaw=>aQ f 1 av λax=>e (ao) aw ax av) (eL ag λay=>bU (some j) λaz=>aU ay az 0 λa0=>aS ay x 0 λa1=>X6.c a0 a1 ag λa2 a3 a4=>aQ x 0 a4 λa5=>aR f 0 (.I 0) a4 λa6=>aR f 1 (.I 0) a6 λa7=>aQ f 0 a7 λa8=>aQ f 1 a7 λa9=>e (.iface 228 (.agg #[.I a5,.I a2])) a8 a9 a7)) (∃t99:Int,∃t991:Int,∃is1:Bool,jZ c 228 [.I t99,.I t991] [.I 0,.I 0] is1 ∧
 (If is1 (aV #[.I 0,.I 0] 228 o λba bb=>aR ba 0 (.I t99) bb λbc=>aR ba 1 (.I t991) bc λbd=>Jn [] (λbe=>aQ ba 0 be λbf=>aQ ba 1 be λbg=>aR f 0 (.I 0) be λbh=>aR f 1 (.I 0) bh λbi=>aQ f 0 bi λbj=>aQ f 1 bi λbk=>e (.iface 231 (.agg #[.I bf,.I bg])) bj bk bi) λbl=>aQ ba 1 bd λbm=>bE a 0 bd λbo=>aQ ba 0 bd λbp=>Ix bo.a bo.len bp 3 λbq=>aQ bq 2 bd λbr=>If (bm==br) (aQ ba 0 bd λbs=>Wz.c q bs bd λbt bu bv=>If (bu==0) (aQ ba 0 bv λbw=>Ya.c a b bw bt bv λbx=>aR f 0 (.I 0) bx λbz=>aR f 1 (.I 0) bz λb0=>aQ f 0 b0 λb1=>aQ f 1 b0 λb2=>e (.iface 230 (.agg #[])) b1 b2 b0) (bl bv)) (bl bd)) (∃t135:Int,∃t1351:Int,∃is2:Bool,jZ c 231 [.I t135,.I t1351] [.I 0,.I 0] is2 ∧ (If is2 (aV #[.I 0,.I 0] 231 o λb3 b4=>aR b3 0 (.I t135) b4 λb5=>aR b3 1 (.I t1351) b5 λb6=>aQ b3 0 b6 λb7=>aQ b3 1 b6 λb8=>WB.c q b7 b8 b6 λb9 ca cb=>If (((b9.len:Nat):Int)>0) (aQ b3 0 cb λcc=>Ya.c a b cc b9 cb λcd=>aR f 0 (.I 0) cd λce=>aR f 1 (.I 0) ce λcf=>aQ f 0 cf λcg=>aQ f 1 cf λch=>e (.iface 230 (.agg #[])) cg ch cf) (aQ b3 0 cb λci=>aQ b3 1 cb λcj=>aR f 0 (.I 0) cb λck=>aR f 1 (.I 0) ck λcl=>aQ f 0 cl λcm=>aQ f 1 cl λcn=>
 e (.iface 233 (.agg #[.I ci,.I cj])) cm cn cl)) (∃t162:Int,∃t1621:Int,∃is3:Bool,jZ c 233 [.I t162,.I t1621] [.I 0,.I 0] is3 ∧ (If is3 (aV #[.I 0,.I 0] 233 o λco cp=>aR co 0 (.I t162) cp λcq=>aR co 1 (.I t1621) cq λcr=>aQ co 0 cr λcs=>XX.c q cs cr λct cu=>If (ct != 0) (aR f 0 (.I 0) cu λcv=>aR f 1 (.I ct) cv λcw=>aQ f 0 cw λcx=>aQ f 1 cw λcy=>e (.nilIface) cx cy cw) (aQ co 0 cu λcz=>aQ co 1 cu λc0=>aR f 0 (.I 0) cu λc1=>aR f 1 (.I 0) c1 λc2=>aQ f 0 c2 λc3=>aQ f 1 c2 λc4=>e (.iface 231 (.agg #[.I cz,.I c0])) c3 c4 c2)) (∃is4:Bool,jZ c 230 [] [] is4 ∧ (If is4 (aV #[] 230 o λc5 c6=>bE (some j) 1 c6 λc8=>Ix c8.a c8.len 0 2 λc9=>aQ c9 0 c6 λda=>aX c9 1 c6 λdb=>aV #[.I 0,.slice none 0 0] 135 c6 λdc dd=>aR dc 0 (.I da) dd λde=>aR dc 1 (.slice db.a db.len db.cap) de λdf=>bU (some j) λdg=>aR dg 1 (.slice none 0 0) df λdh=>bF (some j) 0 dh λdj=>aQ dc 0 dh λdk=>aX dc 1 dh λdl=>eX dl 1 1 (dl.len:Nat) (dl.cap:Nat) λdm=>XS.c dj dk dm dh λdn dp=>eL dp λdq=>aT dq dc 1 λdr=>Ix dr.a dr.len 0 1 λds=>gC dq bN ds λ(dt:Int)=>bU a λdu=>aT dq du 0 λdv=>aS dq dc 0 λdw=>Ix dv.a dv.len dw 3 λdx=>aS dq dx 0 λdy=>
 aS dq dc 0 λdz=>YB.c a dt dy dz dp λd0 d1 d2 d3=>And (dq d3) <| aR f 0 (.I d1) d3 λd4=>aR f 1 (.I d2) d4 λd5=>aQ f 0 d5 λd6=>aQ f 1 d5 λd7=>e (d0) d6 d7 d5) (∃t217:Int,∃is5:Bool,jZ c 220 [.I t217] [.I 0] is5 ∧ (If is5 (aV #[.I 0] 220 o λd8 d9=>dW d8 (.I t217) d9 λea=>aQ d8 0 ea λeb=>WL.c q eb 1 ea λec ed ee=>If (ed != 0) (aR f 0 (.I 0) ee λef=>aR f 1 (.I ed) ef λeg=>aQ f 0 eg λeh=>aQ f 1 eg λei=>e (.nilIface) eh ei eg) (bL (ec*256) λej=>aQ d8 0 ee λek=>bL (ek*256) λel=>YB.c a ej el (-1) ee λem en eo ep=>aR f 0 (.I en) ep λeq=>aR f 1 (.I eo) eq λer=>aQ f 0 er λes=>aQ f 1 er λet=>e (em) es et er)) (∃t240:Int,∃is6:Bool,jZ c 222 [.I t240] [.I 0] is6 ∧ (If is6 (aV #[.I 0] 222 o λeu ev=>dW eu (.I t240) ev λew=>aQ eu 0 ew λex=>Zg.c a b ex ew λey ez e0 e1=>aR f 0 (.I ez) e1 λe2=>aR f 1 (.I e0) e2 λe3=>aQ f 0 e3 λe4=>aQ f 1 e3 λe5=>e (ey) e4 e5 e3) (∃t250:Int,∃t2501:Int,∃is7:Bool,jZ c 238 [.I t250,.I t2501] [.I 0,.I 0] is7 ∧ (If is7 (aV #[.I 0,.I 0] 238 o λe6 e7=>aR e6 0 (.I t250) e7 λe8=>aR e6 1 (.I t2501) e8 λe9=>Jn [] (λfa=>bE (some j) 1 fa λfc=>eX fc 2 1 (fc.len:Nat) (fc.cap:Nat) λfd=>bU (some j) λfe=>aR fe 1 (.slice fd.a fd.len fd.cap) fa λff=>Jn [] (λfg=>
 WV.c a b fg λfh fi=>aR f 0 (.I 0) fi λfj=>aR f 1 (.I 0) fj λfk=>aQ f 0 fk λfl=>aQ f 1 fk λfm=>e (fh) fl fm fk) λfn=>bF (some j) 0 ff λfp=>XZ.c fp ff λfq fr=>If fq (eL fr λfs=>bU (some j) λft=>aT fs ft 1 λfu=>bU (some j) λfv=>aU fs fv 0 λfw=>WW.c fw fr λfx fy=>And (fs fy) <| App fu 2 32 135 [.I 0,.slice none 0 0] fx fy λfz f0=>And (fs f0) <| bU (some j) λf1=>aR f1 1 (.slice fz.a fz.len fz.cap) f0 λf2=>fn f2) (fn fr)) λf3=>eL e9 λf4=>bU (some j) λf5=>aU f4 f5 0 λf6=>aS f4 e6 0 λf7=>aS f4 e6 1 λf8=>Yu.c f6 f7 f8 e9 λf9 ga gb=>If (((f9.len:Nat):Int)>0) (aQ e6 0 gb λgc=>Ya.c a b gc f9 gb λgd=>f3 gd) (f3 gb)) (∃is8:Bool,jZ c 241 [] [] is8 ∧ (If is8 (aV #[] 241 o λge gf=>bE (some j) 1 gf λgh=>Ix gh.a gh.len 0 2 λgi=>aQ gi 0 gf λgj=>aX gi 1 gf λgk=>aV #[.I 0,.slice none 0 0] 135 gf λgl gm=>aR gl 0 (.I gj) gm λgn=>aR gl 1 (.slice gk.a gk.len gk.cap) gn λgo=>bE (some j) 1 go λgq=>eX gq 2 1 (gq.len:Nat) (gq.cap:Nat) λgr=>Wq.c gr go λgs gt=>bU (some j) λgu=>aR gu 1 (.slice gs.a gs.len gs.cap) gt λgv=>eL gv λgw=>aS gw gl 0 λgx=>aT gw gl 1 λgy=>Zn.c a b gv λgz g0=>And (gw g0) <| Zj.c a gz gx gy g0 λg1=>
 WV.c a b g1 λg2 g3=>aR f 0 (.I 0) g3 λg4=>aR f 1 (.I 0) g4 λg5=>aQ f 0 g5 λg6=>aQ f 1 g5 λg7=>e (g2) g6 g7 g5) (∃t332:Int,∃t3321:Int,∃is9:Bool,jZ c 245 [.I t332,.I t3321] [.I 0,.I 0] is9 ∧ (If is9 (aV #[.I 0,.I 0] 245 o λg8 g9=>aR g8 0 (.I t332) g9 λha=>aR g8 1 (.I t3321) ha λhb=>bE a 7 hb λhd=>aQ g8 1 hb λhe=>Ix hd.a hd.len he 1 λhf=>fT hf hb λhg=>aQ g8 0 hb λhh=>WK.c hg hh hb λhi hj=>w hj) (∃is10:Bool,jZ c 224 [] [] is10 ∧ (If is10 (aV #[] 224 o λhk hl=>bF (some j) 0 hl λhn=>XC.c hn hl λho hp=>bU (some j) λhq=>aR hq 1 (.slice ho.a ho.len ho.cap) hp λhr=>WV.c a b hr λhs ht=>aR f 0 (.I 0) ht λhu=>aR f 1 (.I 0) hu λhv=>aQ f 0 hv λhw=>aQ f 1 hv λhx=>e (hs) hw hx hv) (w o))))))))))))))))))))))
theorem Zi.o {a b c d e}(f:Zi.v a b c d e):Zi.c a b c d e:=Wa Tryz.func104 (x:=Zi.h) (R0 f)
def Y6.h:Hn:=.q .o1 (.q (.q (.cR (.seq [.op,.op,.op,.op,.cX false 4 (RI.ops 4),.op,.cX false 9 (RI.ops 9)])) .aK) (.q .gQ .l))
def Y6.v (a:R2)(b:Int)(c:Hp)(d:ByteArray->Hp->Prop):Prop:=Xq.c a c λe f=>bW (λg h=>bW (λi j=>If i (d (ByteArray.mk #[]) j) (bE a 8 j λl=>Ix l.a l.len b 3 λm=>bA m 2 j λn=>iM Tryz.prog n "freehold/heap.name" [] [.one .str] j fun t33 v3 =>d t33 v3)) λo=>If g (o true h) (bE a 8 h λq=>Ix q.a q.len b 3 λr=>bA r 2 h λs=>And (iP s) <| o (kg s) h)) λt=>If (!e) (t true f) (X4.c a b f λu v=>t (!u) v)
theorem Y6.o {a b c d}(e:Y6.v a b c d):Y6.c a b c d:=Wa Tryz.func131 (x:=Y6.h) (R0 e)
def Qj.h:Hn:=.q .o2 (.q (.cR (.seq [.op,.op,.op,.op,.cX true 3 (RI.ops 3),.op,.cX true 4 (RI.ops 4),.op,.cX true 3 (RI.ops 3),.op,.cX true 3 (RI.ops 3),.op,.cX true 3 (RI.ops 3),.op,.cX true 3 (RI.ops 3),.op,.cX true 3 (RI.ops 3),.op,.cX true 3 (RI.ops 3),.op,.cX true 3 (RI.ops 3),.op,.cX true 3 (RI.ops 3),.op])) .l)
def Qj.v (a b c d e:Int)(f:Hp)(g:aO):Prop:=aV #[.I a,.I b,.I c,.I d,.I e] 23 f λh i=>aQ h 0 i λj=>bW (λk l=>bW (λm n=>bW (λo p=>bW (λq r=>bW (λs t=>bW (λu v=>bW (λw x=>bW (λy z=>bW (λaa ab=>bW (λac ad=>g ac ad) λae=>If aa (aQ h 4 ab λaf=>ae (decide (af<=8)) ab) (ae false ab)) λag=>If y (aQ h 4 z λah=>ag (decide (ah≥0)) z) (ag false z)) λai=>If w (aQ h 3 x λaj=>ai (decide (aj<=65536)) x) (ai false x)) λak=>If u (aQ h 3 v λal=>ak (decide (al≥0)) v) (ak false v)) λam=>If s (aQ h 2 t λan=>am (decide (an<=4)) t) (am false t)) λao=>If q (aQ h 2 r λap=>ao (decide (ap≥1)) r) (ao false r)) λaq=>If o (aQ h 1 p λar=>aq (decide (ar<=4)) p) (aq false p)) λau=>If m (aQ h 1 n λav=>au (decide (av≥1)) n) (au false n)) λaw=>If k (aQ h 0 l λax=>Nz 16 <| aw ((ax.tmod 16)==0) l) (aw false l)) λay=>If (j≥32) (aQ h 0 i λaz=>ay (decide (az<=1024)) i) (ay false i)
theorem Qj.o {a b c d e f g}(h:Qj.v a b c d e f g):Qj.c a b c d e f g:=Wa Tryz.func141 (x:=Qj.h) (R0 h)
def Zn.h:Hn:=.q .o1 (.q .o8 .l)
def Zn.v (a:R2)(b:Int)(c:Hp)(d:aN):Prop:=bE a 7 c λf=>Nz ((f.len:Nat):Int) <| d (b.tmod ((f.len:Nat):Int)) c
theorem Zn.o {a b c d}(e:Zn.v a b c d):Zn.c a b c d:=Wa Tryz.func146 (x:=Zn.h) (R0 e)
def YB.h:Hn:=.q .o2 (.q (.cR (.held true [12] (.tk [0,1,2,3,4,5,6,7,8,9] (.all [(10,.take 11 (.all [(12,.done)]))])))) (.q .o4 .l))
def YB.v (a:R2)(b c d:Int)(e:Hp)(f:Value->Int->Int->Hp->Prop):Prop:=aV #[.I 0,.I 0] 125 e λg h=>eL h λi=>bU a λj=>gC i .m (j.add 9) λ(k:Option Nat)=>XU.c a b h λl m=>And (i m) <| ke .i64 (.ag 4) k b (b,c,d,l) m λn=>aR g 0 (.I b) n λo=>aR g 1 (.I 0) o λp=>aQ g 0 p λq=>aQ g 1 p λr=>f (.nilIface) q r p
theorem YB.o {a b c d e f}(g:YB.v a b c d e f):YB.c a b c d e f:=Wa Tryz.func148 (x:=YB.h) (R0 g)
def Ya.h:Hn:=.cR (.held true [20] (.tk [0,1,2,3,4,5,6,7,8,9,10,11,12,13,14,15] (.all [(16,.all [(17,.take 18 (.take 19 (.all [(20,.done)])))])])))
def Ya.v (a:R2)(b c:Int)(d:Sl)(e:Hp)(f:aP):Prop:=eL e λg=>bU a λh=>aT g h 8 λi=>bU a λj=>aT g j 8 λk=>Ix k.a k.len b 3 λl=>aT g l 1 λm=>aV #[.I c,.slice d.a d.len d.cap] 135 e λn o=>And (g o) <| App m 2 32 135 [.I 0,.slice none 0 0] ⟨some n,1,1⟩ o λp q=>And (g q) <| Ix i.a i.len b 3 λr=>aR r 1 (.slice p.a p.len p.cap) q λs=>f s
theorem Ya.o {a b c d e f}(g:Ya.v a b c d e f):Ya.c a b c d e f:=Wa Tryz.func151 (x:=Ya.h) (R0 g)
def Zg.h:Hn:=.q .o2 (.q (.o 12) (.q (.q .o2 (.c (.ka [] (.q .o4 (.q .o2 (.c (.q (.o 16) (.q (.cR (.seq [.op,.op,.op,.cX true 2 [.op,.op],.op,.cX true 3 (RI.ops 3)])) (.c (.q .o3 .l) .l))) .l))) (.q .o3 .l)) .l)) (.q .o6 (.q (.q .o3 (.c (.q .o9 .l) .l)) (.q .o7 (.q .o8 .l))))))
def Zg.v (a:R2)(b c:Int)(d:Hp)(e:Value->Int->Int->Hp->Prop):Prop:=aV #[.I 0,.I 0] 125 d λf g=>bI a 9 g λi=>Lk .i64 (.ag 4) i c g λj=>aV #[.I 0,.I 0,.I 0,.I 0] 112 g λk l=>aR k 0 (.I ((j.getD (0,0,0,0)).1)) l λm=>aR k 1 (.I ((j.getD (0,0,0,0)).2.1)) m λn=>aR k 2 (.I ((j.getD (0,0,0,0)).2.2.1)) n λo=>aR k 3 (.I ((j.getD (0,0,0,0)).2.2.2)) o λp=>If (!j.isSome) (Jn [] (λq=>aR f 0 (.I 0) q λr=>aR f 1 (.I 8) r λs=>aQ f 0 s λt=>aQ f 1 s λu=>e (.nilIface) t u s) λv=>XU.c a c p λw x=>If (w≥0) (bE a 7 x λz=>Ix z.a z.len w 1 λaa=>fT aa x λab=>YH.c ab c x λac ad ae af=>bW (λag ah=>bW (λai aj=>If ai (aR f 0 (.I 0) aj λak=>aR f 1 (.I 9) ak λal=>aQ f 0 al λam=>aQ f 1 al λan=>e (.nilIface) am an al) (v aj)) λao=>If ag (ao (ad==c) ah) (ao false ah)) λap=>If (ae==0) (ap (decide (ac≥0)) af) (ap false af)) (v x)) (bI a 9 p λar=>ld .i64 (.ag 4) ar c p λau=>aQ k 2 au λav=>If (av<0) (Nz 256<|bL (c.tdiv 256) λaw=>aQ k 3 au λax=>aR f 0 (.I 0) au λay=>aR f 1 (.I 0) ay λaz=>aQ f 0 az λa0=>aQ f 1 az λa1=>e (.iface 245 (.agg #[.I aw,.I ax])) a0 a1 az) (aQ k 2 au λa2=>aV #[.I c] 3 au λa3 a4=>Ya.c a b a2 ⟨some a3,1,1⟩ a4 λa5=>aQ k 2 a5 λa6=>aR f 0 (.I 0) a5 λa7=>
 aR f 1 (.I 0) a7 λa8=>aQ f 0 a8 λa9=>aQ f 1 a8 λba=>e (.iface 238 (.agg #[.I a6,.I c])) a9 ba a8))
theorem Zg.o {a b c d e}(f:Zg.v a b c d e):Zg.c a b c d e:=Wa Tryz.func156 (x:=Zg.h) (R0 f)
def WV.h:Hn:=.q .o1 (.q (.q .gQ .aK) (.q .o3 .l))
def WV.v (a:R2)(b:Int)(c:Hp)(d:Value->Hp->Prop):Prop:=bE a 8 c λf=>Ix f.a f.len b 3 λg=>aX g 1 c λh=>If (((h.len:Nat):Int)==0) (d (.nilIface) c) (d (.iface 241 (.agg #[])) c)
theorem WV.o {a b c d}(e:WV.v a b c d):WV.c a b c d:=Wa Tryz.func160 (x:=WV.h) (R0 e)
def Zj.h:Hn:=.q .o1 (.q .o7 (.q (.q .o4 (.k (.loop [(23,.I)] (.q .o1 (.q (.c .l .l) (.q (.k (.q .o3 (.q .o4 (.o 11)))) .o2)))))) (.ka [] (.q (.oq 9) (.c (.q (.cR (.held true [] (.tk [0,1,2,3,4,5,6,7,8,9,10] (.all [(11,.tk [12,13,14,15,16] (.done))])))) (.q (.cR (.seq [.op,.op,.cX true 2 [.op,.op]])) (.c .l .l))) .l)) (.q .o3 (.k (.loop [(72,.I)] (.q .o1 (.q (.c .l .l) (.q (.k (.q .o5 (.q .o3 (.c (.cR (.tail 10 (RI.ops 10) [.op])) .l)))) .o2)))))))))
def Zj.v (a:R2)(b c:Int)(d:Sl)(e:Hp)(f:aP):Prop:=aV #[.I c,.slice d.a d.len d.cap] 135 e λg h=>bU a λi=>aX i 7 h λj=>Mk ((j.len:Nat):Int) ((j.len:Nat):Int) 24 34 [.slice none 0 0] h λk l=>aX g 1 l λm=>Yo [bN] (λn=>n 0 l) λo (p:Int) q=>If (p<((m.len:Nat):Int)) (Ix m.a m.len p 1 λr=>bM r q λs=>XU.c a s q λt u=>Ix k.a k.len t 1 λv=>jr v u λw=>aV #[.I s] 3 u λx y=>App w 1 8 3 [.I 0] ⟨some x,1,1⟩ y λz aa=>Ix k.a k.len t 1 λab=>dW ab (.slice z.a z.len z.cap) aa λac=>bL (p+1) λad=>o ad ac) (Jn [] (λae=>Yo [bN] (λaf=>af 0 ae) λag (ah:Int) ai=>If (ah<((k.len:Nat):Int)) (Ix k.a k.len ah 1 λaj=>jr aj ai λak=>If (((ak.len:Nat):Int)>0) (bE a 7 ai λam=>Ix am.a am.len ah 1 λan=>fT an ai λao=>aQ g 0 ai λap=>WM.c ao ap ak ai λaq ar=>bL (ah+1) λau=>ag au ar) (bL (ah+1) λav=>ag av ai)) (f ai)) λaw=>Ix k.a k.len b 1 λax=>jr ax q λay=>aX g 1 q λaz=>If (((ay.len:Nat):Int)==((az.len:Nat):Int)) (eL q λa0=>bU a λa1=>aT a0 a1 7 λa2=>Ix a2.a a2.len b 1 λa3=>gC a0 .p a3 λ(a4:R2)=>aS a0 g 0 λa5=>aT a0 g 1 λa6=>WE.c a4 a5 a6 q λa7 a8 a9=>And (a0 a9) <| bW (λba bb=>If ba (f bb) (aw bb)) λbc=>If a7 (bc (a8==0) a9) (bc false a9)) (aw q))
theorem Zj.o {a b c d e f}(g:Zj.v a b c d e f):Zj.c a b c d e f:=Wa Tryz.func162 (x:=Zj.h) (R0 g)
def XU.h:Hn:=.q .o2 (.q (.q .o2 .aK) (.q .o7 .l))
def XU.v (a:R2)(b:Int)(c:Hp)(d:aN):Prop:=aV #[.I b] 3 c λe f=>bM e f λg=>If (g<0) (d (-1) f) (bE a 7 f λi=>Wk.c i ⟨250,#[],#[.pointer (some e)]⟩ f λj k=>d j k)
theorem XU.o {a b c d}(e:XU.v a b c d):XU.c a b c d:=Wa Tryz.func205 (x:=XU.h) (R0 e)
def YQ.h:Hn:=.q .o1 (.q .o5 .l)
def YQ.v (a:R2)(b:Addr)(c:Hp)(d:aO):Prop:=bM b c λe=>Nz 256<|bL (e.tdiv 256) λf=>YF.c a f c λg h=>d g h
theorem YQ.o {a b c d}(e:YQ.v a b c d):YQ.c a b c d:=Wa Tryz.func250 (x:=YQ.h) (R0 e)
def ZK.h:Hn:=.q .o2 .aM
def ZK.v (a:Int)(b:Hp)(c:ByteArray->Hp->Prop):Prop:=aV #[.I a] 218 b λd e=>c (ByteArray.mk #[116,97,107,101]) e
theorem ZK.o {a b c}(d:ZK.v a b c):ZK.c a b c:=Wa Tryz.func346 (x:=ZK.h) (R0 d)
def Zz.h:Hn:=.q .o2 .aM
def Zz.v (a:Int)(b:Hp)(c:ByteArray->Hp->Prop):Prop:=aV #[.I a] 220 b λd e=>c (ByteArray.mk #[108,97,114,103,101]) e
theorem Zz.o {a b c}(d:Zz.v a b c):Zz.c a b c:=Wa Tryz.func347 (x:=Zz.h) (R0 d)
def ZM.h:Hn:=.q .o2 .aM
def ZM.v (a:Int)(b:Hp)(c:ByteArray->Hp->Prop):Prop:=aV #[.I a] 222 b λd e=>c (ByteArray.mk #[102,105,110,100]) e
theorem ZM.o {a b c}(d:ZM.v a b c):ZM.c a b c:=Wa Tryz.func348 (x:=ZM.h) (R0 d)
def ZA.h:Hn:=.q .o2 .aM
def ZA.v (a:Hp)(b:ByteArray->Hp->Prop):Prop:=aV #[] 224 a λc d=>b (ByteArray.mk #[100,114,97,105,110]) d
theorem ZA.o {a b}(c:ZA.v a b):ZA.c a b:=Wa Tryz.func349 (x:=ZA.h) (R0 c)
def YP.h:Hn:=.q .o2 .aM
def YP.v (a b:Int)(c:Hp)(d:ByteArray->Hp->Prop):Prop:=aV #[.I a,.I b] 228 c λe f=>d (ByteArray.mk #[116,114,97,110,115,102,101,114]) f
theorem YP.o {a b c d}(e:YP.v a b c d):YP.c a b c d:=Wa Tryz.func350 (x:=YP.h) (R0 e)
def ZI.h:Hn:=.q .o2 .aM
def ZI.v (a:Hp)(b:ByteArray->Hp->Prop):Prop:=aV #[] 230 a λc d=>b (ByteArray.mk #[102,105,108,108]) d
theorem ZI.o {a b}(c:ZI.v a b):ZI.c a b:=Wa Tryz.func351 (x:=ZI.h) (R0 c)
def Zc.h:Hn:=.q .o2 .aM
def Zc.v (a b:Int)(c:Hp)(d:ByteArray->Hp->Prop):Prop:=aV #[.I a,.I b] 231 c λe f=>d (ByteArray.mk #[99,101,110,116,114,97,108]) f
theorem Zc.o {a b c d}(e:Zc.v a b c d):Zc.c a b c d:=Wa Tryz.func352 (x:=Zc.h) (R0 e)
def ZJ.h:Hn:=.q .o2 .aM
def ZJ.v (a b:Int)(c:Hp)(d:ByteArray->Hp->Prop):Prop:=aV #[.I a,.I b] 233 c λe f=>d (ByteArray.mk #[103,114,111,119]) f
theorem ZJ.o {a b c d}(e:ZJ.v a b c d):ZJ.c a b c d:=Wa Tryz.func353 (x:=ZJ.h) (R0 e)
def ZX.h:Hn:=.q .o2 .aM
def ZX.v (a b:Int)(c:Hp)(d:ByteArray->Hp->Prop):Prop:=aV #[.I a,.I b] 238 c λe f=>d (ByteArray.mk #[112,117,116]) f
theorem ZX.o {a b c d}(e:ZX.v a b c d):ZX.c a b c d:=Wa Tryz.func354 (x:=ZX.h) (R0 e)
def ZH.h:Hn:=.q .o2 .aM
def ZH.v (a:Hp)(b:ByteArray->Hp->Prop):Prop:=aV #[] 241 a λc d=>b (ByteArray.mk #[98,97,99,107]) d
theorem ZH.o {a b}(c:ZH.v a b):ZH.c a b:=Wa Tryz.func355 (x:=ZH.h) (R0 c)
def ZL.h:Hn:=.q .o2 .aM
def ZL.v (a b:Int)(c:Hp)(d:ByteArray->Hp->Prop):Prop:=aV #[.I a,.I b] 245 c λe f=>d (ByteArray.mk #[103,105,118,101]) f
theorem ZL.o {a b c d}(e:ZL.v a b c d):ZL.c a b c d:=Wa Tryz.func356 (x:=ZL.h) (R0 e)
end Go.Proofs
namespace Go.Ar
open Go Go.Vc Go.Proofs
def mE:Option Ph->Value
 | none=>.nilIface
 | some (.take k)=>.iface 218 (.agg #[.int .i64 (k:Int)])
 | some (.cH k w)=>.iface 228 (.agg #[.int .i64 (k:Int),.int .i64 (w:Int)])
 | some (.cJ k w)=>.iface 231 (.agg #[.int .i64 (k:Int),.int .i64 (w:Int)])
 | some (.grow k w)=>.iface 233 (.agg #[.int .i64 (k:Int),.int .i64 (w:Int)])
 | some .fill=>.iface 230 (.agg #[])
 | some (.eD m)=>.iface 220 (.agg #[.int .i64 (m:Int)])
 | some (.find x)=>.iface 222 (.agg #[.int .i64 x])
 | some (.put k x)=>.iface 238 (.agg #[.int .i64 (k:Int),.int .i64 x])
 | some .back=>.iface 241 (.agg #[])
 | some (.dC s a)=>.iface 245 (.agg #[.int .i64 s,.int .i64 a])
 | some .drain=>.iface 224 (.agg #[])
theorem tK (p:Option Ph):iP (mE p):=by
 cases p with
 | none=>exact .inl rfl
 | some p=>cases p<;>exact .inr ⟨_,_,rfl⟩
theorem Gz (p:Option Ph):kg (mE p)=p.isNone:=by
 cases p with
 | none=>rfl
 | some p=>cases p<;>rfl
inductive kF where
 | hd|dD|sp|fL|cN|live
 | ar (k:Nat)
 | ca (k:Nat)
 | hn (k:Nat)
 deriving DecidableEq
structure eH where
 c:gO
 h:Sl
structure dM where
 p:Nat
 hs:Nat
 lm:Nat
 dD:Sl
 fL:Sl
 cN:Sl
 ys:List Lay
 ts:List eH
def xd (L:dM)(c:Cf):List Value:=[.slice L.dD.a L.dD.len L.dD.cap,.int .i64 (c.aF:Int),.int .i64 (c.gV:Int),.int .i64 (c.threads:Int),.int .i64 (c.dA:Int),.int .i64 (c.room:Int),
 .pointer (some ⟨L.hs,0,none⟩),.slice L.fL.a L.fL.len L.fL.cap,.slice L.cN.a L.cN.len L.cN.cap,.map (some L.lm)]
def jj (x:eH×Th):List Value:=[.pointer (some ⟨x.1.c.p,0,none⟩),.slice x.1.h.a x.1.h.len x.1.h.cap,mE x.2.ph]
def gM (ts:List eH)(bQ:List Th):List Value:=(ts.zip bQ).flatMap jj
theorem Hg:∀{ts:List eH} {bQ:List Th},ts.length=bQ.length->(gM ts bQ).length=bQ.length*3
 | [],[],_=>rfl
 | x::ts,h::bQ,e=>by
  have e1:gM (x::ts) (h::bQ)=jj (x,h)++gM ts bQ:=rfl;have a:(jj (x,h)).length=3:=rfl;rw[e1,zO,Hg (by simpa using e),a,zY];omega
 | [],_::_,e=>by simp at e
 | _::_,[],e=>by simp at e
theorem y5:∀{ts:List eH} {bQ:List Th} {i:Nat} {x:eH} {h:Th},ts[i]?=some x->bQ[i]?=some h->∀{d:Nat},d<3->(gM ts bQ)[3*i+d]?=(jj (x,h))[d]?
 | [],_,_,_,_,h1,_,_,_=>by simp at h1
 | _::_,[],_,_,_,_,h2,_,_=>by simp at h2
 | y::ts,g::bQ,0,x,h,h1,h2,d,hd=>by
  have e1:gM (y::ts) (g::bQ)=jj (y,g)++gM ts bQ:=rfl;have a:(jj (y,g)).length=3:=rfl;simp at h1 h2;subst h1;subst h2;rw[e1,ze O];congr 1;omega
 | y::ts,g::bQ,i+1,x,h,h1,h2,d,hd=>by
  have e1:gM (y::ts) (g::bQ)=jj (y,g)++gM ts bQ:=rfl;have a:(jj (y,g)).length=3:=rfl;rw[e1,zp O,a,show 3*(i+1)+d-3=3*i+d by omega];exact y5 (by simpa using h1) (by simpa using h2) hd
theorem yd:∀{ts:List eH} {bQ:List Th} {i:Nat} {x:eH} {h:Th},ts[i]?=some x->bQ[i]?=some h->∀{d:Nat} {v:Value} {x':eH} {h':Th},d<3->jj (x',h')=(jj (x,h)).set d v →
 (gM ts bQ).set (3*i+d) v=gM (ts.set i x') (bQ.set i h')
 | [],_,_,_,_,h1,_,_,_,_,_,_,_=>by simp at h1
 | _::_,[],_,_,_,_,h2,_,_,_,_,_,_=>by simp at h2
 | y::ts,g::bQ,0,x,h,h1,h2,d,v,x',h',hd,e=>by
  have e1:gM (y::ts) (g::bQ)=jj (y,g)++gM ts bQ:=rfl;have e2:gM ((y::ts).set 0 x') ((g::bQ).set 0 h')=jj (x',h')++gM ts bQ:=rfl;have a:(jj (y,g)).length=3:=rfl;simp at h1 h2;subst h1;subst h2;rw[e1,e2,List.set_append_left _ _ O,e,show 3*0+d=d by omega]
 | y::ts,g::bQ,i+1,x,h,h1,h2,d,v,x',h',hd,e=>by
  have e1:gM (y::ts) (g::bQ)=jj (y,g)++gM ts bQ:=rfl;have e2:gM ((y::ts).set (i+1) x') ((g::bQ).set (i+1) h')=jj (y,g)++gM (ts.set i x') (bQ.set i h'):=rfl;have a:(jj (y,g)).length=3:=rfl;rw[e1,e2,List.set_append_right _ _ O,a,show 3*(i+1)+d-3=3*i+d by omega];rw[yd (by simpa using h1) (by simpa using h2) hd e]
def nJ (y:Option Lay)(a:Option AR):Hp->Rg->Prop:=λU F=>match y,a with
 | some Y,some A=>dG U F Y A (cK A Y)
 | _,_=>True
def qH (x:Option eH)(h:Option Th)(tb:List bZ)(bud:Nat):Hp->Rg->Prop:=λU F=>match x,h with
 | some x,some h=>eA U F x.c tb bud h.ls
 | _,_=>True
def po (x:Option eH)(h:Option Th):Hp->Rg->Prop:=λU F=>match x,h with
 | some x,some h=>ir x.h h.bP U F
 | _,_=>True
def CH (H:Hw)(L:dM):kF->Hp->Rg->Prop
 | .hd=>iq L.p (xd L H.cf)
 | .dD=>cU L.dD 3 (fX H.tb)
 | .sp=>λU F=>dK U F L.hs H.sp
 | .fL=>cU L.fL 1 (fJ (L.ys.map (·.p)))
 | .cN=>bR L.cN 3 (gM L.ts H.bQ)
 | .live=>jx L.lm .i64 (.ag 4) H.live
 | .ar k=>nJ L.ys[k]? H.bX[k]?
 | .ca t=>qH L.ts[t]? H.bQ[t]? H.tb H.cf.dA
 | .hn t=>po L.ts[t]? H.bQ[t]?
theorem nJ.loc (y:Option Lay)(a:Option AR):dL (nJ y a):=by
 intro U σ' F G h hz hs;unfold nJ at *;split at h
 ·exact dG.loc _ _ _ _ h hz hs
 ·trivial
theorem qH.loc (x:Option eH)(h:Option Th)(tb:List bZ)(bud:Nat):dL (qH x h tb bud):=by
 intro U σ' F G h hz hs;unfold qH at *;split at h
 ·exact eA.loc _ _ _ _ h hz hs
 ·trivial
theorem po.loc (x:Option eH)(h:Option Th):dL (po x h):=by
 intro U σ' F G h hz hs;unfold po at *;split at h
 ·exact ir.loc _ _ _ _ _ _ h hz hs
 ·trivial
theorem CH.loc {H:Hw}{L:dM}:∀i,dL (CH H L i)
 | .hd=>iq.loc _ _
 | .dD=>cU.loc _ _ _
 | .sp=>dK.loc
 | .fL=>cU.loc _ _ _
 | .cN=>bR.loc _ _ _
 | .live=>jx.loc _ _ _ _
 | .ar k=>nJ.loc _ _
 | .ca t=>qH.loc _ _ _ _
 | .hn t=>po.loc _ _
structure HS (L:dM) (H:Hw):Prop where
 ys:L.ys.length=H.bX.length
 hs:∀Y∈L.ys,Y.hs=L.hs
 ts:L.ts.length=H.bQ.length
 a1:1<=H.bX.length
 a2:H.bX.length<=4
 t1:1<=H.bQ.length
 t2:H.bQ.length<=4
 tb:∀A∈H.bX,A.tb=H.tb
structure HH (U:Hp) (F:Rg) (L:dM) (H:Hw):Prop where
 s:HS L H
 sep:Sep (CH H L) U F
 g:Gl U
 gd:Gd U
 o:iN F
 o2:¬F 1
variable {U:Hp}{F:Rg}{L:dM}{H:Hw}{t k:Nat}
theorem HH.bO (h:HH U F L H){σ':Hp}(e:bK U σ'):HH σ' F L H:=⟨h.s,(Sep.loc CH.loc).bO h.sep e,h.g.bO e,h.gd.bO e,h.o,h.o2⟩
theorem HH.bS (h:HH U F L H){σ':Hp}{T:Rg}(e:Ext T U σ')(hT:∀b,b<U.size->F b->¬T b)(hg:iN T)(hg2:¬T 1):HH σ' F L H:=⟨h.s,(Sep.loc CH.loc).bS h.sep e hT,h.g.bS e hg,h.gd.bS e hg2,h.o,h.o2⟩
theorem BJ {U:Hp}(g:Gd U):1<U.size:=g.lt
theorem HH.mono (h:HH U F L H){G:Rg}(hs:∀b,b<U.size->F b->G b)(o:iN G)(o2:¬G 1):HH U G L H:=⟨h.s,(Sep.loc CH.loc).mono h.sep hs,h.g,h.gd,o,o2⟩
theorem HH.oG (h:HH U F L H):iN (Grow F U):=h.o.grow h.g
theorem HH.qD (h:HH U F L H):¬Grow F U 1:=λa=>by
 rcases a with a|a
 ·exact h.o2 a
 ·have:=BJ h.gd;omega
theorem HH.sub (h:HH U F L H){G:Rg}(hs:∀b,b<U.size->F b->G b)(hg:∀b,G b->F b\/U.size<=b):HH U G L H:=
 h.mono hs (h.oG.sub hg) λa=>h.qD (hg _ a)
theorem HH.uX {v v':Hp}{G T:Rg}{L0:dM}{H0:Hw}(h0:HH U F L0 H0)(h:HH v G L H)(e:Ext T v v')(hT:∀b,T b->U.size<=b)(hG:∀b,b<v.size->G b->¬T b):HH v' G L H:=
 h.bS e hG (h0.oG.sub λb a=>.inr (hT b a)) λa=>h0.qD (.inr (hT _ a))
theorem HH.grown {σ':Hp}{R:Rg}{L':dM}{H':Hw}(h:HH U F L H)(h':HH σ' R L' H')(hr:∀b,b<σ'.size->R b->Grow F U b):HH σ' (Grow F U) L' H':=h'.mono hr h.oG h.qD
theorem HH.cut (h:HH U F L H):HH U (Cut F U) L H:=h.sub (λb a d=>⟨d,a⟩) λb a=>.inl a.1
theorem HH.k9 (h:HH U F L H)(i:kF):∃G:Rg,(∀b,G b->F b)/\CH H L i U G/\(∀j,j≠i->∃D:Rg,(∀b,D b->F b)/\(∀b,D b->¬G b)/\CH H L j U D) ∧
 ∀(σ':Hp) (H':Hw) (L':dM) (G':Rg),HS L' H'->(∀j,j≠i->CH H' L' j=CH H L j)->Ext G U σ'->(∀b,G' b->Grow G U b)->CH H' L' i σ' G' →
  Ext F U σ'/\HH σ' (λb=>F b/\b<U.size/\¬G b\/G' b) L' H':=by
 obtain⟨G,p,x,hd,m⟩:=h.sep.jW CH.loc i;refine⟨G,p,x,hd,λσ' H' L' G' y w e s u=>?_⟩;have r:=e.sub p;have d:∀b,(F b/\b<U.size/\¬G b\/G' b)->Grow F U b:=λb a=>by
  rcases a with a|a
  ·exact .inl a.1
  ·exact(s b a).imp (p b) id
 refine⟨r,y,m σ' (CH H' L') G' w e s u (CH.loc _),h.g.bS r h.o,h.gd.bS r h.o2,λb a=>(h.o.grow h.g) b (d b a),λa=>?_⟩;rcases d _ a with h1|h1
 ·exact h.o2 h1
 ·have:=BJ h.gd;omega
theorem _root_.Go.Vc.Sep.r4 {L:Type}{C:L->Hp->Rg->Prop}{U:Hp}{F:Rg}(hC:∀i,dL (C i))(h:Sep C U F)(i j:L)(hij:i≠j)(N:Rg)(hN:∀b,b<U.size->F b->¬N b):∃G D:Rg,(∀b,G b->F b)/\(∀b,D b->F b)/\(∀b,G b->¬D b)/\C i U G/\C j U D/\(∀m,m≠i->m≠j->∃E:Rg,(∀b,E b->F b)/\(∀b,E b->¬(G b\/D b))/\C m U E) ∧
 ∀(σ':Hp) (C':L->Hp->Rg->Prop) (G' D':Rg),(∀k,k≠i->k≠j->C' k=C k)->Ext (λb=>G b\/D b) U σ'->(∀b,G' b->(G b\/D b)\/N b)->(∀b,D' b->(G b\/D b)\/N b)->(∀b,G' b->¬D' b)->C' i σ' G'->C' j σ' D'->(∀k,dL (C' k)) →
 Sep C' σ' λb=>F b/\b<U.size/\¬(G b\/D b)\/G' b\/D' b:=by
 obtain⟨ρ,h⟩:=h
 let G:Rg:=λb=>F b/\ρ b=i
 let D:Rg:=λb=>F b/\ρ b=j
 refine⟨G,D,λb a=>a.1,λb a=>a.1,λb u w=>hij (u.2.symm.trans w.2),h i,h j,λm u w=>⟨λb=>F b/\ρ b=m,λb a=>a.1,λb a d=>d.elim (λx=>u (a.2.symm.trans x.2)) λx=>w (a.2.symm.trans x.2),h m⟩,λσ' C' G' D' z e A J hd B H y=>?_⟩
 open Classical in
 refine⟨λb=>if G' b then i else if D' b then j else ρ b,λk=>?_⟩
 by_cases hki:k=i
 ·subst hki;exact(y _).mono B λb _ a=>⟨.inr (.inl a),zC a⟩
 by_cases hkj:k=j
 ·subst hkj;exact(y _).mono H λb _ a=>⟨.inr (.inr a),by show(if G' b then i else if D' b then k else ρ b)=k;rw[zB λd=>hd b d a,zC a]⟩
 ·rw[z k hki hkj];refine hC k _ _ _ _ (h k) e.1 λb a g=>?_;have s:¬(G b\/D b):=by
   rintro(d|d)
   ·exact hki (g.2.symm.trans d.2)
   ·exact hkj (g.2.symm.trans d.2)
  have p:¬G' b:=λd=>(A b d).elim s (hN b a g.1);have r:¬D' b:=λd=>(J b d).elim s (hN b a g.1);exact⟨⟨.inl ⟨g.1,a,s⟩,by show(if G' b then i else if D' b then j else ρ b)=k;rw[zB p,zB r];exact g.2⟩,e.2 b a s⟩
theorem HH.oe (h:HH U F L H)(i j:kF)(hij:i≠j)(N:Rg)(hN:∀b,b<U.size->F b->¬N b)(oN:iN N)(oN2:¬N 1):∃G D:Rg,(∀b,G b->F b)/\(∀b,D b->F b)/\(∀b,G b->¬D b)/\CH H L i U G/\CH H L j U D/\(∀m,m≠i->m≠j->∃E:Rg,(∀b,E b->F b)/\(∀b,E b->¬(G b\/D b))/\CH H L m U E) ∧
 ∀(σ':Hp) (H':Hw) (L':dM) (G' D':Rg),HS L' H'->(∀m,m≠i->m≠j->CH H' L' m=CH H L m)->Ext (λb=>G b\/D b) U σ'->(∀b,G' b->(G b\/D b)\/N b)->(∀b,D' b->(G b\/D b)\/N b)->(∀b,G' b->¬D' b)->CH H' L' i σ' G'->CH H' L' j σ' D' →
  Ext F U σ'/\HH σ' (λb=>F b/\b<U.size/\¬(G b\/D b)\/G' b\/D' b) L' H':=by
 obtain⟨G,D,s,u,hd,C,M,p,r⟩:=h.sep.r4 CH.loc i j hij N hN;refine⟨G,D,s,u,hd,C,M,p,λσ' H' L' G' D' J P e z A y B K=>?_⟩;have w:Ext F U σ':=e.sub λb a=>a.elim (s b) (u b);have d:∀b,(F b/\b<U.size/\¬(G b\/D b)\/G' b\/D' b)->F b\/N b:=λb a=>by
  rcases a with a|a|a
  ·exact .inl a.1
  ·exact(z b a).imp (λx=>x.elim (s b) (u b)) id
  ·exact(A b a).imp (λx=>x.elim (s b) (u b)) id
 refine⟨w,J,r σ' (CH H' L') G' D' P e z A y B K CH.loc,h.g.bS w h.o,h.gd.bS w h.o2,λb a=>(d b a).elim (h.o b) (oN b),λa=>?_⟩;exact(d _ a).elim h.o2 oN2
theorem HH.mb (h:HH U F L H):iN (λb=>U.size<=b)/\¬(U.size<=1):=⟨h.oG.sub λb a=>.inr a,λa=>h.qD (.inr a)⟩
theorem HH.oA (h:HH U F L H)(i j:kF)(hij:i≠j):∃G D:Rg,(∀b,G b->F b)/\(∀b,D b->F b)/\(∀b,G b->¬D b)/\CH H L i U G/\CH H L j U D/\(∀m,m≠i->m≠j->∃E:Rg,(∀b,E b->F b)/\(∀b,E b->¬(G b\/D b))/\CH H L m U E) ∧
 ∀(σ':Hp) (H':Hw) (L':dM) (G' D':Rg),HS L' H'->(∀m,m≠i->m≠j->CH H' L' m=CH H L m)->Ext (λb=>G b\/D b) U σ'->(∀b,G' b->(G b\/D b)\/U.size<=b)->(∀b,D' b->(G b\/D b)\/U.size<=b)->(∀b,G' b->¬D' b)->CH H' L' i σ' G'->CH H' L' j σ' D' →
  Ext F U σ'/\HH σ' (λb=>F b/\b<U.size/\¬(G b\/D b)\/G' b\/D' b) L' H':=
 h.oe i j hij _ (λb a _=>O) h.mb.1 h.mb.2
theorem HH.hd (h:HH U F L H):bY U L.p (xd L H.cf):=by obtain⟨G,b,a⟩:=h.sep.get .hd;exact a.2
theorem HH.jz (h:HH U F L H):cU L.dD 3 (fX H.tb) U F:=by
 obtain⟨G,d,a⟩:=h.sep.get .dD;exact aH.mono a λb _ a=>d b a
theorem HH.oz (h:HH U F L H):L.dD.len=H.tb.length:=by
 have:=h.jz.1;rw[VA]at this;omega
theorem HH.mG (h:HH U F L H):cU L.fL 1 (fJ (L.ys.map (·.p))) U F:=by
 obtain⟨G,d,a⟩:=h.sep.get .fL;exact aH.mono a λb _ a=>d b a
theorem HH.mF (h:HH U F L H):L.fL.len=H.bX.length:=by
 have:=h.mG.1;have:=h.s.ys;simp[fJ]at *;omega
theorem HH.mQ (h:HH U F L H):cU L.cN 3 (gM L.ts H.bQ) U F:=by
 obtain⟨G,d,a⟩:=h.sep.get .cN;exact aH.mono (bR.gZ a) λb _ a=>d b a
theorem HH.lx (h:HH U F L H):L.cN.len=H.bQ.length:=by
 have:=h.mQ.1;rw[Hg h.s.ts]at this;omega
theorem HH.mR (h:HH U F L H):dH U L.lm .i64 (.ag 4) H.live:=by obtain⟨G,b,a⟩:=h.sep.get .live;exact a.2
theorem HH.OW (h:HH U F L H):dK U F L.hs H.sp:=by
 obtain⟨G,d,a⟩:=h.sep.get .sp;exact dL.mono dK.loc a λb _ a=>d b a
theorem HH.ar (h:HH U F L H){A:AR}(hk:H.bX[k]?=some A):∃Y,L.ys[k]?=some Y/\Y.hs=L.hs/\dG U F Y A (cK A Y):=by
 have g:=(cW.1 hk).1;have d:L.ys[k]?=some (L.ys[k]'(by rw[h.s.ys];exact g)):=cV _;obtain⟨G,e,a⟩:=h.sep.get (.ar k);simp only[CH,hk,d,nJ]at a;exact⟨_,d,h.s.hs _ (zG d),a.mono λb _ a=>e b a⟩
theorem HH.rA (h:HH U F L H){Y:Lay}(hy:L.ys[k]?=some Y){K:Option Addr->Prop}(hK:K (some ⟨Y.p,0,none⟩)):Ix L.fL.a L.fL.len (k:Int) 1 λa=>fT a U K:=
 AO h.mG (by simp[hy]) hK
theorem HH.th (h:HH U F L H)(ht:t<H.bQ.length):∃x g,L.ts[t]?=some x/\H.bQ[t]?=some g:=⟨L.ts[t]'(by rw[h.s.ts];exact ht),H.bQ[t],cV _,cV _⟩
theorem vo {s:Sl}{ts:List eH}{bQ:List Th}(h:cU s 3 (gM ts bQ) U F){x:eH}{g:Th}(hx:ts[t]?=some x)(hg:bQ[t]?=some g){d:Nat}(hd:d<3){v:Value}(hv:(jj (x,g))[d]?=some v):∃b o,s.a=some ⟨b,o,none⟩/\cell U ⟨b,o+(3*t+d),none⟩=some v:=
 h.cell ((y5 hx hg hd).trans hv)
theorem BF {s:Sl}{ts:List eH}{bQ:List Th}(hs:cU s 3 (gM ts bQ) U F)(hl:ts.length=bQ.length){x:eH}{g:Th}(hx:ts[t]?=some x)(hg:bQ[t]?=some g){d:Nat}(hd:d<3){v:Value}(hv:(jj (x,g))[d]?=some v){K:Addr->Prop}
 (hK:∀b o,s.a=some ⟨b,o,none⟩->cell U (Addr.add ⟨b,o+3*t,none⟩ d)=some v->K ⟨b,o+3*t,none⟩):Ix s.a s.len (t:Int) 3 K:=by
 have m:=(cW.1 hg).1;have e:=hs.1;rw[Hg hl]at e;obtain⟨b,o,i,j⟩:=vo hs hx hg hd hv;rw[i];refine ix O O ?_;rw[add_lit,show o+(t:Int).toNat*3=o+3*t by omega];exact hK b o i (by rw[add_lit,show o+3*t+d=o+(3*t+d) by omega];exact j)
theorem HH.F2 (h:HH U F L H){x:eH}{g:Th}(hx:L.ts[t]?=some x)(hg:H.bQ[t]?=some g){d:Nat}(hd:d<3){v:Value}(hv:(jj (x,g))[d]?=some v){K:Addr->Prop}
 (hK:∀b o,cell U (Addr.add ⟨b,o+3*t,none⟩ d)=some v->K ⟨b,o+3*t,none⟩):Ix L.cN.a L.cN.len (t:Int) 3 K:=
 BF h.mQ h.s.ts hx hg hd hv λb o _ e=>hK b o e
theorem HH.tS (h:HH U F L H){x:eH}{g:Th}(hx:L.ts[t]?=some x)(hg:H.bQ[t]?=some g){K:Sl->Prop}(hK:K x.h):Ix L.cN.a L.cN.len (t:Int) 3 λa=>jr (a.add 1) U K:=
 h.F2 hx hg (d:=1) O rfl λb o e=>nO e hK
theorem HH.tR (h:HH U F L H){x:eH}{g:Th}(hx:L.ts[t]?=some x)(hg:H.bQ[t]?=some g){K:Value->Prop}(hK:K (mE g.ph)):Ix L.cN.a L.cN.len (t:Int) 3 λa=>wZ (a.add 2) U K:=
 h.F2 hx hg (d:=2) O rfl λb o e=>⟨_,e,hK⟩
theorem HS.dU (h:HS L H){bQ:List Th}{ts:List eH}(e:ts.length=bQ.length)(e2:bQ.length=H.bQ.length):HS {L with ts:=ts} {H with bQ:=bQ}:=⟨h.ys,h.hs,e,h.a1,h.a2,by rw[e2];exact h.t1,by rw[e2];exact h.t2,h.tb⟩
theorem HS.cC (h:HS L H){A:AR}{sp:Sp}(e:A.tb=H.tb):HS L {H.cC k A with sp:=sp}:=⟨by simp[Hw.cC,h.ys],h.hs,h.ts,by simp[Hw.cC,h.a1],by simp[Hw.cC,h.a2],h.t1,h.t2,λB a=>by
 rcases yu a with h1|h1
 ·exact h.tb B h1
 ·subst h1;exact e⟩
theorem Eo {A:AR}:∀j,j≠kF.ar k->CH (H.cC k A) L j=CH H L j:=by
 intro j hj;cases j<;>try rfl
 rename_i m;have a:m≠k:=λe=>hj (by rw[e]);simp only[CH,Hw.cC,zk (Ne.symm a)]
theorem Fs {sp:Sp}:∀j,j≠kF.sp->CH {H with sp:=sp} L j=CH H L j:=by
 intro j hj;cases j<;>first|rfl|exact absurd rfl hj
theorem JL {l:List (Int×Bk)}:∀j,j≠kF.live->CH {H with live:=l} L j=CH H L j:=by
 intro j hj;cases j<;>first|rfl|exact absurd rfl hj
theorem HH.wL (h:HH U F L H){A:AR}(hk:H.bX[k]?=some A):∃(Y:Lay) (G:Rg),L.ys[k]?=some Y/\Y.hs=L.hs/\(∀b,G b->F b)/\dG U G Y A (cK A Y)/\∀(σ':Hp) (A':AR) (G':Rg),A'.tb=A.tb->Ext G U σ'->(∀b,G' b->Grow G U b)->dG σ' G' Y A' (cK A' Y) →
 Ext F U σ'/\HH σ' (λb=>F b/\b<U.size/\¬G b\/G' b) L (H.cC k A'):=by
 have g:=(cW.1 hk).1;have a:L.ys[k]?=some (L.ys[k]'(by rw[h.s.ys];exact g)):=cV _;generalize (L.ys[k]'(by rw[h.s.ys];exact g))=Y at a;obtain⟨G,r,j,_,d⟩:=h.k9 (.ar k);simp only[CH,hk,a,nJ]at j;refine⟨Y,G,a,h.s.hs _ (zG a),r,j,λσ' A' G' i e m p=>?_⟩;refine d σ' (H.cC k A') L G' (h.s.cC (sp:=H.sp) (i.trans (h.s.tb A (zG hk)))) Eo e m ?_;simp only[CH,Hw.cC,a,zL g,nJ];exact p
theorem HH.od (h:HH U F L H){A:AR}(hk:H.bX[k]?=some A):∃(Y:Lay) (G D:Rg),L.ys[k]?=some Y/\Y.hs=L.hs/\W2 U G D Y A (cK A Y) H.sp/\∀(σ':Hp) (A':AR) (sp':Sp) (G' D':Rg),A'.tb=A.tb->Ext (iO G D) U σ'->Fits U G D G' D'->W2 σ' G' D' Y A' (cK A' Y) sp' →
 Ext F U σ'/\HH σ' (Grow F U) L {H.cC k A' with sp:=sp'}:=by
 have E:=(cW.1 hk).1;have i:L.ys[k]?=some (L.ys[k]'(by rw[h.s.ys];exact E)):=cV _;generalize (L.ys[k]'(by rw[h.s.ys];exact E))=Y at i;obtain⟨G,D,C,J,hd,M,K,_,u⟩:=h.oA (.ar k) .sp (by intro e;cases e);simp only[CH,hk,i,nJ]at M;have K:dK U D L.hs H.sp:=K;have j:=h.s.hs _ (zG i);refine⟨Y,G,D,i,j,⟨M,by rw[j];exact K,hd,h.g,h.o.sub C,h.o.sub J⟩,λσ' A' sp' G' D' B e N z=>?_⟩;have r:∀b,G' b->(G b\/D b)\/U.size<=b:=λb x=>(N.1 b x).imp .inl id;have w:∀b,D' b->(G b\/D b)\/U.size<=b:=λb x=>.inl (.inr (N.2 b x));have Q:∀m,m≠kF.ar k->m≠kF.sp->CH {H.cC k A' with sp:=sp'} L m=CH H L m:=λm y P=>
  (Eo (H:={H with sp:=sp'}) (L:=L) (A:=A') m y).trans (Fs m P)
 have R:CH {H.cC k A' with sp:=sp'} L (.ar k) σ' G':=by
  simp only[CH,Hw.cC,i,zL E,nJ];exact z.a
 have S:CH {H.cC k A' with sp:=sp'} L .sp σ' D':=by
  show dK σ' D' L.hs sp';rw[←j];exact z.s
 obtain⟨e1,y⟩:=u σ' {H.cC k A' with sp:=sp'} L G' D' (h.s.cC (B.trans (h.s.tb A (zG hk)))) Q e r w z.d R S;refine⟨e1,h.grown y λb x p=>?_⟩;rcases p with p|p|p
 ·exact .inl p.1
 ·exact(r b p).imp (λi=>i.elim (C b) (J b)) id
 ·exact(w b p).imp (λi=>i.elim (C b) (J b)) id
theorem HH.wD (h:HH U F L H):∃G:Rg,(∀b,G b->F b)/\dK U G L.hs H.sp/\iN G/\∀(σ':Hp) (sp':Sp),Ext G U σ'->dK σ' (Grow G U) L.hs sp'->Ext F U σ'/\HH σ' (Grow F U) L {H with sp:=sp'}:=by
 obtain⟨G,g,m,_,d⟩:=h.k9 .sp;refine⟨G,g,m,h.o.sub g,λσ' sp' e hs=>?_⟩;obtain⟨e1,j⟩:=d σ' {H with sp:=sp'} L (Grow G U) ⟨h.s.ys,h.s.hs,h.s.ts,h.s.a1,h.s.a2,h.s.t1,h.s.t2,h.s.tb⟩ Fs e (λb i=>i) hs;exact⟨e1,h.grown j λb i a=>by
  rcases a with a|a
  ·exact .inl a.1
  ·exact a.imp (g b) id⟩
theorem HH.qP (h:HH U F L H):F L.lm/\∀(σ':Hp) (l:List (Int×Bk)),Qm U σ' L.lm->dH σ' L.lm .i64 (.ag 4) l->Ext F U σ'/\HH σ' F L {H with live:=l}:=by
 obtain⟨G,i,e,_,d⟩:=h.k9 .live;have e:jx L.lm .i64 (.ag 4) H.live U G:=e;refine⟨i _ e.1,λσ' l j p=>?_⟩;obtain⟨e1,m⟩:=d σ' {H with live:=l} L G ⟨h.s.ys,h.s.hs,h.s.ts,h.s.a1,h.s.a2,h.s.t1,h.s.t2,h.s.tb⟩ JL (j.ext.sub λb g=>by rw[g];exact e.1) (λb g=>.inl g) ⟨e.1,p⟩;exact⟨e1,m.mono (λb _ a=>by
  rcases a with a|a
  ·exact a.1
  ·exact i b a) h.o h.o2⟩
theorem HH.oV (h:HH U F L H){x:eH}{g:Th}(hx:L.ts[t]?=some x)(hg:H.bQ[t]?=some g):∃G:Rg,(∀b,G b->F b)/\eA U G x.c H.tb H.cf.dA g.ls/\∀(σ':Hp) (ls:List Li) (Y':gO) (G':Rg),Y'.p=x.c.p->Ext G U σ'->(∀b,G' b->Grow G U b)->eA σ' G' Y' H.tb H.cf.dA ls →
 Ext F U σ'/\HH σ' (λb=>F b/\b<U.size/\¬G b\/G' b) {L with ts:=L.ts.set t {x with c:=Y'}} {H with bQ:=H.bQ.set t {g with ls:=ls}}:=by
 have i:=(cW.1 hx).1;have a:=(cW.1 hg).1;obtain⟨G,A,z,_,r⟩:=h.k9 (.ca t);simp only[CH,hx,hg,qH]at z;refine⟨G,A,z,λσ' ls Y' G' D e w B=>?_⟩;have y:gM (L.ts.set t {x with c:=Y'}) (H.bQ.set t {g with ls:=ls})=gM L.ts H.bQ:=by
  have E:(gM L.ts H.bQ).set (3*t+0) (.pointer (some ⟨x.c.p,0,none⟩))=gM L.ts H.bQ:=Z5 (y5 hx hg O);rw[←E];exact(yd hx hg (d:=0) O (by simp[jj,D])).symm
 refine r σ' {H with bQ:=H.bQ.set t {g with ls:=ls}} {L with ts:=L.ts.set t {x with c:=Y'}} G' (h.s.dU (by simp[h.s.ts]) aA) (λj C=>?_) e w ?_
 ·cases j<;>try rfl
  ·simp only[CH,y]
  ·rename_i m;have u:m≠t:=λe=>C (by rw[e]);simp only[CH,zk (Ne.symm u)]
  ·rename_i m;by_cases u:m=t
   ·subst u;simp only[CH,zL i,zL a,hx,hg];rfl
   ·simp only[CH,zk (Ne.symm u)]
 ·simp only[CH,zL i,zL a,qH];exact B
theorem HH.qV (h:HH U F L H){x:eH}{g:Th}(hx:L.ts[t]?=some x)(hg:H.bQ[t]?=some g)(N:Rg)(hN:∀b,b<U.size->F b->¬N b)(oN:iN N)(oN2:¬N 1):∃G D:Rg,(∀b,G b->F b)/\(∀b,D b->F b)/\(∀b,G b->¬D b)/\ir x.h g.bP U G/\bR L.cN 3 (gM L.ts H.bQ) U D/\(∃E:Rg,(∀b,E b->¬G b)/\(∀b,E b->¬D b)/\iq L.p (xd L H.cf) U E) ∧
 ∀(σ':Hp) (s:Sl) (bs:List Bt) (G' D':Rg),Ext (λb=>G b\/D b) U σ'->(∀b,G' b->(G b\/D b)\/N b)->(∀b,D' b->(G b\/D b)\/N b)->(∀b,G' b->¬D' b)->ir s bs σ' G'->bR L.cN 3 ((gM L.ts H.bQ).set (3*t+1) (.slice s.a s.len s.cap)) σ' D' →
  Ext F U σ'/\HH σ' (λb=>F b/\b<U.size/\¬(G b\/D b)\/G' b\/D' b) {L with ts:=L.ts.set t {x with h:=s}} {H with bQ:=H.bQ.set t {g with bP:=bs}}:=by
 have r:=(cW.1 hx).1;have i:=(cW.1 hg).1;obtain⟨G,D,S,W,hd,M,C,j,u⟩:=h.oe (.hn t) .cN (by intro e;cases e) N hN oN oN2;simp only[CH,hx,hg,po]at M;have C:bR L.cN 3 (gM L.ts H.bQ) U D:=C;obtain⟨E,_,P,B⟩:=j .hd (by intro e;cases e) (by intro e;cases e);refine⟨G,D,S,W,hd,M,C,⟨E,λb J hx=>P b J (.inl hx),λb J hx=>P b J (.inr hx),B⟩,λσ' s bs G' D' e z y A X V=>?_⟩;have K:gM (L.ts.set t {x with h:=s}) (H.bQ.set t {g with bP:=bs})=(gM L.ts H.bQ).set (3*t+1) (.slice s.a s.len s.cap):=(yd hx hg (d:=1) O (by simp[jj])).symm;refine u σ' {H with bQ:=H.bQ.set t {g with bP:=bs}} {L with ts:=L.ts.set t {x with h:=s}} G' D' (h.s.dU (by simp[h.s.ts]) aA) (λm Q R=>?_) e z y A ?_ ?_
 ·cases m<;>first|rfl|exact absurd rfl R|skip
  ·rename_i m;by_cases w:m=t
   ·subst w;simp only[CH,zL r,zL i,hx,hg];rfl
   ·simp only[CH,zk (Ne.symm w)]
  ·rename_i m;have w:m≠t:=λe=>Q (by rw[e]);simp only[CH,zk (Ne.symm w)]
 ·simp only[CH,zL r,zL i,po];exact X
 ·simp only[CH,K];exact V
theorem HH.qW (h:HH U F L H){x:eH}{g:Th}(hx:L.ts[t]?=some x)(hg:H.bQ[t]?=some g)(p:Option Ph){K:aP}(hK:∀σ',Ext F U σ'->HH σ' F L {H with bQ:=H.bQ.set t {g with ph:=p}}->K σ') :
 Ix L.cN.a L.cN.len (t:Int) 3 λa=>And (iP (mE p)) (dW (a.add 2) (mE p) U K):=by
 have M:=(cW.1 hx).1;have r:=(cW.1 hg).1;have A:=h.lx;obtain⟨G,C,w,_,u⟩:=h.k9 .cN;have w:bR L.cN 3 (gM L.ts H.bQ) U G:=w;have E:=Hg h.s.ts;obtain⟨b,y⟩:∃b,L.cN.a=some ⟨b,0,none⟩:=by
  rcases w.2 with⟨h0,_⟩|⟨b,_,_,ha,_⟩
  ·omega
  ·exact⟨b,ha⟩
 rw[y];refine ix O O ⟨tK p,?_⟩;refine w.st (j:=3*t+2) O (λN i=>by rw[y]at i;cases i;rw[add_lit,add_lit];congr 1;omega) λσ' e D=>?_;have z:gM L.ts (H.bQ.set t {g with ph:=p})=(gM L.ts H.bQ).set (3*t+2) (mE p):=by
  have:=yd hx hg (d:=2) (v:=mE p) (x':=x) (h':={g with ph:=p}) O (by simp[jj]);rw[this,Z5 hx]
 obtain⟨e1,B⟩:=u σ' {H with bQ:=H.bQ.set t {g with ph:=p}} L G (h.s.dU (ts:=L.ts) (by simp[h.s.ts]) aA) (λj J=>by
  cases j<;>first|rfl|exact absurd rfl J|skip
  ·rename_i m;by_cases hm:t=m
   ·subst hm;simp only[CH,zL r,hx,hg];rfl
   ·simp only[CH,zk hm]
  ·rename_i m;by_cases hm:t=m
   ·subst hm;simp only[CH,zL r,hx,hg];rfl
   ·simp only[CH,zk hm]) e (λb y=>.inl y) (by simp only[CH,z];exact D)
 exact hK σ' e1 (B.mono (λb _ hx=>by
  rcases hx with hx|hx
  ·exact hx.1
  ·exact C b hx) h.o h.o2)
end Go.Ar
namespace Go.Ar
open Go Go.Vc Go.Proofs
open Go.Bu (Za Qy Y7)
variable {U:Hp}{F H:Rg}{p hs:Nat}{A:AR}{sp:Sp}{Y:Lay}{T:Nat->Hp->Rg->Prop}
end Go.Ar
namespace Go.Ar
open Go Go.Vc Go.Proofs
variable {U:Hp}{F:Rg}{L:dM}{H:Hw}{t k:Nat}
theorem Un (h:HH U F L H){R:aO}(hR:R true U):Xq.c (aW L.p) U R:=by
 refine Xq.o ?_;unfold Xq.v;have a:=h.lx;have b:=h.s.t1;refine bW.intro (cE rfl (aG (h.hd.rS rfl ?_)));rw[zJ aC];exact hR
theorem AJ (h:HH U F L H)(x:Int){R:aO}(hR:R (decide (0<=x/\x<(H.bQ.length:Int))) U):X4.c (aW L.p) x U R:=by
 refine X4.o ?_;unfold X4.v;have a:=h.lx;refine bW.intro (cQ (λb=>aG (h.hd.rS rfl ?_)) λb=>?_)
 ·have:decide (x<((L.cN.len:Nat):Int))=decide (0<=x/\x<(H.bQ.length:Int)):=by rw[decide_eq_decide,a];omega
  simp only[this];exact hR
 ·rw[zM O]at hR;exact hR
theorem EN (h:HH U F L H)(t:Nat){R:aN}(hR:R ((H.own t:Nat):Int) U):Zn.c (aW L.p) (t:Int) U R:=by
 refine Zn.o ?_;unfold Zn.v;have a:=h.mF;have b:=h.s.a1;refine aG (h.hd.rS rfl (nz aC ?_));have:((t:Int).tmod ((L.fL.len:Nat):Int))=((H.own t:Nat):Int):=by rw[Qz O,a];unfold Hw.own;omega
 simp only[this];exact hR
theorem GH (h:HH U F L H)(x:Int)(hx9:x<=9223372036854775807){R:aN}(hR:∀σ',bK U σ'->R (XO H.bX x) σ'):XU.c (aW L.p) x U R:=by
 refine XU.o ?_;unfold XU.v;refine nw (cs:=[.int .i64 x]) λv hz e Q=>Q.ua rfl ?_;have P:=h.bO e;by_cases hx:x<0
 ·have:=hR v e;unfold XO at this;rw[zC hx]at this;exact lA hx this
 refine fR hx (aG (P.hd.rS rfl ?_));have hl:=h.mF;have V:=h.s.a2;refine Wk.o ?_;unfold Wk.v;refine ZY (a:=bN) (λ(z:Int) w=>∃i:Nat,z=(i:Int)/\i<=H.bX.length/\bK U w/\HH w F L H/\bY w U.size [.int .i64 x]/\∀j A,j<i->H.bX[j]?=some A->n4 A (x/256)=false) (λz _=>H.bX.length-z.toNat) ⟨0,rfl,O,e,P,Q,λj A g=>O⟩ ?_;rintro z w ⟨i,rfl,hi,J,y,u,b⟩;refine cQ (λM=>?_) λC=>?_
 ·simp only at M;have K:i<H.bX.length:=by omega
  have d:H.bX[i]?=some H.bX[i]:=cV K;generalize H.bX[i]=A at d;obtain⟨Y,X,W,D⟩:=y.ar d;refine y.rA X (pE (all := #[.pointer (some ⟨Y.p,0,none⟩),.pointer (some ⟨U.size,0,none⟩)]) (by kernel_rfl) aA ?_);refine YQ.o ?_;unfold YQ.v;refine u.ua rfl (nz aB (ar (by rw[Yq O];omega) (by rw[Yq O];omega) ?_));rw[Yq O];refine PH D (x/256) (cO (λZ=>?_) λS=>?_)
  ·have:XO H.bX x=(i:Int):=by
    unfold XO;rw[zB hx];have:H.bX.findIdx? (λA=>n4 A (x/256))=some i:=by
     obtain⟨G,rfl⟩:=cW.1 d;exact nk.2 ⟨G,Z,λj g=>by rw[b j _ g (cV O)];simp⟩
    rw[this]
   have r:=hR w J;rw[this]at r;exact r
  ·exact cP (m:=i+1) O O ⟨⟨i+1,rfl,O,J,y,u,λj B g N=>by
    by_cases e:j=i
    ·subst e;rw[d]at N;cases N;exact S
    ·exact b j B O N⟩,O⟩
 ·have E:i=H.bX.length:=by simp only at C;omega
  subst E;have:XO H.bX x = -1:=by
   unfold XO;rw[zB hx];have:H.bX.findIdx? (λA=>n4 A (x/256))=none:=by
    rw[uj];intro A d;obtain⟨j,g⟩:=zQ d;exact b j A (cW.1 g).1 g
   rw[this]
  have r:=hR w J;rw[this]at r;exact r
theorem Eg (h:HH U F L H){R:Int->Int->Int->Int->Int->Hp->Prop}(hR:∀σ',bK U σ'->R (H.cf.aF:Int) (H.cf.gV:Int) (H.cf.threads:Int) (H.cf.dA:Int) (H.cf.room:Int) σ'):XY.c (aW L.p) U R:=by
 refine XY.o ?_;unfold XY.v;refine nw (cs:=[.int .i64 0,.int .i64 0,.int .i64 0,.int .i64 0,.int .i64 0]) λv r e j=>Un (h.bO e) (cB rfl ?_);have hd:=(h.bO e).hd;refine aG (hd.eY rfl (hd.eY rfl (hd.eY rfl (hd.eY rfl (hd.eY rfl ?_)))));refine j.s1 aA λu o1 d=>d.s1 aA λs o2 b=>b.s1 aA λv3 o3 i=>i.s1 aA λm o4 b4=>b4.s1 aA λg o5 a=>?_;refine a.rI rfl (a.rI rfl (a.rI rfl (a.rI rfl (a.rI rfl (hR g ?_)))));exact((((e.only o1 (.inr (zD _))).only o2 (.inr (zD _))).only o3 (.inr (zD _))).only o4 (.inr (zD _))).only o5 (.inr (zD _))
theorem DC (h:HH U F L H){R:Option Addr->Hp->Prop}(hR:R (some ⟨L.hs,0,none⟩) U):Yx.c (aW L.p) U R:=by
 refine Yx.o ?_;unfold Yx.v;exact Un h (cB rfl (aG (h.hd.rP rfl hR)))
theorem M0 (h:HH U F L H)(x:Int)(hx:x<=9223372036854775807){R:Int->Int->Hp->Prop}(hR:∀σ',bK U σ'->R (if eP H.sp x=0 then H.sp.wd (x.toNat/8)else 0) (eP H.sp x) σ'):YK.c (aW L.p) x U R:=by
 refine YK.o ?_;unfold YK.v;exact DC h (Nh h.OW h.g x hx hR)
theorem OO (h:HH U F L H)(gc:Gc U)(x v:Int)(hx:x<=9223372036854775807){R:aN}(hR:∀σ',Ext F U σ'->HH σ' (Grow F U) L {H with sp:=ZU H.sp x v}->R (eP H.sp x) σ'):Xa.c (aW L.p) x v U R:=by
 refine Xa.o ?_;unfold Xa.v;obtain⟨G,m,j,d,a⟩:=h.wD;refine DC h (No j h.g gc x hx v λσ' e b=>?_);obtain⟨e1,i⟩:=a σ' _ e b;exact hR σ' e1 i
theorem IE (h:HH U F L H)(x:Int){R:Int->Int->Hp->Prop}(hR:∀σ',bK U σ'->R ((bV H.live x).elim 0 λb=>b.2.1) (if(bV H.live x).isSome then 0 else 8) σ'):Xt.c (aW L.p) x U R:=by
 refine Xt.o ?_;unfold Xt.v;refine Un h (cB rfl (aG (h.hd.rM rfl ⟨_,h.mR,?_⟩)));refine nw (cs:=[.int .i64 0,.int .i64 0,.int .i64 0,.int .i64 0]) λv u e r=>?_;refine r.s1 aA λw o1 j=>j.s1 aA λs o2 d=>d.s1 aA λv3 o3 g=>g.s1 aA λv4 o4 b4=>?_;have m:bK U v4:=(((e.only o1 (.inr (zD _))).only o2 (.inr (zD _))).only o3 (.inr (zD _))).only o4 (.inr (zD _));have a:=hR v4 m;cases hm:bV H.live x with
 | none=>
  rw[hm]at a;exact cE rfl a
 | some b=>
  rw[hm]at a;refine cB rfl (b4.rI rfl ?_);have i:((bV H.live x).getD ((0,0,0,0):Bk)).2.1=b.2.1:=by rw[hm];rfl
  rw[i];exact a
theorem VL (h:HH U F L H)(ht:t<H.bQ.length){R:Value->Hp->Prop}(hR:R (mE (jJ H t)) U):WV.c (aW L.p) (t:Int) U R:=by
 refine WV.o ?_;unfold WV.v;obtain⟨x,g,d,a⟩:=h.th ht;refine aG (h.hd.rS rfl (h.tS d a ?_));obtain⟨G,i,b⟩:=h.sep.get (.hn t);simp only[CH,d,a,po]at b;have e:=b.len;unfold jJ at hR;rw[a]at hR;simp only at hR;by_cases h0:g.bP=[]
 ·rw[zC h0]at hR;exact cE (by rw[e,h0];rfl) hR
 ·rw[zB h0]at hR;have:=pI.2 h0;exact cB (by simp only[mj];omega) hR
theorem Bp (h:HH U F L H)(x size cls:Int)(hx9:x<=9223372036854775807){R:Value->Int->Int->Hp->Prop}(hR:∀σ',Ext F U σ'->HH σ' F L (Vk H x size cls)->R .nilIface x 0 σ'):YB.c (aW L.p) x size cls U R:=by
 refine YB.o ?_;unfold YB.v;refine nw (cs:=[.int .i64 0,.int .i64 0]) λv C e a=>?_;have g:=h.cut.bO e;refine⟨λu=>bK v u,Ext.refl _ _,aG ⟨some L.lm,λu A=>by rw[add_lit,((g.bO A).hd).cell];rfl,?_⟩⟩;refine GH g x hx9 λE e1=>⟨e1,?_⟩;have s:=g.bO e1;obtain⟨w,d⟩:=s.qP;refine⟨L.lm,_,rfl,s.mR,λr o2 j=>?_⟩;obtain⟨e2,y⟩:=d r _ o2 j;have m:bY r U.size [.int .i64 0,.int .i64 0]:=Ws o2 (e1.bT a id) (by have:=w.2;omega);refine m.s1 aA λv3 o3 z=>z.s1 aA λv4 o4 b4=>b4.rI rfl (b4.rI rfl (hR v4 ?_ ?_))
 ·exact(((bK.to (e.trans e1)).trans (e2.sub λb a=>a.1)).only o3 (.inr (zD _))).only o4 (.inr (zD _))
 ·have i:Ext (· = U.size) r v4:=o3.ext.trans o4.ext;have B:=h.uX y i (λb a=>O) (λb _ a D=>by have:=a.2;omega);exact B.mono (λb _ a=>a.1) h.o h.o2
theorem Gy (h:HH U F L H)(ht:t<H.bQ.length)(k:Nat){s:Sl}{xs:List Int}{X:Rg}(hs:cU s 1 (Wo xs) U X)(hc:s.len<=s.cap)(hxs:xs≠[])(hX:∀b,b<U.size->X b->¬F b)(oX:iN X)(oX2:¬X 1)(hlen:∀g,H.bQ[t]?=some g->g.bP.length<=1000){R:aP}
 (hR:∀σ' ts',Ext F U σ'->HH σ' (λb=>Grow F U b\/X b) {L with ts:=ts'} (QF H t k xs)->R σ'):Ya.c (aW L.p) (t:Int) (k:Int) s U R:=by
 refine Ya.o ?_;unfold Ya.v;obtain⟨x,g,r,hg⟩:=h.th ht;have htl:=Hg h.s.ts;have hrl:=h.lx;have hlen:=hlen g hg;obtain⟨G,D,hG,Q,hd,hB,hr,⟨E,hE1,hE2,hhd⟩,hput⟩:=h.cut.qV r hg (λb=>U.size<=b\/b<U.size/\X b) (λb m hf hn=>by
  rcases hn with hn|hn
  ·omega
  ·exact hX b m hn.2 hf.1) (λb m=>m.elim (h.mb.1 b) λm=>oX b m.2) (λm=>m.elim h.mb.2 λm=>oX2 m.2)
 obtain⟨W,Dn,A,K,M,hj,V⟩:=hB;have B:∀u,Ext G U u->bY u L.p (xd L H.cf):=λu z=>((iq.loc _ _).bS hhd z λb _ m r=>hE1 b m r).2;have S:∀u,Ext G U u->bR L.cN 3 (gM L.ts H.bQ) u D:=λu z=>aI.bS hr z λb _ m r=>hd b r m;refine⟨λu=>Ext G U u,Ext.refl _ _,aG ⟨L.cN,λu z=>by rw[add_lit,(B u z).cell];rfl,aG ⟨L.cN,λu z=>by rw[add_lit,(B u z).cell];rfl,?_⟩⟩⟩;refine BF (bR.gZ hr) h.s.ts r hg (d:=1) O rfl λb o ha _=>⟨x.h,λu z=>?_,?_⟩
 ·obtain⟨b',o',ha',hc'⟩:=vo (bR.gZ (S u z)) r hg (d:=1) O rfl;rw[ha]at ha';cases ha';rw[add_lit,show o+3*t+1=o+(3*t+1) by omega];exact hc'
 refine nw (cs:=[.int .i64 (k:Int),.slice s.a s.len s.cap]) λv hz e m=>⟨bK.to e,?_⟩;have J:=(dI.loc _ _ _).bO ((dI.loc _ _ _).cut A) e;have Y:=(ko.loc _ _).bO ((ko.loc _ _).cut K) e;have hs1:=aH.bO (aH.cut hs) e;have hpl:x.h.len=W.length:=by have:=A.1;rw[Kq]at this;omega
 have hpg:W.length=g.bP.length:=K.1;refine J.app (ys:=nB (k,s)) rfl rfl ?_ (λv hv=>UP (l:=[(k,s)]) v (by simpa[fE]using hv)) ?_ ?_ mO λs' v2 hl2 e2 hr2=>?_
 ·intro j u z;rw[add_lit,zH,m.cell];exact z
 ·simp only;have:(x.h.len+1)*32<=1001*32:=lW O O;omega
 ·simp only;omega
 have hs2:=e2.1;have eG:Ext G U v2:=(bK.to e).trans (e2.sub λb m=>m.1.1);refine⟨eG,?_⟩;obtain⟨b0,P⟩:∃b,L.cN.a=some ⟨b,0,none⟩:=by
  rcases hr.2 with⟨h0,_⟩|⟨b,_,_,ha,_⟩
  ·omega
  ·exact⟨b,ha⟩
 rw[P];refine ix O O ?_;refine(S v2 eG).st (j:=3*t+1) O (λb' Z=>by rw[P]at Z;cases Z;rw[add_lit,add_lit];congr 1;omega) λσ' e3 hr3=>?_;have hs3:=e3.1;have e03:Ext (λb=>G b\/D b) U σ':=(eG.sub λb m=>.inl m).trans (e3.sub λb m=>.inr m);have hr4:=(dI.loc _ _ _).bS ((dI.loc _ _ _).cut hr2) e3 λb _ m r=>by
  rcases m.1 with h1|h1
  ·exact hd b h1.1.1 r
  ·have:=(Q b r).2;omega
 have hB4:=(ko.loc _ _).bS ((ko.loc _ _).bS Y e2 λb _ m r=>r.1.2 m.1) e3 λb _ m r=>hd b (M b m.1) r;have hs4:=aH.bS (aH.bS hs1 e2 λb m r w=>hX b r.2 r.1 (hG b w.1.1).1) e3 λb _ r w=>hX b r.2 r.1 (Q b w).1;have hBt:ir s' (g.bP++[(k,xs)]) σ' (λb=>G b/\b<U.size\/b<U.size/\X b\/v.size<=b/\b<v2.size):=by
  refine⟨W++[(k,s)],λb=>Dn b/\b<U.size\/b<U.size/\X b,?_,⟨by simp[hpg],λi p y N w=>?_⟩,λb m=>?_,hj.snoc K V hs hxs (λb m r w=>hX b m w (hG b (M b r)).1) k,λy w=>?_⟩
  ·rw[UA];have:fE [(k,s)]=nB (k,s):=by simp[fE]
   rw[this];refine(dI.loc _ _ _).mono hr4 λq _ C=>?_;rcases C.1 with h1|h1
   ·exact⟨.inl ⟨h1.1.1,h1.2⟩,λr=>by
     rcases r with r|r
     ·exact h1.1.2 r.1
     ·exact hX q r.1 r.2 (hG q h1.1.1).1⟩
   ·exact⟨.inr (.inr ⟨h1,C.2⟩),λr=>by
     rcases r with r|r<;>omega⟩
  ·rcases kr i W.length with hi|hi
   ·rw[ze hi]at N;rw[ze O]at w;obtain⟨a1,a2,a3⟩:=hB4.2 i p y N w;exact⟨a1,aH.mono a2 λq _ C=>.inl C,a3⟩
   ·rw[zp hi]at N;rw[zp O]at w;have hi0:i-W.length=0:=by
     have:=(cW.1 N).1;simp at this;omega
    rw[hi0]at N;rw[show i-g.bP.length=0 by omega]at w;simp at N w;subst N;subst w;exact⟨rfl,aH.mono hs4 λq _ C=>.inr ⟨C.2,C.1⟩,hc⟩
  ·rcases m with m|m
   ·exact .inl ⟨M b m.1,m.2⟩
   ·exact .inr (.inl m)
  ·rcases zK.1 w with h1|h1
   ·exact V y h1
   ·rw[zN]at h1;subst h1;exact hxs
 obtain⟨eF,h4⟩:=hput σ' s' (g.bP++[(k,xs)]) (λb=>G b/\b<U.size\/b<U.size/\X b\/v.size<=b/\b<v2.size) D e03 (λb m=>by
  rcases m with m|m|m
  ·exact .inl (.inl m.1)
  ·exact .inr (.inr m)
  ·exact .inr (.inl O)) (λb m=>.inl (.inr m)) (λb m r=>by
  have:=(Q b r).2;rcases m with m|m|m
  ·exact hd b m.1 r
  ·exact hX b m.1 m.2 (Q b r).1
  ·omega) hBt hr3
 refine hR σ' (L.ts.set t {x with h:=s'}) (eF.sub λb m=>m.1) ?_;have e5:QF H t k xs = {H with bQ:=H.bQ.set t {g with bP:=g.bP++[(k,xs)]}}:=by
  unfold QF Hw.dU
  congr 1
  exact KI hg
 rw[e5];refine h4.mono (λb _ m=>?_) (λb (m:Grow F U b\/X b)=>m.elim (h.oG b) (oX b)) λ(m:Grow F U _\/X _)=>m.elim h.qD oX2;rcases m with m | (m|m|m)|m
 ·exact .inl (.inl m.1.1)
 ·exact .inl (.inl (hG b m.1).1)
 ·exact .inr m.2
 ·exact .inl (.inr O)
 ·exact .inl (.inl (Q b m).1)
end Go.Ar
namespace Go.Ar
open Go Go.Vc Go.Proofs
variable {U u u':Hp}{F B P:Rg}{L:dM}{H H':Hw}{t k n:Nat}{A:AR}{Y:Lay}{x:eH}{g:Th}{c:bZ}{l:Li}{cs:List Value}
structure HK (F:Rg) (U:Hp) (B:Rg) (u:Hp) (P:Rg) (L:dM) (H:Hw):Prop where
 h:HH u P L H
 e:Ext F U u
 p:∀b,P b->(F b/\b<U.size\/U.size<=b)/\¬B b/\b<u.size
 b:∀b,B b->U.size<=b/\b<u.size
 o:iN (λb=>U.size<=b)/\¬U.size<=1
theorem HK.start (h:HH U F L H):HK F U (λ_=>False) U (Cut F U) L H:=⟨h.cut,Ext.refl _ _,λb a=>⟨.inl ⟨a.1,a.2⟩,id,a.2⟩,λb a=>a.elim,h.mb⟩
theorem HK.box (K:HK F U B u P L H)(e:bK u u')(hz:u'.size=u.size+1):HK F U (λb=>B b\/b=u.size) u' P L H:=
 ⟨K.h.bO e,K.e.trans (bK.to e),λb a=>⟨(K.p b a).1,λd=>d.elim (K.p b a).2.1 λg=>by have:=(K.p b a).2.2;omega,by have:=(K.p b a).2.2;omega⟩,λb a=>by
  have:=K.e.1;rcases a with a|a
  ·have:=K.b b a;omega
  ·omega,K.o⟩
theorem HK.fr (K:HK F U B u P L H)(e:bK u u'):HK F U B u' P L H:=
 ⟨K.h.bO e,K.e.trans (bK.to e),λb a=>⟨(K.p b a).1,(K.p b a).2.1,by have:=(K.p b a).2.2;have:=e.1;omega⟩,λb a=>by have:=K.b b a;have:=e.1;omega,K.o⟩
theorem HK.own (K:HK F U B u P L H)(o:Qm u u' n)(hn:B n):HK F U B u' P L H:=by
 have s:=K.b n hn;have r:=o.1;have e:Ext (· = n) u u':=o.ext;have m:∀b,b<u.size->P b->¬(b=n):=λb _ a i=>(K.p b a).2.1 (i▸hn);have d:iN (λb=>b=n)/\¬(1=n):=⟨K.o.1.sub λb j=>O,λj=>K.o.2 O⟩;exact⟨K.h.bS e m d.1 d.2,K.e.dT e λb (g:b=n)=>.inr O,λb a=>⟨(K.p b a).1,(K.p b a).2.1,by have:=(K.p b a).2.2;omega⟩,λb a=>by have:=K.b b a;omega,K.o⟩
theorem HK.cS (K:HK F U B u P L H)(e:Ext P u u')(hb:bY u n cs)(hn:B n):bY u' n cs:=e.bT hb λa=>(K.p n a).2.1 hn
theorem HK.sk (K:HK F U B u P L H){Q:Rg}{L':dM}(e:Ext P u u')(h:HH u' Q L' H')(hq:∀b,b<u'.size->Q b->P b\/u.size<=b\/(F b/\b<U.size\/U.size<=b)/\¬B b):HK F U B u' (Cut Q u') L' H':=by
 have i:=e.1;have g:=K.e.1;refine⟨h.cut,K.e.dT e λb a=>(K.p b a).1.imp (λh=>h.1) id,λb a=>⟨?_,λd=>?_,a.2⟩,λb a=>by have:=K.b b a;omega,K.o⟩
 ·rcases hq b a.2 a.1 with h1|h1|h1
  ·exact(K.p b h1).1
  ·exact .inr O
  ·exact h1.1
 ·rcases hq b a.2 a.1 with h1|h1|h1
  ·exact(K.p b h1).2.1 d
  ·have:=K.b b d;omega
  ·exact h1.2 d
theorem HK.to (K:HK F U B u P L H){Q:Rg}{L':dM}(e:Ext P u u')(h:HH u' Q L' H')(hq:∀b,b<u'.size->Q b->P b\/u.size<=b):HK F U B u' (Cut Q u') L' H':=K.sk e h λb a d=>(hq b a d).imp id .inl
theorem HK.fin (K:HK F U B u P L H){L0:dM}{H0:Hw}(h0:HH U F L0 H0):HH u (Grow F U) L H:=h0.grown K.h λb _ a=>(K.p b a).1.imp (λh=>h.1) id
def Fr (A' A:AR):Prop:=A'.tb=A.tb/\A'.room=A.room/\A'.cM=A.cM
theorem Fr.cK {A' A:AR}(h:Fr A' A)(Y:Lay):Go.Ar.cK A' Y=Go.Ar.cK A Y:=by
 funext k;unfold Go.Ar.cK;rw[h.1,h.2.1,h.2.2]
theorem Cx (A:AR)(k m:Int):Fr (Ys A k m) A:=by
 unfold Ys;split<;>exact⟨rfl,rfl,rfl⟩
theorem CJ (A:AR)(k:Int)(xs:List Int):Fr (Zr A k xs) A:=⟨(V0 A k xs).1,(V0 A k xs).2.1,(V0 A k xs).2.2.1⟩
theorem EX (A:AR)(sp:Sp)(m a no:Nat):Fr (cZ A sp m a no).2.1 A:=⟨(HE A sp m a no).1,(HE A sp m a no).2.2.2.1,(HE A sp m a no).2.2.1⟩
theorem ER (A:AR)(x:Int):Fr (Qp A x) A:=by
 unfold Qp;split<;>exact⟨rfl,rfl,rfl⟩
theorem Cb (A:AR)(sp:Sp)(k:Int):Fr (cL A sp k).1 A:=by
 unfold cL;split
 ·split
  ·rename_i c ss h1 h2;have h:=EX A sp c.aF 1 (k.toNat+1);generalize cZ A sp c.aF 1 (k.toNat+1)=r at h;obtain⟨o,A',a⟩:=r;cases o with
   | none=>exact h
   | some x=>
    simp only;split<;>exact h
  ·exact⟨rfl,rfl,rfl⟩
 ·exact⟨rfl,rfl,rfl⟩
theorem Ez (A:AR)(sp:Sp)(m a:Int):Fr (cA A sp m a).1 A:=by
 unfold cA;split
 ·have h:=EX A sp m.toNat a.toNat 41;generalize cZ A sp m.toNat a.toNat 41=r at h;obtain⟨o,A',b⟩:=r;cases o<;>exact h
 ·exact⟨rfl,rfl,rfl⟩
theorem NS (A:AR)(k:Int):(Zu A k).tb=A.tb:=by unfold Zu;split<;>rfl
theorem LY (A:AR)(k:Int)(xs:List Int):(QT A k xs).tb=A.tb:=by unfold QT;split<;>rfl
theorem HH.l4 (h:HH U F L H)(hk:H.bX[k]?=some A)(hy:L.ys[k]?=some Y):∃G:Rg,(∀b,G b->F b)/\dG U G Y A (cK A Y)/\∀(σ':Hp) (A':AR) (Q:Rg),A'.tb=A.tb->Ext G U σ'->(∀b,Q b->G b\/U.size<=b)->dG σ' (λb=>Grow G U b/\¬Q b) Y A' (cK A' Y) →
 Ext F U σ'/\HH σ' (λb=>Grow F U b/\¬Q b) L (H.cC k A'):=by
 obtain⟨Y',G,d,_,j,s,g⟩:=h.wL hk;rw[hy]at d;cases d;refine⟨G,j,s,λσ' A' Q i e u r=>?_⟩;obtain⟨e1,m⟩:=g σ' A' _ i e (λb a=>a.1) r;refine⟨e1,m.mono (λb _ a=>?_) (h.oG.sub λb a=>a.1) λa=>h.qD a.1⟩;rcases a with a|a
 ·exact⟨.inl a.1,λp=>by
   rcases u b p with h2|h2
   ·exact a.2.2 h2
   ·have:=a.2.1;omega⟩
 ·exact⟨a.1.imp (j b) id,a.2⟩
theorem dG.wH {T:Nat->Hp->Rg->Prop}{G Q:Rg}(h:dG U G Y A T)(hq:∀b,¬Q b):dG U (λb=>G b/\¬Q b) Y A T:=h.mono λb _ a=>⟨a,hq b⟩
theorem HH.mh (h:HH U F L H)(hk:H.bX[k]?=some A)(hy:L.ys[k]?=some Y):∃G:Rg,(∀b,G b->F b)/\dG U G Y A (cK A Y)/\∀(σ':Hp) (A':AR),A'.tb=A.tb->Ext G U σ'->dG σ' (Grow G U) Y A' (cK A' Y) →
 Ext F U σ'/\HH σ' (Grow F U) L (H.cC k A'):=by
 obtain⟨G,j,i,a⟩:=h.l4 hk hy;refine⟨G,j,i,λσ' A' d e p=>?_⟩;obtain⟨e1,m⟩:=a σ' A' (λ_=>False) d e (λb g=>g.elim) (p.wH λ_=>id);exact⟨e1,m.mono (λb _ g=>g.1) h.oG h.qD⟩
theorem H6 (h:HH U F L H)(hk:H.bX[k]?=some A)(hy:L.ys[k]?=some Y)(c:Int){R:Sl->Int->Hp->Prop}
 (hR:∀s σ' (Q:Rg),Ext F U σ'->(∀b,Q b->F b)->cU s 1 (Wo (Yn A c)) σ' Q->s.len<=s.cap->HH σ' (λb=>Grow F U b/\¬Q b) L (H.cC k (Zu A c))->R s (ZV A c) σ') :
 Wz.c (aW Y.p) c U R:=by
 obtain⟨G,r,j,d⟩:=h.l4 hk hy;refine HZ j c λs σ' e i u g w=>?_;obtain⟨e1,m⟩:=d σ' (Zu A c) (kC s) (NS A c) e (λb a=>.inl (i b a)) (w.mono λb _ a=>⟨.inl a.1,a.2⟩);exact hR s σ' (kC s) e1 (λb a=>r b (i b a)) u g m
theorem J0 (h:HH U F L H)(hk:H.bX[k]?=some A)(hy:L.ys[k]?=some Y)(c m:Int){R:Sl->Int->Hp->Prop}
 (hR:∀s σ' (Q:Rg),Ext F U σ'->(∀b,Q b->U.size<=b)->bR s 1 (ints (X9 A c m)) σ' Q->HH σ' (λb=>Grow F U b/\¬Q b) L (H.cC k (Ys A c m))->R s (Qo A c m) σ') :
 WB.c (aW Y.p) c m U R:=by
 obtain⟨G,w,i,d⟩:=h.l4 hk hy;refine O9 i c m λs σ' e r u=>?_;have g:cK (Ys A c m) Y=cK A Y:=(Cx A c m).cK Y;obtain⟨e1,j⟩:=d σ' (Ys A c m) (λb=>U.size<=b) (Cx A c m).1 e (λb a=>.inr a) (by rw[g];exact u.mono λb _ a=>⟨.inl a.1,by have:=a.2;omega⟩);exact hR s σ' _ e1 (λb a=>a) r j
theorem Lu (h:HH U F L H)(hk:H.bX[k]?=some A)(hy:L.ys[k]?=some Y)(c:Int){sl:Sl}{xs:List Int}{X:Rg}(hs:cU sl 1 (Wo xs) U X)(hi:∀x∈xs,iD x){R:Bool->Int->Hp->Prop}
 (hR:∀σ',Ext F U σ'->HH σ' (Grow F U) L (H.cC k (QT A c xs))->R (KW A c xs) (UU A c xs) σ'):WE.c (aW Y.p) c sl U R:=by
 obtain⟨G,i,b,a⟩:=h.mh hk hy;refine J8 b c hs hi λσ' e g=>?_;obtain⟨e1,d⟩:=a σ' _ (LY A c xs) e g;exact hR σ' e1 d
theorem I0 (h:HH U F L H)(hk:H.bX[k]?=some A)(hy:L.ys[k]?=some Y)(c:Int){sl:Sl}{xs:List Int}{X:Rg}(hs:cU sl 1 (Wo xs) U X)(hX:∀b,b<U.size->X b->¬F b)(hi:∀x∈xs,iD x)(hl:xs.length<=1000000)(hcap:sl.len<=sl.cap){R:aN}
 (hR:∀σ',Ext F U σ'->HH σ' (Grow F U) L (H.cC k (Zr A c xs))->R (QH A c xs) σ'):WM.c (aW Y.p) c sl U R:=by
 obtain⟨G,r,j,a⟩:=h.mh hk hy;refine Md j c hi hl hcap (.inl ⟨X,hs,λb s g i=>hX b s g (r b i)⟩) λσ' e u=>?_;have d:cK (Zr A c xs) Y=cK A Y:=(CJ A c xs).cK Y;obtain⟨e1,m⟩:=a σ' _ (CJ A c xs).1 e (by rw[d];exact u);exact hR σ' e1 m
theorem Rm (h:HH U F L H)(hk:H.bX[k]?=some A)(hy:L.ys[k]?=some Y)(x:Int)(hf:∀r∈A.runs,r.1<=1000000){R:aN}
 (hR:∀σ',Ext F U σ'->HH σ' (Grow F U) L (H.cC k (Qp A x))->R (KG A x) σ'):WK.c (aW Y.p) x U R:=by
 obtain⟨G,j,d,a⟩:=h.mh hk hy;refine I2 d x hf λσ' e i=>?_;have b:cK (Qp A x) Y=cK A Y:=(ER A x).cK Y;obtain⟨e1,g⟩:=a σ' _ (ER A x).1 e (by rw[b];exact i);exact hR σ' e1 g
theorem Rw (h:HH U F L H)(hk:H.bX[k]?=some A)(hy:L.ys[k]?=some Y)(c:Int){R:aN}
 (hR:∀σ',Ext F U σ'->HH σ' (Grow F U) L {H.cC k (cL A H.sp c).1 with sp:=(cL A H.sp c).2}->R (KA A H.sp c) σ'):XX.c (aW Y.p) c U R:=by
 obtain⟨Y',G,D,a,_,j,b⟩:=h.od hk;rw[hy]at a;cases a;refine NJ j c λσ' G' D' g e m=>?_;have d:cK (cL A H.sp c).1 Y=cK A Y:=(Cb A H.sp c).cK Y;obtain⟨e1,i⟩:=b σ' _ _ G' D' (Cb A H.sp c).1 e g (by rw[d];exact m);exact hR σ' e1 i
theorem RX (h:HH U F L H)(hk:H.bX[k]?=some A)(hy:L.ys[k]?=some Y)(m a:Int){R:Int->Int->Hp->Prop}
 (hR:∀σ',Ext F U σ'->HH σ' (Grow F U) L {H.cC k (cA A H.sp m a).1 with sp:=(cA A H.sp m a).2}->R ((ZT A H.sp m a:Nat):Int) (Qh A H.sp m a) σ'):WL.c (aW Y.p) m a U R:=by
 obtain⟨Y',G,D,b,_,r,d⟩:=h.od hk;rw[hy]at b;cases b;refine JA r m a λσ' G' D' i e s=>?_;have g:cK (cA A H.sp m a).1 Y=cK A Y:=(Ez A H.sp m a).cK Y;obtain⟨e1,j⟩:=d σ' _ _ G' D' (Ez A H.sp m a).1 e i (by rw[g];exact s);exact hR σ' e1 j
def Hw.dR (H:Hw)(t:Nat)(g:Th)(ls:List Li):Hw:={H with bQ:=H.bQ.set t {g with ls:=ls}}
theorem HH.kV (h:HH U F L H)(hx:L.ts[t]?=some x)(hg:H.bQ[t]?=some g):∃G:Rg,(∀b,G b->F b)/\eA U G x.c H.tb H.cf.dA g.ls/\∀(σ':Hp) (ls:List Li) (Y':gO) (Q:Rg),Y'.p=x.c.p->Ext G U σ'->(∀b,Q b->U.size<=b)->eA σ' (λb=>Grow G U b/\¬Q b) Y' H.tb H.cf.dA ls →
 Ext F U σ'/\HH σ' (λb=>Grow F U b/\¬Q b) {L with ts:=L.ts.set t {x with c:=Y'}} (H.dR t g ls):=by
 obtain⟨G,i,s,d⟩:=h.oV hx hg;refine⟨G,i,s,λσ' ls Y' Q j e u w=>?_⟩;obtain⟨e1,m⟩:=d σ' ls Y' _ j e (λb a=>a.1) w;refine⟨e1,m.mono (λb _ a=>?_) (h.oG.sub λb a=>a.1) λa=>h.qD a.1⟩;rcases a with a|a
 ·exact⟨.inl a.1,λr=>by have:=a.2.1;have:=u b r;omega⟩
 ·exact⟨a.1.imp (i b) id,a.2⟩
theorem HH.kS (h:HH U F L H)(hx:L.ts[t]?=some x)(hg:H.bQ[t]?=some g):∃G:Rg,(∀b,G b->F b)/\eA U G x.c H.tb H.cf.dA g.ls/\∀(σ':Hp) (ls:List Li) (Y':gO),Y'.p=x.c.p->Ext G U σ'->eA σ' (Grow G U) Y' H.tb H.cf.dA ls →
 Ext F U σ'/\HH σ' (Grow F U) {L with ts:=L.ts.set t {x with c:=Y'}} (H.dR t g ls):=by
 obtain⟨G,m,r,a⟩:=h.kV hx hg;refine⟨G,m,r,λσ' ls Y' i e s=>?_⟩;obtain⟨e1,j⟩:=a σ' ls Y' (λ_=>False) i e (λb d=>d.elim) (s.mono λb _ d=>⟨d,id⟩);exact⟨e1,j.mono (λb _ d=>d.1) h.oG h.qD⟩
theorem Nl (h:HH U F L H)(hx:L.ts[t]?=some x)(hg:H.bQ[t]?=some g)(hc:H.tb[k]?=some c)(hl:g.ls[k]?=some l){R:Int->Int->Hp->Prop}
 (hR:∀σ' ts',Ext F U σ'->HH σ' (Grow F U) {L with ts:=ts'} (H.dR t g (g.ls.set k (QX c l).2))->R ((QX c l).1.getD 0) (if(QX c l).1.isSome then 0 else 4) σ'):X3.c (aW x.c.p) (k:Int) U R:=by
 obtain⟨G,m,b,a⟩:=h.kS hx hg;refine kG b hc hl λσ' Y' e d j=>?_;obtain⟨e1,i⟩:=a σ' _ Y' d e j;exact hR σ' _ e1 i
theorem MC (h:HH U F L H)(hx:L.ts[t]?=some x)(hg:H.bQ[t]?=some g)(hc:H.tb[k]?=some c)(hl:g.ls[k]?=some l){R:Int->Int->Hp->Prop}
 (hR:∀σ' ts',Ext F U σ'->HH σ' (Grow F U) {L with ts:=ts'} H->R ((GD c l:Nat):Int) 0 σ'):X6.c (aW x.c.p) (k:Int) U R:=by
 obtain⟨G,m,d,a⟩:=h.kS hx hg;refine Sc d hc hl λσ' Y' e i j=>?_;obtain⟨e1,b⟩:=a σ' _ Y' i e j;have e2:H.dR t g g.ls=H:=by
  unfold Hw.dR;rw[Z5 hg]
 rw[e2]at b;exact hR σ' _ e1 b
theorem NA (h:HH U F L H)(hx:L.ts[t]?=some x)(hg:H.bQ[t]?=some g)(hc:H.tb[k]?=some c)(hl:g.ls[k]?=some l){sl:Sl}{xs:List Int}{X:Rg}(hs:cU sl 1 (Wo xs) U X)(hX:∀q,X q->¬F q)(hfit:l.os.length+xs.length<=256){R:aN}
 (hR:∀σ' ts',Ext F U σ'->HH σ' (Grow F U) {L with ts:=ts'} (H.dR t g (g.ls.set k (eC xs.reverse l)))->R 0 σ'):XS.c (aW x.c.p) (k:Int) sl U R:=by
 obtain⟨G,j,b,a⟩:=h.kS hx hg;refine Pd b hc hl hs (λq m hg=>hX q m (j q hg)) hfit λσ' Y' e d r=>?_;obtain⟨e1,i⟩:=a σ' _ Y' d e r;exact hR σ' _ e1 i
theorem Oh (h:HH U F L H)(hx:L.ts[t]?=some x)(hg:H.bQ[t]?=some g)(hc:H.tb[k]?=some c)(hl:g.ls[k]?=some l)(y:Int){R:Sl->Int->Hp->Prop}
 (hR:∀σ' ts' s e (Q:Rg),Ext F U σ'->(∀q,Q q->U.size<=q)->bR s 1 (Wo (dJ c y l).1) σ' Q->HH σ' (λb=>Grow F U b/\¬Q b) {L with ts:=ts'} (H.dR t g (g.ls.set k (dJ c y l).2))->R s e σ'):Yu.c (aW x.c.p) (k:Int) y U R:=by
 obtain⟨G,z,i,a⟩:=h.kV hx hg;refine RN i hc hl y λσ' Y' s r Q e j _ d u w=>?_;obtain⟨e1,m⟩:=a σ' _ Y' Q j e d w;exact hR σ' _ s r Q e1 d u m
theorem Lz (h:HH U F L H)(hx:L.ts[t]?=some x)(hg:H.bQ[t]?=some g){R:aO}(hR:∀σ',bK U σ'->R (decide (H.cf.dA<QN H.tb g.ls)) σ'):XZ.c (aW x.c.p) U R:=by
 obtain⟨G,d,b,a⟩:=h.kS hx hg;exact JD b hR
theorem F8 (hso:H4)(h:HH U F L H)(hx:L.ts[t]?=some x)(hg:H.bQ[t]?=some g){R:Sl->Hp->Prop}
 (hR:∀σ' s (Q:Rg),Ext F U σ'->(∀q,Q q->U.size<=q)->ir s (QW ZD H.tb g.ls) σ' Q->HH σ' (λb=>Grow F U b/\¬Q b) L (H.dR t g (QR ZD H.tb g.ls))->R s σ'):XC.c (aW x.c.p) U R:=by
 obtain⟨G,u,j,a⟩:=h.kV hx hg;refine MR hso j λσ' s Q e i r m=>?_;obtain⟨e1,d⟩:=a σ' _ x.c Q rfl e i r;rw[show L.ts.set t {x with c:=x.c}=L.ts from Z5 hx]at d;exact hR σ' s Q e1 i m d
theorem Ma (hso:H4)(h:HH U F L H)(hx:L.ts[t]?=some x)(hg:H.bQ[t]?=some g){R:Sl->Hp->Prop}
 (hR:∀σ' s (Q:Rg),Ext F U σ'->(∀q,Q q->U.size<=q)->ir s (QW KC H.tb g.ls) σ' Q->HH σ' (λb=>Grow F U b/\¬Q b) L (H.dR t g (QR KC H.tb g.ls))->R s σ'):WW.c (aW x.c.p) U R:=by
 obtain⟨G,u,j,a⟩:=h.kV hx hg;refine Lc hso j λσ' s Q e i r m=>?_;obtain⟨e1,d⟩:=a σ' _ x.c Q rfl e i r;rw[show L.ts.set t {x with c:=x.c}=L.ts from Z5 hx]at d;exact hR σ' s Q e1 i m d
def mS (S:aP)(L:dM)(tb:List bZ):Prop:=∀m,S m->∃(P:Rg) (ts:List eH) (H:Hw),HH m P {L with ts:=ts} H/\H.tb=tb
theorem mS.dD {S:aP}{tb:List bZ}(hS:mS S L tb){K:Sl->Prop}(hK:K L.dD):gC S .s (Addr.add ⟨L.p,0,none⟩ 0) K:=⟨L.dD,λm a=>by obtain⟨_,_,_,h,_⟩:=hS m a;rw[add_lit,h.hd.cell];rfl,hK⟩
theorem mS.fL {S:aP}{tb:List bZ}(hS:mS S L tb){K:Sl->Prop}(hK:K L.fL):gC S .s (Addr.add ⟨L.p,0,none⟩ 7) K:=⟨L.fL,λm a=>by obtain⟨_,_,_,h,_⟩:=hS m a;rw[add_lit,h.hd.cell];rfl,hK⟩
theorem mS.rA {S:aP}{tb:List bZ}(hS:mS S L tb)(h:HH U F L H)(hy:L.ys[k]?=some Y){K:Option Addr->Prop}(hK:K (some ⟨Y.p,0,none⟩)):Ix L.fL.a L.fL.len (k:Int) 1 λa=>gC S .p a K:=by
 have i:(fJ (L.ys.map (·.p)))[k]?=some (.pointer (some ⟨Y.p,0,none⟩)):=by simp[fJ,hy]
 obtain⟨b,o,j,_⟩:=h.mG.cell i;have w:=(cW.1 hy).1;have r:=h.mF;have:=h.s.ys;rw[j];refine ix O O ⟨_,λm u=>?_,hK⟩;obtain⟨_,_,_,g,_⟩:=hS m u;obtain⟨x,y,d,e⟩:=g.mG.cell i;rw[j]at d;cases d;rw[add_lit,show o+(k:Int).toNat*1=o+k by omega];exact e
theorem mS.rC {S:aP}(hS:mS S L H.tb)(h:HH U F L H)(hc:H.tb[k]?=some c){K:Int->Prop}(hK:K (c.size:Int)):Ix L.dD.a L.dD.len (k:Int) 3 λa=>gC S bN (a.add 0) K:=by
 have e:(fX H.tb)[3*k+0]?=some (.int .i64 (c.size:Int)):=(Gw hc).1;obtain⟨b,o,r,_⟩:=h.jz.cell e;have w:=(cW.1 hc).1;have s:=h.oz;rw[r];refine ix O O ⟨_,λm u=>?_,hK⟩;obtain⟨_,_,_,p,j⟩:=hS m u;rw[←j]at e;obtain⟨x,y,d,g⟩:=p.jz.cell e;have d:L.dD.a=_:=d;rw[r]at d;cases d;rw[add_lit,add_lit,show o+(k:Int).toNat*3+0=o+(3*k+0) by omega];exact g
end Go.Ar
namespace Go.Ar
open Go Go.Vc Go.Proofs
variable {U u u':Hp}{F B P Q:Rg}{L:dM}{H H':Hw}{t k n pb:Nat}{A:AR}{Y:Lay}{x:eH}{g:Th}{c:bZ}{l:Li}{cs:List Value}{parts:List (List Int)}{xs:List Int}
theorem HK.Bd (K:HK F U B u P L H)(e:Ext B u u'){B':Rg}(hB:∀b,B' b->B b\/u.size<=b/\b<u'.size):HK F U B' u' P L H:=by
 have r:=e.1;have j:=K.e.1;have i:iN B/\¬B 1:=⟨K.o.1.sub λb g=>(K.b b g).1,λg=>K.o.2 (K.b _ g).1⟩;refine⟨K.h.bS e (λb _ a d=>(K.p b a).2.1 d) i.1 i.2,K.e.dT e λb m=>.inr (K.b b m).1,λb a=>⟨(K.p b a).1,λg=>?_,by have:=(K.p b a).2.2;omega⟩,λb a=>?_,K.o⟩
 ·rcases hB b g with d|d
  ·exact(K.p b a).2.1 d
  ·have:=(K.p b a).2.2;omega
 ·rcases hB b a with d|d
  ·have:=K.b b d;omega
  ·omega
def sV (s:Sl):Value:=.slice s.a s.len s.cap
def mr (pb:Nat)(parts:List (List Int)):Hp->Rg->Prop:=λu Q=>∃(ps:List Sl) (Qs:Nat->Rg),ps.length=parts.length/\Q pb/\bY u pb (ps.map sV)/\(∀j b,Qs j b->Q b/\b≠pb)/\(∀j j' b,Qs j b->Qs j' b->j=j') ∧
 ∀j s xs,ps[j]?=some s->parts[j]?=some xs->dI s 1 (Wo xs) u (Qs j)
theorem mr.loc (pb:Nat)(parts:List (List Int)):dL (mr pb parts):=by
 rintro U H F G ⟨y,Qs,x,B,r,i,E,C⟩ w g;have p:=g pb r.lt B;obtain⟨e,A⟩:=r;refine⟨y,λj b=>Qs j b/\b<U.size,x,p.1,⟨e,p.2.trans A⟩,λj b d=>⟨(g b d.2 (i j b d.1).1).1,(i j b d.1).2⟩,λj u b a z=>E j u b a.1 z.1,λj s D a b=>(dI.loc _ _ _) _ _ _ _ (C j s D a b) w λb d m=>⟨⟨m,d⟩,(g b d (i j b m).1).2⟩⟩
theorem mr.add (h:mr pb parts u Q){a m e1 e2:Nat}(hm:m=parts.length)(ha:parts[a]?=some xs)(y:Int)(hl:xs.length<=1000000){K:aP}(hK:∀u',Ext Q u u'->mr pb (parts.set a (xs++[y])) u' (Grow Q u)->K u') :
 Ix (some ⟨pb,0,none⟩) m (a:Int) 1 λa1=>jr a1 u λt35=>Nw (.cells #[.int .i64 y] e1 (0,0)) u λn37 v4=>App t35 1 8 e2 [.int .i64 0] ⟨some n37,1,1⟩ v4 λt38 v5=>Ix (some ⟨pb,0,none⟩) m (a:Int) 1 λa39=>dW a39 (.slice t38.a t38.len t38.cap) v5 λv6=>K v6:=by
 obtain⟨B,Qs,X,N,H,A,S,R⟩:=h;have L:=(cW.1 ha).1;have p:B[a]?=some (B[a]' O):=cV _;generalize (B[a]' O)=s at p;have i:=R a s xs p ha;have Y:s.len=xs.length:=by have:=i.1;simp[Wo]at this;omega
 refine ix O O ?_;rw[add_lit,show 0+(a:Int).toNat*1=a by omega];refine H.tY (a:=s.a) (n:=s.len) (c:=s.cap) (by simp[p,sV]) ?_;refine nw (cs:=[.int .i64 y]) λv4 hz e d=>?_;have r:=(dI.loc _ _ _).bO ((dI.loc _ _ _).cut i) e;have G:=e.bT H id;refine r.app (x:=⟨some ⟨u.size,0,none⟩,1,1⟩) (ys:=[.int .i64 y]) rfl rfl ?_ (by simp[dQ]) ?_ ?_ mO λs' v5 hl5 C M=>?_
 ·intro j w hw;rw[add_lit,zH,d.cell];exact hw
 ·simp only;omega
 ·simp only;omega
 have W:=C.1;have F:bY v5 pb (B.map sV):=C.bT G λz=>(A a pb z.1).2 rfl;refine ix O O ?_;rw[add_lit,show 0+(a:Int).toNat*1=a by omega];refine F.s0 aE λu' P g=>?_;have hz6:=P.1;have J:Ext (· = pb) v5 u':=P.ext;have Z:Ext Q u u':=((bK.to e).trans (C.sub λb d=>(A a b d.1).1)).trans (J.sub λb d=>by rw[d];exact N);have hpb:=H.lt;refine hK u' Z ⟨B.set a s',λj b=>Qs j b/\b<u.size\/j=a/\v4.size<=b/\b<v5.size,by simp[X],.inl N,?_,λj b d=>?_,λj U b d g=>?_,λj s2 ys D E=>?_⟩
 ·rw[vB];exact g
 ·rcases d with d|d
  ·exact⟨.inl (A j b d.1).1,(A j b d.1).2⟩
  ·exact⟨.inr O,O⟩
 ·rcases d with d|d<;>rcases g with g|g
  ·exact S j U b d.1 g.1
  ·omega
  ·omega
  ·omega
 ·by_cases hja:j=a
  ·subst hja;rw[zL O]at D;rw[zL L]at E;cases D;cases E;have:=(dI.loc _ _ _).bS ((dI.loc _ _ _).cut M) J λb _ d z=>by
    rcases d.1 with h7|h7
    ·exact(A j b h7.1).2 z
    ·omega
   have V:Wo (xs++[y])=Wo xs++[.int .i64 y]:=by simp[Wo]
   rw[V];refine(dI.loc _ _ _).mono this λb _ d=>?_;rcases d.1 with h7|h7
   ·exact .inl h7
   ·exact .inr ⟨rfl,h7,d.2⟩
  ·rw[zk (Ne.symm hja)]at D E;have:=(dI.loc _ _ _).cut (R j s2 ys D E);have:=(dI.loc _ _ _).bS ((dI.loc _ _ _).bS ((dI.loc _ _ _).bO this e) C λb _ d z=>hja (S j a b d.1 z.1)) J λb _ d z=>(A j b d.1).2 z;exact(dI.loc _ _ _).mono this λb _ d=>.inl d
theorem mr.get (h:mr pb parts u Q){a m:Nat}(hm:m=parts.length)(ha:parts[a]?=some xs){K:Sl->Prop}(hK:∀s,dI s 1 (Wo xs) u Q->s.len=xs.length->K s):Ix (some ⟨pb,0,none⟩) m (a:Int) 1 λa1=>jr a1 u K:=by
 obtain⟨g,Qs,x,z,j,r,y,p⟩:=h;have w:=(cW.1 ha).1;have e:g[a]?=some (g[a]' O):=cV _;generalize (g[a]' O)=s at e;have d:=p a s xs e ha;refine ix O O ?_;rw[add_lit,show 0+(a:Int).toNat*1=a by omega];refine j.tY (a:=s.a) (n:=s.len) (c:=s.cap) (by simp[e,sV]) (hK s ((dI.loc _ _ _).mono d λb _ i=>(r a b i).1) ?_);have:=d.1;simp[Wo]at this;omega
theorem GO {bX:List AR}{x:Int}(h:0<=XO bX x):(XO bX x).toNat<bX.length/\XO bX x=((XO bX x).toNat:Int):=by
 refine⟨?_,O⟩;unfold XO at *;split at h
 ·omega
 ·rename_i hx;rw[zB hx];split at h
  ·rename_i i hi;have:=(List.findIdx?_eq_some_iff_findIdx_eq.1 hi).1;simp only[dE];exact this
  ·omega
theorem Of {bX:List AR}{x:Int}{xs:List Int}(h:0<=XO bX x):((List.range bX.length).map (ZC bX xs)).set (XO bX x).toNat (ZC bX xs (XO bX x).toNat++[x])=(List.range bX.length).map (ZC bX (xs++[x])):=by
 have a:=GO h;apply zo;intro j;by_cases hj:j<bX.length
 ·by_cases e:(XO bX x).toNat=j
  ·subst e;rw[zL (by simpa using hj)];simp only[zd,m4 hj,zX,ZC,tZ]
   congr 2
   rw[uJ (by rw[←a.2];simp)];rfl
  ·rw[zk e];simp only[zd,m4 hj,zX,ZC,tZ];have:List.filter (λy=>XO bX y==(j:Int)) [x]=[]:=by
    rw[ux (by simp only[zT];omega)];rfl
   rw[this,kX]
 ·rw[zV aE,zV aE]
theorem KE {K:aO}{body:(Bool->Hp->Prop)->Prop}(P:aO)(h1:∀r w,P r w->K r w)(h2:∀J:Bool->Hp->Prop,(∀r w,P r w->J r w)->body J):bW K body:=bW.intro (h2 K h1)
theorem xm {K:eO [.b]}{body:eO [.b]->Prop}(P:aO)(h1:∀r w,P r w->K r w)(h2:∀J:eO [.b],(∀r w,P r w->J r w)->body J):Jn [.b] K body:=Jn.intro (h2 K h1)
theorem uA {K:eO []}{body:eO []->Prop}(P:aP)(h1:∀w,P w->K w)(h2:∀J:eO [],(∀w,P w->J w)->body J):Jn [] K body:=Jn.intro (h2 K h1)
theorem KU {H:Hw}{k:Nat}{part:Nat->List Int}(j:Nat):KN H k part (List.range (j+1))=(match (KN H k part (List.range j)).bX[j]? with
 | some A=>if part j=[]then KN H k part (List.range j)else(KN H k part (List.range j)).cC j (Zr A (k:Int) (part j))
 | none=>KN H k part (List.range j)):=by
 unfold KN;rw[pT,wO];rfl
theorem JG {H:Hw}{k:Nat}{part:Nat->List Int}(j:Nat):(KN H k part (List.range j)).bX.length=H.bX.length:=by
 induction j with
 | zero=>rfl
 | succ j ih=>
  rw[KU];split
  ·split
   ·exact ih
   ·simp[Hw.cC,ih]
  ·exact ih
theorem R3 {H:Hw}{k:Nat}{part:Nat->List Int}(j:Nat):(KN H k part (List.range j)).bQ=H.bQ:=by
 induction j with
 | zero=>rfl
 | succ j ih=>
  rw[KU];split
  ·split<;>exact ih
  ·exact ih
theorem BZ (H:Hw)(own k:Nat)(xs:List Int):(Hr H own k xs).bQ=H.bQ:=by
 unfold Hr;split
 ·split
  ·rfl
  ·rw[R3];split<;>rfl
 ·rfl
def AF (F:Rg)(U:Hp)(L:dM)(H:Hw)(pb:Nat)(parts:List (List Int))(cs:List Value)(w:Hp):Prop:=∃Q P:Rg,HK F U (λb=>b=U.size\/Q b) w P L H/\mr pb parts w Q/\bY w U.size cs/\∀b,Q b->b≠U.size
theorem Ll (h:HH U F L H){own:Nat}(ho:own<H.bX.length)(k:Nat){sl:Sl}{xs:List Int}{X:Rg}(hs:cU sl 1 (Wo xs) U X)(hX:∀b,b<U.size->X b->¬F b)(hcap:sl.len<=sl.cap)(hx:∀x∈xs,iD x/\0<=XO H.bX x)(hl:xs.length<=1000000){R:aP}
 (hR:∀σ',Ext F U σ'->HH σ' (Grow F U) L (Hr H own k xs)->R σ'):Zj.c (aW L.p) (own:Int) (k:Int) sl U R:=by
 refine Zj.o ?_;unfold Zj.v;have hsl:sl.len=xs.length:=by have:=hs.1;simp[Wo]at this;omega
 have ha2:=h.s.a2;have hal:=h.mF;have hs1:∀u,Ext F U u->cU sl 1 (Wo xs) u (λb=>X b/\b<U.size):=λu eu=>aH.bS (aH.cut hs) eu λb _ hx hf=>hX b hx.2 hx.1 hf;refine nw (cs:=[.int .i64 (k:Int),.slice sl.a sl.len sl.cap]) λv hz e d=>?_;have K1:=(HK.start h).box e hz;refine aG (K1.h.hd.rS rfl ?_);simp only;refine mk (n:=L.fL.len) O O λv1 hz1 e1 hb1=>?_;have K2:=K1.box e1 hz1;have hb2:=e1.bT d id;have V:mr v.size ((List.range H.bX.length).map (ZC H.bX [])) v1 (λb=>b=v.size):=by
  refine⟨List.replicate H.bX.length ⟨none,0,0⟩,λ_ _=>False,by simp,rfl,?_,λj b d=>d.elim,λj j' b d=>d.elim,λj s ys g h2=>?_⟩
  ·have:(List.replicate L.fL.len [Value.slice none 0 0]).flatten=(List.replicate H.bX.length (⟨none,0,0⟩:Sl)).map sV:=by
    rw[hal];simp[sV]
   rw[←this];exact hb1
  ·simp only[zd,nV]at h2;obtain⟨a,_,rfl⟩:=h2;simp only[mc]at g;split at g
   ·cases g;exact dI.nil _ _ _ _
   ·cases g
 have hpl:∀ys:List Int,L.fL.len=((List.range H.bX.length).map (ZC H.bX ys)).length:=λys=>by simp[hal]
 refine hb2.rS rfl ?_;refine ZY (a:=bN) (λ(z:Int) w=>∃i:Nat,z=(i:Int)/\i<=xs.length/\AF F U L H v.size ((List.range H.bX.length).map (ZC H.bX (xs.take i))) [.int .i64 (k:Int),.slice sl.a sl.len sl.cap] w) (λz _=>xs.length-z.toNat)
  ⟨0,rfl,O,λb=>b=v.size,_,⟨K2.h,K2.e,λb d=>⟨(K2.p b d).1,λhx=>(K2.p b d).2.1 (hx.imp .inr id),(K2.p b d).2.2⟩,λb d=>K2.b b (d.imp .inr id),K2.o⟩,V,hb2,λb d=>O⟩ ?_
 rintro z w ⟨i,rfl,hi,Q,P,K,V,C,hQ⟩;refine cQ (λD=>?_) λhge=>?_
 ·simp only at D;have hi':i<xs.length:=by omega
  have Z:xs[i]?=some xs[i]:=cV hi';generalize xs[i]=y at Z;have hy:=hx y (zG Z);refine(hs1 w K.e).mY Z (GH K.h y hy.1 λw1 e1=>?_);have D:=GO hy.2;rw[D.2];have hP1:mr v.size _ w1 (λb=>Q b/\b<w.size):=(mr.loc _ _).bO ((mr.loc _ _).cut V) e1;have hpart:((List.range H.bX.length).map (ZC H.bX (xs.take i)))[(XO H.bX y).toNat]?=some (ZC H.bX (xs.take i) (XO H.bX y).toNat):=by
   simp only[zd,m4 D.1,zX]
  have hpl1:(ZC H.bX (xs.take i) (XO H.bX y).toNat).length<=1000000:=by
   have:=qT (λx=>XO H.bX x==(((XO H.bX y).toNat:Nat):Int)) (xs.take i);simp only[ZC];rw[zZ]at this;omega
  refine hP1.add (hpl _) hpart y hpl1 λw2 e2 hP2=>?_;rw[Of hy.2]at hP2;have ht:xs.take i++[y]=xs.take (i+1):=by rw[k7,Z];rfl
  rw[ht]at hP2;have hz1:=e1.1;have hz2:=e2.1;refine cP (m:=i+1) O O ⟨⟨i+1,rfl,O,λb=>(Q b/\b<w.size)\/w1.size<=b/\b<w2.size,P,(K.fr e1).Bd (e2.sub λb d=>.inr d.1) λb d=>?_,(mr.loc _ _).mono hP2 λb d N=>?_,?_,λb d=>?_⟩,O⟩
  ·rcases d with d|d|d
   ·exact .inl (.inl d)
   ·exact .inl (.inr d.1)
   ·exact .inr d
  ·rcases N with N|N
   ·exact .inl N
   ·exact .inr ⟨N,d⟩
  ·exact e2.bT (e1.bT C id) λhx=>hQ _ hx.1 rfl
  ·have:=(K.b U.size (.inl rfl)).2;rcases d with d|d
   ·exact hQ b d.1
   ·omega
 ·have hii:i=xs.length:=by simp only at hge;omega
  subst hii;rw[mV]at V;obtain⟨A,hA⟩:∃A,H.bX[own]?=some A:=⟨_,cV ho⟩;obtain⟨Y,hY,_,_⟩:=h.ar hA;have E:Hr H own k xs=(if(ZC H.bX xs own).length=xs.length/\KW A (k:Int) xs=true then H.cC own (QT A (k:Int) xs)
   else KN (if(ZC H.bX xs own).length=xs.length then H.cC own (QT A (k:Int) xs)else H) k (ZC H.bX xs) (List.range H.bX.length)):=by
   unfold Hr;rw[hA]
  have hown:((List.range H.bX.length).map (ZC H.bX xs))[own]?=some (ZC H.bX xs own):=by
   simp only[zd,m4 ho,zX]
  refine uA (λw=>¬((ZC H.bX xs own).length=xs.length/\KW A (k:Int) xs=true)/\AF F U L (if(ZC H.bX xs own).length=xs.length then H.cC own (QT A (k:Int) xs)else H) v.size ((List.range H.bX.length).map (ZC H.bX xs)) [.int .i64 (k:Int),.slice sl.a sl.len sl.cap] w) (λw hw=>?_) λJ hJ=>?_
  ·obtain⟨hno,hw⟩:=hw;rw[zB hno]at E;generalize hH1:(if(ZC H.bX xs own).length=xs.length then H.cC own (QT A (k:Int) xs)else H)=H1 at hw E
   have hH1l:H1.bX.length=H.bX.length:=by
    rw[←hH1];split
    ·simp[Hw.cC]
    ·rfl
   refine ZY (a:=bN) (λ(z:Int) w=>∃j:Nat,z=(j:Int)/\j<=H.bX.length/\AF F U L (KN H1 k (ZC H.bX xs) (List.range j)) v.size ((List.range H.bX.length).map (ZC H.bX xs)) [.int .i64 (k:Int),.slice sl.a sl.len sl.cap] w) (λz _=>H.bX.length-z.toNat) ⟨0,rfl,O,hw⟩ ?_;rintro z w ⟨j,rfl,hj,Q,P,K,V,C,hQ⟩;refine cQ (λD=>?_) λhge=>?_
   ·simp only at D;have hj':j<H.bX.length:=by omega
    have hpj:((List.range H.bX.length).map (ZC H.bX xs))[j]?=some (ZC H.bX xs j):=by
     simp only[zd,m4 hj',zX]
    refine V.get (hpl _) hpj λs M W=>?_;have hfl:=JG (H:=H1) (k:=k) (part:=ZC H.bX xs) j;obtain⟨B,hB⟩:∃B,(KN H1 k (ZC H.bX xs) (List.range j)).bX[j]?=some B:=⟨_,cV O⟩;have G:=KU (H:=H1) (k:=k) (part:=ZC H.bX xs) j;rw[hB]at G;simp only at G;refine cQ (λhpos=>?_) λhz0=>?_
    ·have S:ZC H.bX xs j≠[]:=λe=>by rw[e]at W;simp at W;omega
     rw[zB S]at G;obtain⟨Y,hY,_,_⟩:=K.h.ar hB;refine aG (K.h.hd.rS rfl (K.h.rA hY (C.rI rfl ?_)));refine I0 K.h hB hY (k:Int) (dI.gZ M) (λb _ N hp=>(K.p b hp).2.1 (.inr N)) (λx hx'=>(hx x (zI.1 hx').1).1) ?_ (dI.cap M) λw1 e1 g=>?_
     ·have:=qT (λx=>XO H.bX x==(j:Int)) xs;simp only[ZC];omega
     ·have hz1:=e1.1;rw[←G]at g;refine cP (m:=j+1) O O ⟨⟨j+1,rfl,O,Q,_,K.to e1 g λb _ d=>d,(mr.loc _ _).bS V e1 λb _ N hp=>(K.p b hp).2.1 (.inr N),K.cS e1 C (.inl rfl),hQ⟩,O⟩
    ·have S:ZC H.bX xs j=[]:=BL O;rw[zC S]at G;refine cP (m:=j+1) O O ⟨⟨j+1,rfl,O,Q,P,by rw[G];exact K,V,C,hQ⟩,O⟩
   ·have hjj:j=H.bX.length:=by simp only at hge;omega
    subst hjj;rw[E]at hR;exact hR w K.e (K.fin h)
  ·refine V.get (hpl _) hown λs M W=>C.rS rfl ?_;refine cO (λheq=>?_) λS=>?_
   ·have heq':(ZC H.bX xs own).length=xs.length:=by simp only[zT]at heq;omega
    rw[zC heq']at E hJ;have hS:mS (λu=>(∃P' H',HH u P' L H'/\H'.tb=H.tb)/\bY u U.size [.int .i64 (k:Int),.slice sl.a sl.len sl.cap]) L H.tb:=λm hm=>by
     obtain⟨⟨P',H',g,h2⟩,_⟩:=hm;exact⟨P',L.ts,H',g,h2⟩
    refine⟨λu=>(∃P' H',HH u P' L H'/\H'.tb=H.tb)/\bY u U.size [.int .i64 (k:Int),.slice sl.a sl.len sl.cap],⟨⟨_,_,K.h,rfl⟩,C⟩,aG (hS.fL (hS.rA K.h hY ?_))⟩;refine⟨(k:Int),λm hm=>by rw[add_lit,hm.2.cell];rfl,⟨sl,λm hm=>by rw[add_lit,hm.2.cell];rfl,?_⟩⟩;refine Lu K.h hA hY (k:Int) (hs1 w K.e) (λx hx'=>(hx x hx').1) λw1 e1 g=>?_;have K1:=K.to e1 g λb _ d=>d;refine⟨⟨⟨_,_,g,rfl⟩,K.cS e1 C (.inl rfl)⟩,?_⟩;have fin:∀r,r=KW A (k:Int) xs->((r=true->R w1)/\(r=false->J w1)):=λr hr=>by
     refine⟨λhr1=>?_,λhr1=>hJ w1 ⟨λhx=>Bool.noConfusion ((hr1.symm.trans hr).trans hx.2),Q,_,K1,(mr.loc _ _).bS V e1 λb _ N hp=>(K.p b hp).2.1 (.inr N),K.cS e1 C (.inl rfl),hQ⟩⟩;rw[zC ⟨heq',by rw[←hr,hr1]⟩]at E;rw[E]at hR;exact hR w1 K1.e (K1.fin h)
    refine KE (λr w=>w=w1/\r=KW A (k:Int) xs) (λr w' ⟨hw,hr⟩=>?_) λJ3 hJ3=>?_
    ·subst hw;exact cO (λg=>(fin r hr).1 g) λg=>(fin r hr).2 g
    ·refine cO (λg=>hJ3 _ _ ⟨rfl,?_⟩) λg=>hJ3 _ _ ⟨rfl,g.symm⟩;have:UU A (k:Int) xs=0:=by
      unfold KW at g;simp only[zF,zU]at g;exact g.1
     rw[this,g];rfl
   ·have hne':¬(ZC H.bX xs own).length=xs.length:=by
     simp only[mj]at S;omega
    rw[zB hne']at hJ;exact hJ w ⟨λhx=>hne' hx.1,Q,P,K,V,C,hQ⟩
theorem gE {w:Hp}(K:HK F U B w P L H)(hB:B n){p q:Int}(hb:bY w n [.int .i64 p,.int .i64 q]){x y:Int}{K':Int->Int->Hp->Prop}(hK:∀w',HK F U B w' P L H->K' x y w') :
 dW (Addr.add ⟨n,0,none⟩ 0) (.int .i64 x) w λv3=>dW (Addr.add ⟨n,0,none⟩ 1) (.int .i64 y) v3 λv4=>gp .i64 (Addr.add ⟨n,0,none⟩ 0) v4 λres=>gp .i64 (Addr.add ⟨n,0,none⟩ 1) v4 λoS=>K' res oS v4:=
 hb.s1 aA λv3 o3 a=>a.s1 aA λv4 o4 b4=>b4.rI rfl (b4.rI rfl (hK v4 ((K.own o3 hB).own o4 hB)))
theorem OD (h:HH U F L H)(ht:t<H.bQ.length)(x:Int)(hx:iD x)(hr:bV H.live x=none->∀A∈H.bX,iI A)(hlen:∀g,H.bQ[t]?=some g->g.bP.length<=1000)(h0:∀b,bV H.live x=some b->0<=x){R:Value->Int->Int->Hp->Prop}
 (hR:∀σ' ts',Ext F U σ'->HH σ' (Grow F U) {L with ts:=ts'} (UJ H t x).1->R (mE (UJ H t x).2.1) (UJ H t x).2.2.1 (UJ H t x).2.2.2 σ'):Zg.c (aW L.p) (t:Int) x U R:=by
 refine Zg.o ?_;unfold Zg.v;refine nw (cs:=[.int .i64 0,.int .i64 0]) λv hz e hb=>?_;have K1:=(HK.start h).box e hz;refine aG (K1.h.hd.rM rfl ⟨_,K1.h.mR,?_⟩);refine nw (cs:=[.int .i64 0,.int .i64 0,.int .i64 0,.int .i64 0]) λv1 hz1 e1 hb1=>?_;have K2:=K1.box e1 hz1;have hbv:=e1.bT hb id;have m:U.size≠v.size:=by omega
 refine hb1.s1 aA λv2 o2 b2=>b2.s1 aA λv3 o3 b3=>b3.s1 aA λv4 o4 b4=>b4.s1 aA λv5 o5 b5=>?_;have K5:=(((K2.own o2 (.inr rfl)).own o3 (.inr rfl)).own o4 (.inr rfl)).own o5 (.inr rfl);have C:=Ws o5 (Ws o4 (Ws o3 (Ws o2 hbv m) m) m) m;have hL:L = {L with ts:=L.ts}:=rfl;cases hm:bV H.live x with
 | none=>
  have hno:UJ H t x=(H,none,0,lJ H x):=by unfold UJ;rw[hm]
  rw[hno]at hR;simp only at hR;refine cE rfl ?_;refine uA (λw=>lJ H x=8/\bK v5 w) (λw ⟨h8,ew⟩=>?_) λJ S=>?_
  ·rw[h8]at hR;exact gE (n:=U.size) (K5.fr ew) (.inl (.inr rfl)) (ew.bT C id) λD K'=>hR D L.ts K'.e (K'.fin h)
  ·refine GH K5.h x hx λv9 e9=>?_;have K9:=K5.fr e9;have hb9:=e9.bT C id;refine cQ (λX=>?_) λhlt=>S v9 ⟨zB O,e9⟩;have aa:=GO X;obtain⟨A,hA⟩:∃A,H.bX[(XO H.bX x).toNat]?=some A:=⟨_,cV aa.1⟩;obtain⟨Y,hY,_,hAY⟩:=K9.h.ar hA;have a:lJ H x=(match UD A x with
    | some (k,y)=>if 0<=k/\(y:Int)=x then(9:Int)else 8
    | none=>8):=by unfold lJ;rw[zC X,hA];rfl
   rw[aa.2];refine aG (K9.h.hd.rS rfl (K9.h.rA hY ?_));refine Jr hAY (hr hm A (zG hA)) x hx (λE k y i hf=>?_) λE i hf=>?_
   ·rw[hf]at a;simp only at a;rw[a]at hR S;have K10:=K9.fr i;have hb10:=i.bT hb9 id;refine KE (λr w=>w=E/\r=decide (0<=k)) (λr w ⟨N,d⟩=>?_) λJ1 B=>?_
    ·subst N;subst d;refine KE (λr w2=>w2=w/\r=decide (0<=k/\(y:Int)=x)) (λr w2 ⟨N,d⟩=>?_) λJ2 Z=>?_
     ·subst d;rw[N];refine cQ (λG=>?_) λG=>?_
      ·rw[zC G]at hR;exact gE (n:=U.size) K10 (.inl (.inr rfl)) hb10 λD K'=>hR D L.ts K'.e (K'.fin h)
      ·exact S w ⟨zB G,e9.trans i⟩
     ·refine cQ (λG=>Z _ _ ⟨rfl,?_⟩) λG=>Z _ _ ⟨rfl,?_⟩
      ·by_cases hyx:(y:Int)=x
       ·rw[zJ (⟨G,hyx⟩:0<=k/\(y:Int)=x),zT.2 hyx]
       ·rw[zM (λhx=>hyx hx.2),mj.2 hyx]
      ·rw[zM (λhx=>G hx.1)]
    ·exact cE rfl (B _ _ ⟨rfl,rfl⟩)
   ·rw[hf]at a;simp only at a;rw[a]at S;refine KE (λr w=>w=E/\r=false) (λr w ⟨N,d⟩=>?_) λJ1 B=>cB rfl (B _ _ ⟨rfl,rfl⟩);subst N;subst d;exact bW.intro (cB rfl (cB rfl (S w ⟨rfl,e9.trans i⟩)))
 | some b=>
  have hb0:=h0 b hm;have hfd:UJ H t x=(if b.2.2.1<0 then({H with live:=cT H.live x},some (.dC (x/256) b.2.2.2),0,0)
   else(QF {H with live:=cT H.live x} t b.2.2.1.toNat [x],some (.put b.2.2.1.toNat x),0,0)):=by unfold UJ;rw[hm]
  rw[hfd]at hR;have hgb:(bV H.live x).getD ((0,0,0,0):Bk)=b:=by rw[hm];rfl
  rw[hgb]at b5;refine cB rfl ?_;refine aG (K5.h.hd.rM rfl ?_);obtain⟨hF,V⟩:=K5.h.qP;refine⟨_,K5.h.mR,λv6 o6 _ hm6=>?_⟩;obtain⟨e6,h6⟩:=V v6 _ (o6 _ rfl) hm6;have K6:=K5.to e6 h6 λb _ hb=>.inl hb;have M:=K5.cS e6 C (.inl (.inr rfl));have s:=K5.cS e6 b5 (.inr rfl);refine s.rI rfl (cQ (λK=>?_) λhnn=>?_)
  ·have z:b.2.2.1<0:=K;rw[zC z]at hR;refine nz aB (ar (by rw[Yq O];omega) (by rw[Yq O];unfold iD at hx;omega) (s.rI rfl ?_));rw[Yq O];exact gE (n:=U.size) K6 (.inl (.inr rfl)) M λD K'=>hR D L.ts K'.e (K'.fin h)
  ·have Q:¬b.2.2.1<0:=hnn;rw[zB Q]at hR;refine s.rI rfl (nw (cs:=[.int .i64 x]) λv7 hz7 e7 hb7=>?_);have K7:=K6.box e7 hz7;have P:=e7.bT M id;have hc7:=e7.bT s id;have W:b.2.2.1=((b.2.2.1.toNat:Nat):Int):=by omega
   have hs7:cU ⟨some ⟨v6.size,0,none⟩,1,1⟩ 1 (Wo [x]) v7 (· = v6.size):=hb7.gZ (o:=0) rfl rfl λj hj=>by rw[zH];rfl
   have hz6:=K6.e.1;rw[W];refine Gy K7.h (t:=t) ht b.2.2.1.toNat hs7 (zD _) aA (λq _ u hp=>(K7.p q hp).2.1 (.inr u)) (K7.o.1.sub λq u=>O) (λu=>K7.o.2 O) hlen λv8 ts8 e8 h8=>?_;have K8:=(K6.fr e7).sk e8 h8 λq hql u=>by
    rcases u with u|u
    ·exact u.imp id .inl
    ·refine .inr (.inr ⟨.inr O,λhB=>?_⟩);have:=(K6.b q hB).2;omega
   have hb8:=K7.cS e8 P (.inl (.inl (.inr rfl)));have hc8:=K7.cS e8 hc7 (.inl (.inr rfl));refine hc8.rI (x:=((b.2.2.1.toNat:Nat):Int)) (by rw[←W];rfl) ?_;exact gE (n:=U.size) K8 (.inl (.inr rfl)) hb8 λD K'=>hR D ts8 K'.e (K'.fin h)
end Go.Ar
namespace Go.Ar
open Go Go.Vc Go.Proofs
variable {U u u':Hp}{F B P Q:Rg}{L:dM}{H H':Hw}{t k n pb:Nat}{A:AR}{Y:Lay}{x:eH}{g:Th}{c:bZ}{l:Li}{cs:List Value}
theorem q8 {t' t:TypeId}{w:Value}{A B:Prop}(hne:t'≠t)(h:B):∃is:Bool,jZ (.iface t' w) t [] [] is/\If is A B:=⟨false,⟨rfl,.inr ⟨_,_,rfl,hne⟩⟩,cB rfl h⟩
theorem kI {t' t:TypeId}{w:Value}{A B:Int->Prop}(hne:t'≠t)(h:B 0):∃x:Int,∃is:Bool,jZ (.iface t' w) t [.int .i64 x] [.int .i64 0] is/\If is (A x) (B x):=⟨0,false,⟨rfl,.inr ⟨_,_,rfl,hne⟩⟩,cB rfl h⟩
theorem ja {t' t:TypeId}{w:Value}{A B:Int->Int->Prop}(hne:t'≠t)(h:B 0 0):∃x:Int,∃y:Int,∃is:Bool,jZ (.iface t' w) t [.int .i64 x,.int .i64 y] [.int .i64 0,.int .i64 0] is/\If is (A x y) (B x y):=⟨0,0,false,⟨rfl,.inr ⟨_,_,rfl,hne⟩⟩,cB rfl h⟩
theorem yW {t:TypeId}{A B:Prop}(h:A):∃is:Bool,jZ (.iface t (.agg #[])) t [] [] is/\If is A B:=⟨true,rfl,cE rfl h⟩
theorem AK {t:TypeId}{a:Int}{A B:Int->Prop}(h:A a):∃x:Int,∃is:Bool,jZ (.iface t (.agg #[.int .i64 a])) t [.int .i64 x] [.int .i64 0] is/\If is (A x) (B x):=⟨a,true,rfl,cE rfl h⟩
theorem wy {t:TypeId}{a b:Int}{A B:Int->Int->Prop}(h:A a b):∃x:Int,∃y:Int,∃is:Bool,jZ (.iface t (.agg #[.int .i64 a,.int .i64 b])) t [.int .i64 x,.int .i64 y] [.int .i64 0,.int .i64 0] is/\If is (A x y) (B x y):=⟨a,b,true,rfl,cE rfl h⟩
theorem HH.tc (h:HH u P L H)(hx:L.ts[t]?=some x)(hg:H.bQ[t]?=some g){b o:Nat}(ha:L.cN.a=some ⟨b,o,none⟩){d:Nat}(hd:d<3){v:Value}(hv:(jj (x,g))[d]?=some v):cell u (Addr.add ⟨b,o+3*t,none⟩ d)=some v:=by
 obtain⟨m,j,e,i⟩:=vo h.mQ hx hg hd hv;rw[ha]at e;cases e;rw[add_lit,show o+3*t+d=o+(3*t+d) by omega];exact i
theorem HH.ve (h:HH u P L H)(hP:∀b,P b->b<u.size)(hx:L.ts[t]?=some x)(hg:H.bQ[t]?=some g)(N:Rg)(hN:∀b,b<u.size->P b->¬N b)(oN:iN N)(oN2:¬N 1) :
 ∃G D:Rg,(∀b,G b->P b)/\(∀b,D b->P b)/\(∀b,G b->¬D b)/\ir x.h g.bP u G/\(∀u1,Ext G u u1->cU L.cN 3 (gM L.ts H.bQ) u1 D) ∧
 ∀(u1:Hp) (s:Sl) (bs:List Bt) (G':Rg),Ext G u u1->(∀b,G' b->G b\/N b)->ir s bs u1 G'->∀{b o:Nat} (ha:L.cN.a=some ⟨b,o,none⟩) {K:aP},
  (∀u2,Ext D u1 u2->HH u2 (λb=>P b/\¬G b\/G' b/\b<u1.size) {L with ts:=L.ts.set t {x with h:=s}} {H with bQ:=H.bQ.set t {g with bP:=bs}}->K u2) →
  dW (Addr.add ⟨b,o+3*t,none⟩ 1) (.slice s.a s.len s.cap) u1 K:=by
 have V:=h.lx;have Q:=Hg h.s.ts;have R:=(cW.1 hg).1;obtain⟨G,D,z,y,hd,U,E,_,w⟩:=h.qV hx hg N hN oN oN2;have r:∀u1,Ext G u u1->bR L.cN 3 (gM L.ts H.bQ) u1 D:=λu1 e=>aI.bS E e λb _ d hx=>hd b hx d;refine⟨G,D,z,y,hd,U,λu1 e=>bR.gZ (r u1 e),λu1 s bs G' e i C b o ha K M=>?_⟩;have F:o=0:=by
  rcases E.2 with⟨h0,_⟩|⟨J,_,_,ha',_⟩
  ·omega
  ·rw[ha]at ha';cases ha';rfl
 subst F;have m:∀b,G' b->¬D b:=λb d hx=>by
  rcases i b d with h1|h1
  ·exact hd b h1 hx
  ·exact hN b (hP b (y b hx)) (y b hx) h1
 refine(r u1 e).st (j:=3*t+1) O (λJ p=>by rw[ha]at p;cases p;rw[add_lit];congr 1;omega) λu2 e2 A=>?_;have B:=(ir.loc _ _).bS ((ir.loc _ _).cut C) e2 λb _ d hx=>m b d.1 hx;obtain⟨W,S⟩:=w u2 s bs (Cut G' u1) D ((e.sub λb d=>.inl d).trans (e2.sub λb d=>.inr d)) (λb d=>(i b d.1).imp .inl id) (λb d=>.inl (.inr d)) (λb d=>m b d.1) B A;refine M u2 e2 (S.mono (λb _ d=>?_) (λb (d:P b/\¬G b\/G' b/\b<u1.size)=>?_) λ(d:P _/\¬G _\/G' _/\_<u1.size)=>?_)
 ·rcases d with d|d|d
  ·exact .inl ⟨d.1,λhx=>d.2.2 (.inl hx)⟩
  ·exact .inr d
  ·exact .inl ⟨y b d,λhx=>hd b hx d⟩
 ·rcases d with d|d
  ·exact h.o b d.1
  ·exact(i b d.1).elim (λhx=>h.o b (z b hx)) (oN b)
 ·rcases d with d|d
  ·exact h.o2 d.1
  ·exact(i _ d.1).elim (λhx=>h.o2 (z _ hx)) oN2
theorem ir.mu {s:Sl}{G:Rg}{xs:List Int}{r:List Bt}(h:ir s ((k,xs)::r) u G):∃(so:Sl) (ps:List (Nat×Sl)) (D:Rg),dI s 2 (fE ((k,so)::ps)) u (λb=>G b/\¬D b)/\cU so 1 (Wo xs) u (λb=>D b/\kC so b)/\so.len<=so.cap/\ko ps r u (λb=>D b/\¬kC so b)/\(∀b,D b->G b)/\ue ps/\(∀x∈r,x.2≠[])/\xs≠[]:=by
 obtain⟨ps,D,g,j,E,F,d⟩:=h;cases ps with
 | nil=>have:=j.1;simp at this
 | cons p ps=>
  obtain⟨L,so⟩:=p;obtain⟨e1,w,z⟩:=j.2 0 (L,so) (k,xs) rfl rfl;simp only at e1 w z;subst e1;have e:=qR.1 F;refine⟨so,ps,D,g,w.lF,z,⟨by have:=j.1;simpa using this,λi p x y m=>?_⟩,E,e.2,λx m=>d x (nu _ m),d _ pd⟩;obtain⟨J,H,B⟩:=j.2 (i+1) p x (by simpa using y) (by simpa using m);refine⟨J,aH.mono H.lF λb _ A=>⟨A.1,?_⟩,B⟩;rintro⟨a,h1,h2⟩;obtain⟨C,K,M⟩:=A.2;exact e.1 p (zG y) a C h1 K (h2.trans M.symm)
theorem ir.lL {s:Sl}{G:Rg}{b:Bt}{r:List Bt}(h:ir s (b::r) u G):ir ⟨if s.cap=1 then s.a else s.a.map (·.add (1*2)),s.len-1,s.cap-1⟩ r u G:=by
 have i:=h.len;obtain⟨k,B⟩:=b;obtain⟨z,g,D,d,x,A,w,j,m,e,y⟩:=h.mu;exact⟨g,D,d.from (lo:=1) (by simp at i;omega),(ko.loc _ _).mono w λb _ p=>p.1,j,m,e⟩
theorem CE {s so:Sl}{ps:List (Nat×Sl)}{G:Rg}(h:cU s 2 (fE ((k,so)::ps)) u G){K:Addr->Prop}(hK:∀a,cell u (Addr.add a 0)=some (.int .i64 (k:Int))->cell u (Addr.add a 1)=some (.slice so.a so.len so.cap)->K a):Ix s.a s.len 0 2 K:=by
 obtain⟨b,o,g,m⟩:=h.cell (j:=0) (v:=.int .i64 (k:Int)) rfl;obtain⟨r,p,d,e⟩:=h.cell (j:=1) (v:=.slice so.a so.len so.cap) rfl;have i:=h.1;rw[Kq]at i;simp only[zY]at i;rw[g]at d;cases d;rw[g];refine ix O O ?_;rw[add_lit];exact hK _ (by rw[add_lit];exact m) (by rw[add_lit];exact e)
theorem ir.app {s s2:Sl}{G Q:Rg}{bs bs2:List Bt}{e:Nat}(h:ir s bs u G)(h2:ir s2 bs2 u Q)(hd:∀b,G b->¬Q b)(hl:bs.length+bs2.length<=1000){K:Sl->Hp->Prop}
 (hK:∀s' u',Ext G u u'->ir s' (bs++bs2) u' (λb=>G b\/Q b\/u.size<=b)->K s' u'):App s 2 32 e [.int .i64 0,.slice none 0 0] s2 u K:=by
 have l1:=h.len;have l2:=h2.len;obtain⟨P,D,w,J,Y,H,z⟩:=h;obtain⟨F,D2,A,m,r,N,y⟩:=h2;by_cases h0:s2.len=0
 ·have R:bs2=[]:=BL O;subst R;refine w.sH h0 (by
   have:s.len*32<=1000*32:=lW (by simp at hl;omega) O;omega) (by simp at hl;omega) λX=>hK _ u (Ext.refl _ _) ?_
  rw[kX];exact⟨P,D,(dI.loc _ _ _).mono X λb _ d=>⟨.inl d.1,d.2⟩,J,λb d=>.inl (Y b d),H,z⟩
 ·have e1:(s.len+s2.len)*32<=1000*32:=lW O O;refine((dI.loc _ _ _).cut w).app (ys:=fE F) rfl (by rw[Kq];have:=m.1;omega) A.gZ.rd UP O O O λs' u' _ L X=>hK s' u' (L.sub λb d=>d.1.1) ?_;have hz:=L.1;have Z:=J.1;refine⟨P++F,λb=>D b/\b<u.size\/D2 b/\b<u.size,?_,⟨by simp[J.1,m.1],λi p x C g=>?_⟩,λb d=>?_,pA.2 ⟨H,N,λp C q hq a a' M U e3=>?_⟩,λx g=>(zK.1 g).elim (z x) (y x)⟩
  ·rw[UA];refine(dI.loc _ _ _).mono X λb _ d=>?_;rcases d with d|d
   ·exact⟨.inl d.1.1,λg=>g.elim (λg=>d.1.2 g.1) λg=>hd b d.1.1 (r b g.1)⟩
   ·exact⟨.inr (.inr d),λg=>by rcases g with g|g<;>omega⟩
  ·rcases kr i P.length with B|B
   ·rw[ze B]at C;rw[ze O]at g;obtain⟨V,S,W⟩:=J.2 i p x C g;exact⟨V,aH.mono (aH.bS (aH.cut S) L λb _ d g=>g.1.2 d.1) λb _ d=>.inl d,W⟩
   ·rw[zp B]at C;rw[zp O,←Z]at g;obtain⟨V,S,W⟩:=m.2 _ p x C g;exact⟨V,aH.mono (aH.bS (aH.cut S) L λb _ d g=>hd b g.1.1 (r b d.1)) λb _ d=>.inr d,W⟩
  ·rcases d with d|d
   ·exact .inl (Y b d.1)
   ·exact .inr (.inl (r b d.1))
  ·obtain⟨i,B⟩:=zQ C;obtain⟨j,H⟩:=zQ hq;have hil:=(cW.1 B).1;have hjl:=(cW.1 H).1;have hy:bs[i]?=some (bs[i]' O):=cV _;have E:bs2[j]?=some (bs2[j]'(by have:=m.1;omega)):=cV _;have b1:=(J.2 i p _ B hy).2.1.bT (by simpa[Wo]using z _ (zG hy)) ⟨a,M,rfl⟩;have b2:=(m.2 j q _ H E).2.1.bT (by simpa[Wo]using y _ (zG E)) ⟨a',U,rfl⟩;rw[e3]at b1;exact hd _ (Y _ b1.1) (r _ b2.1)
theorem HK.we (K:HK F U B u P L H){B':Rg}(h1:∀b,B' b->U.size<=b/\b<u.size/\¬P b):HK F U (λb=>B b\/B' b) u P L H:=
 ⟨K.h,K.e,λb a=>⟨(K.p b a).1,λg=>g.elim (K.p b a).2.1 λd=>(h1 b d).2.2 a,(K.p b a).2.2⟩,λb a=>a.elim (K.b b) λd=>⟨(h1 b d).1,(h1 b d).2.1⟩,K.o⟩
theorem Zp (hg:H.bQ[t]?=some g)(f:Th->Th):H.dU t f = {H with bQ:=H.bQ.set t (f g)}:=by
 unfold Hw.dU;rw[KI hg]
theorem HV (hg:H.bQ[t]?=some g):H.jG t=g:=by unfold Hw.jG;rw[zP,hg];rfl
theorem VT (hc:H.tb[k]?=some c):H.cls k=c:=by unfold Hw.cls;rw[zP,hc];rfl
theorem yp (hl:g.ls[k]?=some l):g.li k=l:=by unfold Th.li;rw[zP,hl];rfl
theorem AY (ha:H.bX[H.own t]?=some A):H.dZ t=A:=by unfold Hw.dZ;rw[zP,ha];rfl
theorem jK (h:HS L H)(t:Nat):H.own t<H.bX.length:=tJ _ (by have:=h.a1;omega)
theorem HH.B3 (h:HH u P L H)(hx:L.ts[t]?=some x)(hg:H.bQ[t]?=some g):g.ls.length=H.tb.length:=by
 obtain⟨G,_,a,_⟩:=h.oV hx hg;exact a.len
theorem DV (ha:H.bX[k]?=some A):H.cC k A=H:=by unfold Hw.cC;rw[Z5 ha]
theorem R6 (l:List Nat):ints l=Wo (l.map λ(x:Nat)=>(x:Int)):=by simp[ints,Wo]
theorem AW (f:bZ->Li->List Int×Li)(tb:List bZ)(ls:List Li):(QW f tb ls).length<=tb.length:=by
 unfold QW;exact zh (List.length_filterMap_le _ _) aA
theorem HH.qn (h:HH u P L H):H.tb.length<=40:=by
 obtain⟨x,g,b,d⟩:=h.th (t:=0) h.s.t1;obtain⟨G,_,a,_⟩:=h.oV b d;exact a.mW
theorem LS {s:Sl}{b o:Nat}(ha:s.a=some ⟨b,o,none⟩)(hl:0<s.len){K:Addr->Prop}(hK:K ⟨b,o+0,none⟩):Ix s.a s.len 0 1 K:=by
 rw[ha];exact ix (vS _) O (by rw[add_lit];exact hK)
theorem LD {s:Sl}{ps:List (Nat×Sl)}{G:Rg}(h:cU s 2 (fE ps) U G)(hl:s.len<=1000000){R:Sl->Hp->Prop}(hR:∀s' σ',s'.len=s.len->bK U σ'->bR s' 2 (fE ps) σ' (λb=>U.size<=b)->R s' σ'):Wq.c s U R:=by
 refine Wq.o ?_;unfold Wq.v;exact FE h O rfl UP O hl hR
def tN (H:Hw)(t:Nat):Ph->Prop
 | .take k=>k<H.tb.length/\∀y l,QX (H.cls k) ((H.jG t).li k)=(some y,l)->iD y
 | .cH k _=>k<H.tb.length/\(ZV (H.dZ t) (k:Int)=0->Yn (H.dZ t) (k:Int)≠[])
 | .cJ _ _=>True
 | .grow _ _=>True
 | .fill=>∃k x xs r,(H.jG t).bP=(k,x::xs)::r/\k<H.tb.length/\iD x/\((H.jG t).li k).os.length+xs.length<=256
 | .eD m=>ZT (H.dZ t) H.sp (m:Int) 1<=1000000
 | .find x=>iD x/\(bV H.live x=none->∀A∈H.bX,iI A)/\∀b,bV H.live x=some b->0<=x
 | .put k _=>k<H.tb.length/\(H.jG t).bP≠[]
 | .back=>∃k xs r,(H.jG t).bP=(k,xs)::r/\(∀x∈xs,iD x/\0<=XO H.bX x)/\xs.length<=1000000
 | .dC _ a=>0<=a/\a.toNat<H.bX.length/\∀A∈H.bX,∀r∈A.runs,r.1<=1000000
 | .drain=>True
def Sj (U:Hp)(F:Rg)(L:dM)(o:sT)(R:Value->Int->Int->Hp->Prop):Prop:=∀σ' ts',Ext F U σ'->HH σ' (Grow F U) {L with ts:=ts'} o.1->R (mE o.2.1) o.2.2.1 o.2.2.2 σ'
set_option maxRecDepth 8000 in
theorem Nx (hso:H4)(h:HH U F L H)(ht:t<H.bQ.length)(p:Ph)(hp:tN H t p)(hlen:∀g,H.bQ[t]?=some g->g.bP.length<=900){R:Value->Int->Int->Hp->Prop}(hR:Sj U F L (Wt H t p) R) :
 Zi.c (aW L.p) (t:Int) (mE (some p)) U R:=by
 refine Zi.o ?_;unfold Zi.v;have hlen':∀g,H.bQ[t]?=some g->g.bP.length<=1000:=λg hg=>by have:=hlen g hg;omega
 refine nw (cs:=[.int .i64 0,.int .i64 0]) λv hz e i=>?_;have K1:=(HK.start h).box e hz;obtain⟨x,g,E,hg⟩:=h.th ht;have hlen:=hlen g hg;have htg:=HV hg;have hol:=jK h.s t;obtain⟨A,hA⟩:∃A,H.bX[H.own t]?=some A:=⟨_,cV hol⟩;have hAe:=AY hA;obtain⟨Y,hY,_,_⟩:=h.ar hA;refine aG (K1.h.hd.rS rfl ?_);refine BF K1.h.mQ K1.h.s.ts E hg (d:=0) O rfl λtb0 to0 ha _=>?_;have hS1:mS (λu=>u=v) L H.tb:=λm hm=>by cases hm;exact⟨_,L.ts,H,K1.h,rfl⟩
 refine⟨λu=>u=v,rfl,aG (hS1.fL (EN K1.h t ⟨rfl,K1.h.rA hY ⟨rfl,?_⟩⟩))⟩;refine uA (λw=>∃P ts',HK F U (λb=>False\/b=U.size) w P {L with ts:=ts'} (Wt H t p).1/\bY w U.size [.int .i64 0,.int .i64 0]/\(Wt H t p).2=(none,0,0)) (λw ⟨P,ts',K,hbw,X⟩=>?_) λJ hJ=>?_
 ·refine gE (n:=U.size) K (.inr rfl) hbw λw' K'=>?_;have:=hR w' ts' K'.e (K'.fin h);rw[X]at this;exact this
 cases p with
 | take k=>
  obtain⟨hk,hy9⟩:k<H.tb.length/\∀y l,QX (H.cls k) ((H.jG t).li k)=(some y,l)->iD y:=hp;obtain⟨c,hc⟩:∃c,H.tb[k]?=some c:=⟨_,cV hk⟩;have hll:=h.B3 E hg;obtain⟨l,hl⟩:∃l,g.ls[k]?=some l:=⟨_,cV (by rw[hll];exact hk)⟩;have hce:=VT hc;have hle:=yp hl;rw[hce,htg,hle]at hy9;refine AK (nw (cs:=[.int .i64 0]) λv5 M Z N=>?_);have K5:=K1.box Z M;refine N.s0 aA λv6 o6 hb6=>?_;have K6:=K5.own o6 (.inr rfl);have C:=Ws o6 (Z.bT i id) O;refine⟨λu=>u=v6,rfl,aG ⟨some ⟨x.c.p,0,none⟩,λu V=>by cases V;exact K6.h.tc E hg ha O rfl,⟨(k:Int),λu V=>by cases V;rw[add_lit,hb6.cell];rfl,?_⟩⟩⟩;refine Nl K6.h E hg hc hl λv7 ts7 W h7=>?_;have K7:=K6.to W h7 λb _ i=>i;have hb7:=K6.cS W hb6 (.inr rfl);have B:=K6.cS W C (.inl (.inr rfl));cases htk:QX c l with
  | mk o l'=>
  rw[htk]at h7 K7;cases o with
  | some y=>
   have X:Wt H t (.take k)=(Vk (H.dR t g (g.ls.set k l')) y (c.size:Int) (k:Int),none,y,0):=by
    simp only[Wt,hce,htg,hle,htk,Zp hg];rfl
   rw[X]at hR;have hS2:mS (λu=>(∃P ts H',HH u P {L with ts:=ts} H'/\H'.tb=H.tb)/\bY u v.size [.int .i64 (k:Int)]) L H.tb:=λm hm=>hm.1;refine cE rfl ⟨λu=>(∃P ts H',HH u P {L with ts:=ts} H'/\H'.tb=H.tb)/\bY u v.size [.int .i64 (k:Int)],⟨⟨_,_,_,K7.h,rfl⟩,hb7⟩,aG (hS2.dD ⟨(k:Int),λu V=>by rw[add_lit,V.2.cell];rfl,?_⟩)⟩;refine mS.rC (L:={L with ts:=ts7}) (H:=H.dR t g (g.ls.set k l')) hS2 K7.h hc ⟨(k:Int),λu V=>by rw[add_lit,V.2.cell];rfl,?_⟩;refine Bp K7.h y (c.size:Int) (k:Int) (hy9 y l' htk) λv8 e8 h8=>?_;have K8:=K7.to e8 h8 λb _ i=>.inl i;refine⟨⟨⟨_,_,_,h8,rfl⟩,K7.cS e8 hb7 (.inr rfl)⟩,?_⟩;exact gE (n:=U.size) K8 (.inl (.inr rfl)) (K7.cS e8 B (.inl (.inr rfl))) λw' K'=>hR w' ts7 K'.e (K'.fin h)
  | none=>
   have X:Wt H t (.take k)=(H.dR t g (g.ls.set k l'),some (.cH k (GD c l')),0,0):=by
    simp only[Wt,hce,htg,hle,htk,Zp hg];rfl
   rw[X]at hR;have htlt:=(cW.1 hg).1;have hklt:=(cW.1 hl).1;have hg7:(H.dR t g (g.ls.set k l')).bQ[t]?=some {g with ls:=g.ls.set k l'}:=by simp[Hw.dR,htlt]
   obtain⟨x7,g7,hx7,_⟩:=K7.h.th (t:=t) (by simp[Hw.dR,htlt]);have hl7:({g with ls:=g.ls.set k l'}:Th).ls[k]?=some l':=by simp[hklt]
   refine cB rfl ⟨λu=>u=v7,rfl,aG ⟨some ⟨x7.c.p,0,none⟩,λu V=>by cases V;exact K7.h.tc hx7 hg7 ha O rfl,⟨(k:Int),λu V=>by cases V;rw[add_lit,hb7.cell];rfl,?_⟩⟩⟩;refine MC K7.h hx7 hg7 hc hl7 λv8 ts8 e8 h8=>?_;have K8:=K7.to e8 h8 λb _ i=>i;refine(K7.cS e8 hb7 (.inr rfl)).rI rfl ?_;exact gE (n:=U.size) K8 (.inl (.inr rfl)) (K7.cS e8 B (.inl (.inr rfl))) λw' K'=>hR w' ts8 K'.e (K'.fin h)
 | cH k w=>
  obtain⟨hk,hne0⟩:k<H.tb.length/\(ZV (H.dZ t) (k:Int)=0->Yn (H.dZ t) (k:Int)≠[]):=hp;rw[hAe]at hne0;obtain⟨c,hc⟩:∃c,H.tb[k]?=some c:=⟨_,cV hk⟩;have hce:=VT hc;refine kI aB (wy (nw (cs:=[.int .i64 0,.int .i64 0]) λv5 M Z N=>?_));have K5:=K1.box Z M;refine N.s1 aA λv5b o5 b5=>b5.s1 aA λv6 o6 b6=>?_;have K6:=(K5.own o5 (.inr rfl)).own o6 (.inr rfl);have S:U.size≠v.size:=by omega
  have C:=Ws o6 (Ws o5 (Z.bT i id) S) S;refine uA (λu=>(∃P',HK F U (λb=>(False\/b=U.size)\/b=v.size) u P' L H)/\bY u U.size [.int .i64 0,.int .i64 0]/\bY u v.size [.int .i64 (k:Int),.int .i64 (w:Int)]/\Wt H t (.cH k w)=(H,some (.cJ k w),0,0)) (λu ⟨⟨P',K⟩,hbw,hbx,X⟩=>?_) λJ1 hJ1=>?_
  ·rw[X]at hR;exact hbx.rI rfl (hbx.rI rfl (gE (n:=U.size) K (.inl (.inr rfl)) hbw λw' K'=>hR w' L.ts K'.e (K'.fin h)))
  ·refine b6.rI rfl (aG (K6.h.hd.rS rfl (b6.rI rfl (sN K6.h.jz hc (d:=2) O ?_))));simp only[zB (show ¬(2=0) by omega),zB (show ¬(2=1) by omega)];refine cO (λheq=>b6.rI rfl ?_) λhne'=>hJ1 v6 ⟨⟨_,K6⟩,C,b6,?_⟩
   ·have heq':w=c.batch:=by simp only[zT]at heq;omega
    refine H6 K6.h hA hY (k:Int) λs v7 Q W hQ hs7 hcap h7=>?_;have K7:=K6.to W h7 λb _ i=>i.1;have b7:=K6.cS W b6 (.inr rfl);have B:=K6.cS W C (.inl (.inr rfl));refine cO (λh0=>b7.rI rfl ?_) λhn0=>?_
    ·have h0':ZV A (k:Int)=0:=by simpa using h0
     have X:Wt H t (.cH k w)=(QF (H.cC (H.own t) (Zu A (k:Int))) t k (Yn A (k:Int)),some .fill,0,0):=by
      simp only[Wt,hce,hAe,heq',h0',zR]
     rw[X]at hR;refine Gy K7.h (t:=t) ht k hs7 hcap (hne0 h0') (λb _ z E=>E.1.2 z) (K6.h.o.sub hQ) (λz=>K6.h.o2 (hQ _ z)) hlen' λv8 ts8 e8 h8=>?_;have K8:=K7.sk e8 h8 λb i z=>by
      rcases z with z|z
      ·exact z.imp id .inl
      ·exact .inr (.inr ⟨(K6.p b (hQ b z)).1,(K6.p b (hQ b z)).2.1⟩)
     exact gE (n:=U.size) K8 (.inl (.inr rfl)) (K7.cS e8 B (.inl (.inr rfl))) λw' K'=>hR w' ts8 K'.e (K'.fin h)
    ·have hn0':ZV A (k:Int)≠0:=by simpa using hn0
     have hsame:Zu A (k:Int)=A:=by unfold Zu;rw[zB hn0']
     rw[hsame,DV hA]at K7;refine hJ1 v7 ⟨⟨_,K7⟩,B,b7,?_⟩;simp only[Wt,hce,hAe,heq',zB hn0',zR]
   ·have hne2:w≠c.batch:=λe=>by rw[e]at hne';simp at hne'
    simp only[Wt,hce,zB hne2]
 | cJ k w=>
  refine kI aB (ja aB (wy (nw (cs:=[.int .i64 0,.int .i64 0]) λv5 M Z N=>?_)));have K5:=K1.box Z M;refine N.s1 aA λv5b o5 b5=>b5.s1 aA λv6 o6 b6=>?_;have K6:=(K5.own o5 (.inr rfl)).own o6 (.inr rfl);have S:U.size≠v.size:=by omega
  have C:=Ws o6 (Ws o5 (Z.bT i id) S) S;refine b6.rI rfl (b6.rI rfl (J0 K6.h hA hY (k:Int) (w:Int) λs v7 Q W hQ hs7 h7=>?_));have K7:=K6.to W h7 λb _ i=>i.1;have b7:=K6.cS W b6 (.inr rfl);have B:=K6.cS W C (.inl (.inr rfl));have hsl:s.len=(X9 A (k:Int) (w:Int)).length:=by have:=hs7.1;simp[ints]at this;omega
  by_cases hemp:X9 A (k:Int) (w:Int)=[]
  ·have X:Wt H t (.cJ k w)=(H.cC (H.own t) (Ys A (k:Int) (w:Int)),some (.grow k w),0,0):=by
    simp only[Wt,hAe,zC hemp]
   rw[X]at hR;refine fR (by rw[hsl,hemp];simp) (b7.rI rfl (b7.rI rfl ?_));exact gE (n:=U.size) K7 (.inl (.inr rfl)) B λw' K'=>hR w' L.ts K'.e (K'.fin h)
  ·have X:Wt H t (.cJ k w)=(QF (H.cC (H.own t) (Ys A (k:Int) (w:Int))) t k ((X9 A (k:Int) (w:Int)).map λ(x:Nat)=>(x:Int)),some .fill,0,0):=by
    simp only[Wt,hAe,zB hemp]
   rw[X]at hR;have hpos:=pI.2 hemp;refine lA (by rw[hsl];omega) (b7.rI rfl ?_);have hs7':=bR.gZ hs7;rw[R6]at hs7';have hz6:=K6.e.1;refine Gy K7.h (t:=t) ht k hs7' (bR.qy hs7) (by simpa using hemp) (λb _ z E=>E.1.2 z) (K6.o.1.sub λb i=>by have:=hQ b i;omega) (λz=>K6.o.2 (by have:=hQ _ z;omega)) hlen' λv8 ts8 e8 h8=>?_;have K8:=K7.sk e8 h8 λb i z=>by
    rcases z with z|z
    ·exact z.imp id .inl
    ·have:=hQ b z;exact .inr (.inr ⟨.inr O,λhB=>by have:=(K6.b b hB).2;omega⟩)
   exact gE (n:=U.size) K8 (.inl (.inr rfl)) (K7.cS e8 B (.inl (.inr rfl))) λw' K'=>hR w' ts8 K'.e (K'.fin h)
 | grow k w=>
  refine kI aB (ja aB (ja aB (wy (nw (cs:=[.int .i64 0,.int .i64 0]) λv5 M Z N=>?_))));have K5:=K1.box Z M;refine N.s1 aA λv5b o5 b5=>b5.s1 aA λv6 o6 b6=>?_;have K6:=(K5.own o5 (.inr rfl)).own o6 (.inr rfl);have S:U.size≠v.size:=by omega
  have C:=Ws o6 (Ws o5 (Z.bT i id) S) S;refine b6.rI rfl (Rw K6.h hA hY (k:Int) λv7 W h7=>?_);have K7:=K6.to W h7 λb _ i=>i;have b7:=K6.cS W b6 (.inr rfl);have B:=K6.cS W C (.inl (.inr rfl));refine cO (λhn0=>?_) λh0=>?_
  ·have hn0':KA A H.sp (k:Int)≠0:=by simpa using hn0
   have X:Wt H t (.grow k w)=({H.cC (H.own t) (cL A H.sp (k:Int)).1 with sp:=(cL A H.sp (k:Int)).2},none,0,KA A H.sp (k:Int)):=by
    simp only[Wt,hAe,zB hn0']
   rw[X]at hR;exact gE (n:=U.size) K7 (.inl (.inr rfl)) B λw' K'=>hR w' L.ts K'.e (K'.fin h)
  ·have h0':KA A H.sp (k:Int)=0:=by simpa using h0
   have X:Wt H t (.grow k w)=({H.cC (H.own t) (cL A H.sp (k:Int)).1 with sp:=(cL A H.sp (k:Int)).2},some (.cJ k w),0,0):=by
    simp only[Wt,hAe,zC h0']
   rw[X]at hR;refine b7.rI rfl (b7.rI rfl ?_);exact gE (n:=U.size) K7 (.inl (.inr rfl)) B λw' K'=>hR w' L.ts K'.e (K'.fin h)
 | fill=>
  obtain⟨k,y,ys,r,hh,hk,hy9,hfit⟩:∃k x xs r,(H.jG t).bP=(k,x::xs)::r/\k<H.tb.length/\iD x/\((H.jG t).li k).os.length+xs.length<=256:=hp;rw[htg]at hh hfit;obtain⟨c,hc⟩:∃c,H.tb[k]?=some c:=⟨_,cV hk⟩;have hll:=h.B3 E hg;obtain⟨l,hl⟩:∃l,g.ls[k]?=some l:=⟨_,cV (by rw[hll];exact hk)⟩;have hce:=VT hc;have hle:=yp hl;rw[hle]at hfit;refine kI aB (ja aB (ja aB (ja aB (yW (nw (cs:=[]) λv5 M Z N=>?_)))));have K5:=K1.box Z M;have hbv5:=Z.bT i id;obtain⟨G,D,hG,hD,hd,aa,hr,hput⟩:=K5.h.ve (λb i=>(K5.p b i).2.2) E hg (λ_=>False) (λb _ _ z=>z) (K5.o.1.sub λb i=>i.elim) (λz=>z);rw[hh]at aa;obtain⟨so,ps,Dn,hrow,hso1,hcap,hBr,hDn,hj,S,hxne⟩:=aa.mu;have hz5':=K5.e.1;have hsol:so.len=ys.length+1:=by have:=hso1.1;simp[Wo]at this;omega
  refine aG (nO (K5.h.tc E hg ha (d:=1) O rfl) (CE (dI.gZ hrow) λa ha0 ha1=>nI ha0 (nO ha1 ?_)));refine nw (cs:=[.int .i64 0,.slice none 0 0]) λv43 hz43 e43 hb43=>hb43.s1 aA λv44 o44 b44=>b44.s1 aA λv45 o45 b45=>?_;have e45:bK v5 v45:=(e43.only o44 (.inr (zD _))).only o45 (.inr (zD _));have hz45:v5.size<v45.size:=b45.lt;refine aG (hput v45 ⟨none,0,0⟩ [] (λ_=>False) (bK.to e45) (λb i=>i.elim) (ir.nil _ _ _) ha λv46 e46 h46=>?_);have hz46:=e46.1;have e546:Ext _ v5 v46:=(bK.to e45).trans (e46.sub hD);have K46:=K5.to e546 h46 λb _ z=>by
   rcases z with z|z
   ·exact .inl z.1
   ·exact z.1.elim
  have hbv46:=K5.cS e546 hbv5 (.inl (.inr rfl));have b46:bY v46 v5.size _:=e46.bT b45 λE=>by have:=(K5.p _ (hD _ E)).2.2;omega
  have K46b:=K46.we (B':=λb=>b=v5.size) λb i=>⟨O,O,λE=>by
   subst i;rcases E.1 with h1|h1
   ·have:=(K5.p _ h1.1).2.2;omega
   ·exact h1.1⟩
  have hso46:=aH.bS (aH.bO (aH.cut hso1) e45) e46 λb _ i E=>hd b (hDn b i.1.1) E;have hXn:∀b,(Dn b/\kC so b)/\b<v5.size->¬Cut (λb=>(Cut F U b/\¬G b)\/False/\b<v45.size) v46 b:=λb i E=>by
   rcases E.1 with h1|h1
   ·exact h1.2 (hDn b i.1.1)
   ·exact h1.1
  have hg46:({H with bQ:=H.bQ.set t {g with bP:=[]}}:Hw).bQ[t]?=some {g with bP:=[]}:=by simp[ht]
  have hx46:(L.ts.set t {x with h:=⟨none,0,0⟩})[t]?=some {x with h:=⟨none,0,0⟩}:=zL (cW.1 E).1;refine aG (ud (K46b.h.tc hx46 hg46 ha (d:=0) O rfl) (b46.rI rfl (b46.rS (a:=so.a) (n:=so.len) (c:=so.cap) rfl (iR (lo:=1) (by show 1<=so.len;omega) hcap (zD _) ?_))));have hsub:=cU.sub hso46 (lo:=1) (hi:=so.len) (mx:=so.cap) O (zD _) hcap;have hsx:((Wo (y::ys)).drop (1*1)).take ((so.len-1)*1)=Wo ys:=by
   rw[mT (by simp[Wo];omega)];rfl
  rw[hsx]at hsub;have hl46:({g with bP:=[]}:Th).ls[k]?=some l:=hl;refine NA K46b.h hx46 hg46 hc hl46 hsub hXn hfit λv47 ts47 e47 h47=>?_;have K47:=K46b.to e47 h47 λb _ i=>i;have hso47:=aH.bS hso46 e47 λb _ i E=>hXn b i E;have b47:=K46b.cS e47 b46 (.inr rfl);have hbv47:=K46b.cS e47 hbv46 (.inl (.inl (.inr rfl)));have X:Wt H t .fill=(Vk {H with bQ:=H.bQ.set t {g with ls:=g.ls.set k (eC ys.reverse l),bP:=[]}} y (c.size:Int) (k:Int),none,y,0):=by
   simp only[Wt,htg,hh,Zp hg,hle,hce]
  rw[X]at hR;obtain⟨b0,o0,ha0',hc0⟩:=hso47.cell (j:=0) (v:=.int .i64 y) rfl;have hS4:mS (λu=>((∃P ts H',HH u P {L with ts:=ts} H'/\H'.tb=H.tb)/\bY u v5.size [.int .i64 (k:Int),.slice so.a so.len so.cap])/\cell u ⟨b0,o0+0,none⟩=some (.int .i64 y)) L H.tb:=λm hm=>hm.1.1;refine⟨λu=>((∃P ts H',HH u P {L with ts:=ts} H'/\H'.tb=H.tb)/\bY u v5.size [.int .i64 (k:Int),.slice so.a so.len so.cap])/\cell u ⟨b0,o0+0,none⟩=some (.int .i64 y),⟨⟨⟨_,_,_,K47.h,rfl⟩,b47⟩,hc0⟩,⟨so,λu V=>by rw[add_lit,V.1.2.cell];rfl,?_⟩⟩;refine LS ha0' O ⟨y,λu V=>V.2,aG (hS4.dD ⟨(k:Int),λu V=>by rw[add_lit,V.1.2.cell];rfl,?_⟩)⟩;refine mS.rC (L:={L with ts:=ts47}) (H:=Hw.dR {H with bQ:=H.bQ.set t {g with bP:=[]}} t {g with bP:=[]} (g.ls.set k (eC ys.reverse l))) hS4 K47.h hc ⟨(k:Int),λu V=>by rw[add_lit,V.1.2.cell];rfl,?_⟩;refine Bp K47.h y (c.size:Int) (k:Int) hy9 λv48 e48 h48=>?_;have K48:=K47.to e48 h48 λb _ i=>.inl i;have hz4747:=e47.1;have hso48:=aH.bS hso47 e48 λb _ i E=>by
   rcases E.1 with h1|h1
   ·exact hXn b i h1
   ·have:=i.2;omega
  refine⟨⟨⟨⟨_,_,_,h48,rfl⟩,K47.cS e48 b47 (.inr rfl)⟩,?_⟩,?_⟩
  ·obtain⟨b1,o1,ha1',hc1⟩:=hso48.cell (j:=0) (v:=.int .i64 y) rfl;rw[ha0']at ha1';cases ha1';exact hc1
  ·have K49:=K48;simp only[Hw.dR,nr]at K49;exact gE (n:=U.size) K49 (.inl (.inl (.inr rfl))) (K47.cS e48 hbv47 (.inl (.inl (.inr rfl)))) λw' K'=>hR w' ts47 K'.e (K'.fin h)
 | eD m=>
  have hp:ZT (H.dZ t) H.sp (m:Int) 1<=1000000:=hp;rw[hAe]at hp;refine kI aB (ja aB (ja aB (ja aB (q8 aB (AK (nw (cs:=[.int .i64 0]) λv5 M Z N=>?_))))));have K5:=K1.box Z M;refine N.s0 aA λv6 o6 b6=>?_;have K6:=K5.own o6 (.inr rfl);have C:=Ws o6 (Z.bT i id) O;refine b6.rI rfl (RX K6.h hA hY (m:Int) 1 λv7 W h7=>?_);have K7:=K6.to W h7 λb _ i=>i;have b7:=K6.cS W b6 (.inr rfl);have B:=K6.cS W C (.inl (.inr rfl));refine cO (λhn0=>?_) λh0=>?_
  ·have hn0':Qh A H.sp (m:Int) 1≠0:=by simpa using hn0
   have X:Wt H t (.eD m)=({H.cC (H.own t) (cA A H.sp (m:Int) 1).1 with sp:=(cA A H.sp (m:Int) 1).2},none,0,Qh A H.sp (m:Int) 1):=by
    simp only[Wt,hAe,zB hn0']
   rw[X]at hR;exact gE (n:=U.size) K7 (.inl (.inr rfl)) B λw' K'=>hR w' L.ts K'.e (K'.fin h)
  ·have h0':Qh A H.sp (m:Int) 1=0:=by simpa using h0
   have hm:m<=64:=by
    unfold Qh at h0';split at h0'
    ·rename_i hpo;simp only[Q4,zF,zU]at hpo;omega
    ·omega
   have X:Wt H t (.eD m)=(Vk {H.cC (H.own t) (cA A H.sp (m:Int) 1).1 with sp:=(cA A H.sp (m:Int) 1).2} ((ZT A H.sp (m:Int) 1*256:Nat):Int) ((m*256:Nat):Int) (-1),none,((ZT A H.sp (m:Int) 1*256:Nat):Int),0):=by
    simp only[Wt,hAe,zC h0']
   rw[X]at hR;refine cP (m:=ZT A H.sp (m:Int) 1*256) O O (b7.rI rfl (cP (m:=m*256) O O ?_));refine Bp K7.h _ _ _ O λv8 e8 h8=>?_;have K8:=K7.to e8 h8 λb _ i=>.inl i;exact gE (n:=U.size) K8 (.inl (.inr rfl)) (K7.cS e8 B (.inl (.inr rfl))) λw' K'=>hR w' L.ts K'.e (K'.fin h)
 | find x=>
  obtain⟨hx9,hro,hlv⟩:iD x/\(bV H.live x=none->∀A∈H.bX,iI A)/\∀b,bV H.live x=some b->0<=x:=hp;refine kI aB (ja aB (ja aB (ja aB (q8 aB (kI aB (AK (nw (cs:=[.int .i64 0]) λv5 M Z N=>?_)))))));have K5:=K1.box Z M;refine N.s0 aA λv6 o6 b6=>?_;have K6:=K5.own o6 (.inr rfl);have C:=Ws o6 (Z.bT i id) O;refine b6.rI rfl (OD K6.h ht x hx9 hro hlen' hlv λv7 ts7 W h7=>?_);have K7:=K6.to W h7 λb _ i=>i;have B:=K6.cS W C (.inl (.inr rfl));exact gE (n:=U.size) K7 (.inl (.inr rfl)) B λw' K'=>hR w' ts7 K'.e (K'.fin h)
 | put k y=>
  obtain⟨hk,hne0⟩:k<H.tb.length/\(H.jG t).bP≠[]:=hp;rw[htg]at hne0;obtain⟨c,hc⟩:∃c,H.tb[k]?=some c:=⟨_,cV hk⟩;have hll:=h.B3 E hg;obtain⟨l,hl⟩:∃l,g.ls[k]?=some l:=⟨_,cV (by rw[hll];exact hk)⟩;have hce:=VT hc;have hle:=yp hl;refine kI aB (ja aB (ja aB (ja aB (q8 aB (kI aB (kI aB (wy (nw (cs:=[.int .i64 0,.int .i64 0]) λv5 M Z N=>?_))))))));have K5:=K1.box Z M;refine N.s1 aA λv5b o5 b5=>b5.s1 aA λv6 o6 b6=>?_;have K6:=(K5.own o5 (.inr rfl)).own o6 (.inr rfl);have S:U.size≠v.size:=by omega
  have C:=Ws o6 (Ws o5 (Z.bT i id) S) S;generalize hgg:(if(dJ c y l).1=[]then({g with ls:=g.ls.set k (dJ c y l).2}:Th)else{g with ls:=g.ls.set k (dJ c y l).2,bP:=g.bP++[(k,(dJ c y l).1)]})=g2
  have hg2n:g2.bP≠[]/\g2.bP.length<=901:=by
   rw[←hgg];split
   ·exact⟨hne0,by simp;omega⟩
   ·exact⟨by simp,by simp;omega⟩
  refine uA (λw=>∃P ts',HK F U (λb=>(False\/b=U.size)\/b=v.size) w P {L with ts:=ts'} {H with bQ:=H.bQ.set t g2}/\bY w U.size [.int .i64 0,.int .i64 0]) (λw ⟨P,ts2,K,hbw⟩=>?_) λJ2 hJ2=>?_
  ·have hg3:({H with bQ:=H.bQ.set t g2}:Hw).bQ[t]?=some g2:=by simp[ht]
   obtain⟨x2,_,hx2,_⟩:=K.h.th (t:=t) (by simpa using ht);obtain⟨G,D,hG,hD,hd,aa,hr,hput⟩:=K.h.ve (λb i=>(K.p b i).2.2) hx2 hg3 (λ_=>False) (λb _ _ z=>z) (K.o.1.sub λb i=>i.elim) (λz=>z);have hbl:=aa.len;have hbc:=aa.cap;obtain⟨b0,r0,hbr⟩:∃b r,g2.bP=b::r:=by
    cases hh:g2.bP with
    | nil=>exact absurd hh hg2n.1
    | cons b r=>exact⟨b,r,rfl⟩
   have sL:g2.bP.drop 1=r0:=by rw[hbr];rfl
   rw[hbr]at aa;have hpos:1<=x2.h.len:=by rw[hbl,hbr];simp
   refine aG (nO (K.h.tc hx2 hg3 ha (d:=1) O rfl) ?_);refine iR (lo:=1) hpos hbc (zD _) ?_;refine aG (hput w _ _ G (Ext.refl _ _) (λb i=>.inl i) aa.lL ha λw1 e1 h1=>?_);have e1':=e1.sub hD;have K1b:=K.to e1' h1 λb _ z=>by
    rcases z with z|z
    ·exact .inl z.1
    ·exact .inl (hG b z.1)
   have hbw1:=K.cS e1' hbw (.inl (.inr rfl));have K3:=K1b;simp only[nr]at K3;generalize hg3':({g2 with bP:=r0}:Th)=g3 at K3;have hl3:g3.bP=r0/\g3.ls=g2.ls:=by rw[←hg3'];exact⟨rfl,rfl⟩
   have hr0:r0.length<=900:=by have:=hg2n.2;rw[hbr]at this;simp at this;omega
   have hg3e:({H with bQ:=H.bQ.set t g3}:Hw).bQ[t]?=some g3:=by simp[ht]
   have hpe:ik H t k y=(if H.cf.dA<QN H.tb g3.ls then{H with bQ:=H.bQ.set t {g3 with ls:=QR KC H.tb g3.ls,bP:=g3.bP++QW KC H.tb g3.ls}}else{H with bQ:=H.bQ.set t g3}):=by
    have e2:(if(dJ c y l).1=[]then H.dU t λh=>h.gH k (dJ c y l).2 else QF (H.dU t λh=>h.gH k (dJ c y l).2) t k (dJ c y l).1) = {H with bQ:=H.bQ.set t g2}:=by
     rw[←hgg];split
     ·rw[Zp hg];rfl
     ·rw[Zp hg];unfold QF Hw.dU;simp only;rw[KI (t:=g.gH k (dJ c y l).2) (by simp[ht]),nr];rfl
    have e3:({H with bQ:=H.bQ.set t g2}:Hw).dU t (λh=>{h with bP:=h.bP.drop 1}) = {H with bQ:=H.bQ.set t g3}:=by
     rw[Zp hg3];simp only[nr,sL,hg3']
    unfold ik;simp only[hce,htg,hle,e2,e3,HV hg3e,Zp hg3e,nr]
   have hx3:(ts2.set t {x2 with h:=⟨if x2.h.cap=1 then x2.h.a else x2.h.a.map (·.add (1*2)),x2.h.len-1,x2.h.cap-1⟩})[t]?=some {x2 with h:=⟨if x2.h.cap=1 then x2.h.a else x2.h.a.map (·.add (1*2)),x2.h.len-1,x2.h.cap-1⟩}:=zL (cW.1 hx2).1
   generalize hx3':({x2 with h:=⟨if x2.h.cap=1 then x2.h.a else x2.h.a.map (·.add (1*2)),x2.h.len-1,x2.h.cap-1⟩}:eH)=x3 at hx3 K3
   generalize ts2.set t x3=ts3 at hx3 K3;refine uA (λw=>∃P ts',HK F U (λb=>(False\/b=U.size)\/b=v.size) w P {L with ts:=ts'} (ik H t k y)/\bY w U.size [.int .i64 0,.int .i64 0]) (λw ⟨P,ts',K,hbw⟩=>?_) λJ3 hJ3=>?_
   ·have X:Wt H t (.put k y)=(ik H t k y,jJ (ik H t k y) t,0,0):=rfl;rw[X]at hR;refine VL K.h (t:=t) ?_ ?_
    ·rw[hpe];split<;>simpa using ht
    ·exact gE (n:=U.size) K (.inl (.inr rfl)) hbw λw' K'=>hR w' ts' K'.e (K'.fin h)
   ·refine aG (ud (K3.h.tc hx3 hg3e ha (d:=0) O rfl) ?_);refine Lz K3.h hx3 hg3e λv10 e10=>?_;have K10:=K3.fr e10;have hbw10:=e10.bT hbw1 id;refine cQ (λhov=>?_) λhno=>hJ3 v10 ⟨_,ts3,by rw[hpe,zB hno];exact K10,hbw10⟩;refine⟨λu=>cell u (Addr.add ⟨tb0,to0+3*t,none⟩ 1)=some (.slice x3.h.a x3.h.len x3.h.cap)/\cell u (Addr.add ⟨tb0,to0+3*t,none⟩ 0)=some (.pointer (some ⟨x3.c.p,0,none⟩)),⟨K10.h.tc hx3 hg3e ha (d:=1) O rfl,K10.h.tc hx3 hg3e ha (d:=0) O rfl⟩,aG ⟨x3.h,λu V=>V.1,aG ⟨some ⟨x3.c.p,0,none⟩,λu V=>V.2,?_⟩⟩⟩;refine Ma hso K10.h hx3 hg3e λv11 s Q e11 hQ hB h11=>?_;have K11:=K10.to e11 h11 λb _ i=>i.1;have hbw11:=K10.cS e11 hbw10 (.inl (.inr rfl));have hg11:(Hw.dR {H with bQ:=H.bQ.set t g3} t g3 (QR KC H.tb g3.ls)).bQ[t]?=some {g3 with ls:=QR KC H.tb g3.ls}:=by simp[Hw.dR,ht]
    refine⟨⟨K11.h.tc hx3 hg11 ha (d:=1) O rfl,K11.h.tc hx3 hg11 ha (d:=0) O rfl⟩,?_⟩;have hz0:=K10.e.1;obtain⟨G,D,hG,hD,hd,aa,hr,hput⟩:=K11.h.ve (λb i=>i.2) hx3 hg11 (λb=>Q b\/v11.size<=b) (λb i hP z=>z.elim (λz=>hP.1.2 z) λz=>O) (K10.o.1.sub λb i=>i.elim (λi=>by have:=hQ b i;omega) λi=>by have:=K11.e.1;omega) (λz=>K10.o.2 (z.elim (λi=>by have:=hQ _ i;omega) λi=>by have:=K11.e.1;omega));refine ir.app aa hB (λb hg z=>(hG b hg).1.2 z) ?_ λs' v12 e12 hB12=>?_
    ·have:=AW KC H.tb g3.ls;have:H.tb.length<=40:=K3.h.qn;simp only[hl3.1];omega
    have hcell:∀{d:Nat} {w:Value},d<3->(jj (x3,({g3 with ls:=QR KC H.tb g3.ls}:Th)))[d]?=some w->cell v12 (Addr.add ⟨tb0,to0+3*t,none⟩ d)=some w:=λhd3 hv=>by
     obtain⟨b',o',ha',hc'⟩:=vo (hr v12 e12) hx3 hg11 hd3 hv;rw[ha]at ha';cases ha';rw[add_lit,wI];exact hc'
    refine⟨⟨hcell (d:=1) O rfl,hcell (d:=0) O rfl⟩,aG (hput v12 s' _ _ e12 (λb i=>i.imp id id) hB12 ha λv13 e13 h13=>?_)⟩;have e13':=(e12.sub hG).trans (e13.sub hD);have K13:=K11.sk e13' h13 λb i z=>by
     rcases z with z|z
     ·exact .inl z.1
     ·rcases z.1 with h1|h1|h1
      ·exact .inl (hG b h1)
      ·have:=hQ b h1;exact .inr (.inr ⟨.inr O,λhB=>by have:=(K10.b b hB).2;omega⟩)
      ·exact .inr (.inl h1)
    have hbw13:=K11.cS e13' hbw11 (.inl (.inr rfl));have K14:=K13;simp only[Hw.dR,nr]at K14;have hpe':=hpe;rw[zC hov]at hpe';rw[hpe']at hJ3;exact hJ3 v13 ⟨_,_,K14,hbw13⟩
  ·refine⟨λu=>u=v6,rfl,aG ⟨some ⟨x.c.p,0,none⟩,λu V=>by cases V;exact K6.h.tc E hg ha (d:=0) O rfl,⟨(k:Int),λu V=>by cases V;rw[add_lit,b6.cell];rfl,⟨y,λu V=>by cases V;rw[add_lit,b6.cell];rfl,?_⟩⟩⟩⟩;refine Oh K6.h E hg hc hl y λv7 ts7 s ee Q W hQ hs7 h7=>?_;have K7:=K6.to W h7 λb _ i=>i.1;have b7:=K6.cS W b6 (.inr rfl);have B:=K6.cS W C (.inl (.inr rfl));have hsl:s.len=(dJ c y l).1.length:=by have:=hs7.1;simp[Wo]at this;omega
   by_cases hemp:(dJ c y l).1=[]
   ·rw[zC hemp]at hgg;rw[←hgg]at hJ2;exact fR (by rw[hsl,hemp];simp) (hJ2 v7 ⟨_,ts7,K7,B⟩)
   ·rw[zB hemp]at hgg;have hpos:=pI.2 hemp;have hz6:=K6.e.1;refine lA (by rw[hsl];omega) (b7.rI rfl ?_);refine Gy K7.h (t:=t) (by simpa[Hw.dR]using ht) k (bR.gZ hs7) (bR.qy hs7) hemp (λb _ z E=>E.1.2 z) (K6.o.1.sub λb i=>by have:=hQ b i;omega) (λz=>K6.o.2 (by have:=hQ _ z;omega)) (λg' hg'=>?_) λv8 ts8 e8 h8=>?_
    ·have:(H.dR t g (g.ls.set k (dJ c y l).2)).bQ[t]?=some {g with ls:=g.ls.set k (dJ c y l).2}:=by simp[Hw.dR,ht]
     rw[this]at hg';cases hg';simp only;omega
    ·have K8:=K7.sk e8 h8 λb i z=>by
      rcases z with z|z
      ·exact z.imp id .inl
      ·have:=hQ b z;exact .inr (.inr ⟨.inr O,λhB=>by have:=(K6.b b hB).2;omega⟩)
     have e9:QF (H.dR t g (g.ls.set k (dJ c y l).2)) t k (dJ c y l).1 = {H with bQ:=H.bQ.set t g2}:=by
      rw[←hgg];unfold QF Hw.dU Hw.dR;simp only;rw[KI (t:={g with ls:=g.ls.set k (dJ c y l).2}) (by simp[ht]),nr]
     rw[e9]at K8;exact hJ2 v8 ⟨_,ts8,K8,K7.cS e8 B (.inl (.inr rfl))⟩
 | back=>
  obtain⟨k,xs,r,hh,hxs,hxl⟩:∃k xs r,(H.jG t).bP=(k,xs)::r/\(∀x∈xs,iD x/\0<=XO H.bX x)/\xs.length<=1000000:=hp;rw[htg]at hh;refine kI aB (ja aB (ja aB (ja aB (q8 aB (kI aB (kI aB (ja aB (yW (nw (cs:=[]) λv5 M Z N=>?_)))))))));have K5:=K1.box Z M;have hbv5:=Z.bT i id;obtain⟨G,D,hG,hD,hd,aa,hr,hput⟩:=K5.h.ve (λb i=>(K5.p b i).2.2) E hg (λb=>v5.size<=b) (λb i _ z=>O) K5.h.mb.1 K5.h.mb.2;have hbl:=aa.len;have hbc:=aa.cap;rw[hh]at aa;obtain⟨so,ps,Dn,hrow,hso1,hcap,hBr,hDn,hj,S,hxne⟩:=aa.mu;have hz5':=K5.e.1;refine aG (nO (K5.h.tc E hg ha (d:=1) O rfl) (CE (dI.gZ hrow) λa ha0 ha1=>nI ha0 (nO ha1 ?_)));refine nw (cs:=[.int .i64 0,.slice none 0 0]) λv81 hz81 e81 hb81=>hb81.s1 aA λv82 o82 b82=>b82.s1 aA λv83 o83 b83=>?_;have e83:bK v5 v83:=(e81.only o82 (.inr (zD _))).only o83 (.inr (zD _));have hz83:v5.size<v83.size:=b83.lt;have hcell:∀{u1:Hp},Ext G v5 u1->∀{d:Nat} {w:Value},d<3->(jj (x,g))[d]?=some w->cell u1 (Addr.add ⟨tb0,to0+3*t,none⟩ d)=some w:=λhe _ _ hd3 hv=>by
   obtain⟨b',o',ha',hc'⟩:=vo (hr _ he) E hg hd3 hv;rw[ha]at ha';cases ha';rw[add_lit,wI];exact hc'
  refine aG (nO (hcell (bK.to e83) (d:=1) (w:=.slice x.h.a x.h.len x.h.cap) O rfl) ?_);have hpos:1<=x.h.len:=by rw[hbl,hh];simp
  refine iR (lo:=1) hpos hbc (zD _) ?_;have hrow':=aH.bO (aH.cut (dI.gZ (hrow.from (lo:=1) hpos))) e83;have sL:(fE ((k,so)::ps)).drop (1*2)=fE ps:=rfl;rw[sL]at hrow';refine LD hrow' aC λs' v84 hs'l e84 hs'=>?_;have hBt':ir s' r v84 (λb=>Dn b/\¬kC so b/\b<v5.size\/v83.size<=b):=by
   refine⟨ps,λb=>Dn b/\¬kC so b/\b<v5.size,(dI.loc _ _ _).mono hs'.o λb _ i=>⟨.inr i,λE=>O⟩,(ko.loc _ _).bO ((ko.loc _ _).bO ((ko.loc _ _).mono ((ko.loc _ _).cut hBr) λb _ i=>⟨i.1.1,i.1.2,i.2⟩) e83) e84,λb i=>.inl i,hj,S⟩
  have e584:bK v5 v84:=e83.trans e84;refine aG (hput v84 s' r _ (bK.to e584) (λb i=>i.elim (λi=>.inl (hDn b i.1)) λi=>.inr O) hBt' ha λv85 e85 h85=>?_);have hz84:=e84.1;have hz85:=e85.1;have e585:Ext _ v5 v85:=(bK.to e584).trans (e85.sub hD);have K85:=K5.to e585 h85 λb _ z=>by
   rcases z with z|z
   ·exact .inl z.1
   ·rcases z.1 with h1|h1
    ·exact .inl (hG b (hDn b h1.1))
    ·exact .inr O
  have hbv85:=K5.cS e585 hbv5 (.inl (.inr rfl));have b85:bY v85 v5.size _:=e85.bT (e84.bT b83 id) λE=>by have:=(K5.p _ (hD _ E)).2.2;omega
  have K85b:=K85.we (B':=λb=>b=v5.size) λb i=>⟨O,O,λE=>by
   subst i;rcases E.1 with h1|h1
   ·have:=(K5.p _ h1.1).2.2;omega
   ·rcases h1.1 with h2|h2<;>omega⟩
  have hso5:=aH.bS (aH.bO (aH.cut hso1) e584) e85 λb _ i E=>hd b (hDn b i.1.1) E;have X:Wt H t .back=(Hr {H with bQ:=H.bQ.set t {g with bP:=r}} (H.own t) k xs,jJ (Hr {H with bQ:=H.bQ.set t {g with bP:=r}} (H.own t) k xs) t,0,0):=by
   simp only[Wt,htg,hh,Zp hg]
  rw[X]at hR;refine⟨λu=>u=v85,rfl,⟨(k:Int),λu V=>by cases V;rw[add_lit,b85.cell];rfl,⟨so,λu V=>by cases V;rw[add_lit,b85.cell];rfl,?_⟩⟩⟩;refine EN K85b.h t ⟨rfl,Ll K85b.h hol k hso5 (λb _ i E=>?_) hcap hxs hxl λv87 e87 h87=>?_⟩
  ·rcases E.1 with h1|h1
   ·exact h1.2 (hDn b i.1.1)
   ·rcases h1.1 with h2|h2
    ·exact h2.2.1 i.1.2
    ·have:=i.2;omega
  have K87:=K85b.to e87 h87 λb _ i=>i;have hbl7:(Hr {H with bQ:=H.bQ.set t {g with bP:=r}} (H.own t) k xs).bQ.length=H.bQ.length:=by
   rw[BZ];simp
  refine VL K87.h (t:=t) (by rw[hbl7];exact ht) ?_;exact gE (n:=U.size) K87 (.inl (.inl (.inr rfl))) (K85b.cS e87 hbv85 (.inl (.inl (.inr rfl)))) λw' K'=>hR w' _ K'.e (K'.fin h)
 | dC s a=>
  obtain⟨ha0,hal,hru⟩:0<=a/\a.toNat<H.bX.length/\∀A∈H.bX,∀r∈A.runs,r.1<=1000000:=hp;obtain⟨A2,hA2⟩:∃A,H.bX[a.toNat]?=some A:=⟨_,cV hal⟩;have hae:a=((a.toNat:Nat):Int):=by omega
  refine kI aB (ja aB (ja aB (ja aB (q8 aB (kI aB (kI aB (ja aB (q8 aB (wy (nw (cs:=[.int .i64 0,.int .i64 0]) λv5 M Z N=>?_))))))))));have K5:=K1.box Z M;refine N.s1 aA λv5b o5 b5=>b5.s1 aA λv6 o6 b6=>?_;have K6:=(K5.own o5 (.inr rfl)).own o6 (.inr rfl);have S:U.size≠v.size:=by omega
  have C:=Ws o6 (Ws o5 (Z.bT i id) S) S;obtain⟨Y2,hY2,_,_⟩:=K6.h.ar hA2;refine aG (K6.h.hd.rS rfl (b6.rI (x:=((a.toNat:Nat):Int)) (by rw[←hae];rfl) (K6.h.rA hY2 (b6.rI rfl ?_))));refine Rm K6.h hA2 hY2 s (hru A2 (zG hA2)) λv7 W h7=>?_;have K7:=K6.to W h7 λb _ i=>i;have B:=K6.cS W C (.inl (.inr rfl));have X:Wt H t (.dC s a)=(H.cC a.toNat (Qp A2 s),none,0,0):=by
   simp only[Wt,hA2]
  refine hJ v7 ⟨_,L.ts,⟨?_,K7.e,λb i=>⟨(K7.p b i).1,λE=>(K7.p b i).2.1 (.inl E),(K7.p b i).2.2⟩,λb i=>K7.b b (.inl i),K7.o⟩,B,by rw[X]⟩;rw[X];exact K7.h
 | drain=>
  refine kI aB (ja aB (ja aB (ja aB (q8 aB (kI aB (kI aB (ja aB (q8 aB (ja aB (yW (nw (cs:=[]) λv5 M Z N=>?_)))))))))));have K5:=K1.box Z M;have hbv5:=Z.bT i id;refine aG (ud (K5.h.tc E hg ha (d:=0) O rfl) ?_);refine F8 hso K5.h E hg λv7 s Q W hQ hB h7=>?_;have K7:=K5.to W h7 λb _ i=>i.1;have B:=K5.cS W hbv5 (.inl (.inr rfl));have hz0:=K5.e.1;have hg7:(H.dR t g (QR ZD H.tb g.ls)).bQ[t]?=some {g with ls:=QR ZD H.tb g.ls}:=by simp[Hw.dR,ht]
  obtain⟨G,D,hG,hD,hd,aa,hr,hput⟩:=K7.h.ve (λb i=>i.2) E hg7 Q (λb _ i z=>i.1.2 z) (K5.o.1.sub λb i=>by have:=hQ b i;omega) (λz=>K5.o.2 (by have:=hQ _ z;omega));refine aG (hput v7 s _ Q (Ext.refl _ _) (λb i=>.inr i) hB ha λv8 e8 h8=>?_);have e8':=e8.sub hD;have K8:=K7.sk e8' h8 λb _ z=>by
   rcases z with z|z
   ·exact .inl z.1
   ·have:=hQ b z.1;exact .inr (.inr ⟨.inr O,λhB=>by have:=(K5.b b hB).2;omega⟩)
  have hbv8:=K7.cS e8' B (.inl (.inr rfl));have X:Wt H t .drain=({H with bQ:=H.bQ.set t {g with ls:=QR ZD H.tb g.ls,bP:=QW ZD H.tb g.ls}},jJ {H with bQ:=H.bQ.set t {g with ls:=QR ZD H.tb g.ls,bP:=QW ZD H.tb g.ls}} t,0,0):=by
   simp only[Wt,Zp hg]
  have K9:=K8;simp only[Hw.dR,nr]at K9;rw[X]at hR;refine VL K9.h (t:=t) (by simpa using ht) ?_;exact gE (n:=U.size) K9 (.inl (.inr rfl)) hbv8 λw' K'=>hR w' _ K'.e (K'.fin h)
def eN (H:Hw)(t:Nat)(p:Option Ph):Hw:=H.dU t λh=>{h with ph:=p}
theorem Ve (H:Hw)(t:Nat)(f:Th->Th):(H.dU t f).bQ.length=H.bQ.length:=by simp[Hw.dU]
theorem JR (H:Hw)(t k:Nat)(x:Int):(ik H t k x).bQ.length=H.bQ.length:=by
 unfold ik;simp only;split<;>split<;>simp[Ve,QF]
theorem EP (H:Hw)(t:Nat)(p:Ph):(Wt H t p).1.bQ.length=H.bQ.length:=by
 cases p with
 | take k=>simp only[Wt];split<;>simp[Vk,Ve]
 | cH k w=>
  simp only[Wt];split
  ·split<;>simp[QF,Ve,Hw.cC]
  ·rfl
 | cJ k w=>simp only[Wt];split<;>simp[QF,Ve,Hw.cC]
 | grow k w=>simp only[Wt];split<;>simp[Hw.cC]
 | fill=>simp only[Wt];split<;>simp[Vk,Ve]
 | eD m=>simp only[Wt];split<;>simp[Vk,Hw.cC]
 | find x=>
  simp only[Wt,UJ];split
  ·rfl
  ·split<;>simp[QF,Ve]
 | put k x=>exact JR H t k x
 | back=>simp only[Wt];split<;>simp[BZ,Ve]
 | dC s a=>simp only[Wt];split<;>simp[Hw.cC]
 | drain=>simp[Wt,Ve]
def tW (H:Hw)(t:Nat)(p:Ph):Prop:=tN H t p/\∀g,H.bQ[t]?=some g->g.bP.length<=900
def Qq (H:Hw)(t:Nat)(p:Ph):Hw:=eN (Wt H t p).1 t (Wt H t p).2.1
theorem Iz (hso:H4)(h:HH U F L H)(hg:H.bQ[t]?=some g){p:Ph}(hp:g.ph=some p)(hok:tW H t p){R:Bool->Int->Int->Int->Hp->Prop}
 (hR:∀σ' ts',Ext F U σ'->HH σ' (Grow F U) {L with ts:=ts'} (Qq H t p)->R (Wt H t p).2.1.isNone (Wt H t p).2.2.1 (Wt H t p).2.2.2 0 σ'):YZ.c (aW L.p) (t:Int) U R:=by
 refine YZ.o ?_;unfold YZ.v;have N:=(cW.1 hg).1;refine nw (cs:=[.int .i64 0,.int .i64 0]) λv Z e z=>?_;have K1:=(HK.start h).box e Z;obtain⟨x,g',Q,s⟩:=h.th N;rw[hg]at s;cases s;refine Un K1.h (cB rfl (AJ K1.h (t:Int) (cB (by rw[zJ O];rfl) ?_)));refine aG (K1.h.hd.rS rfl (K1.h.tR Q hg ?_));rw[hp];refine⟨tK _,cB (by rw[Gz];rfl) (aG (K1.h.hd.rS rfl (K1.h.tR Q hg ?_)))⟩;rw[hp];refine Nx hso K1.h N p hok.1 hok.2 λv9 C P W=>?_;have K9:=K1.to P W λb _ z=>z;have m:=K1.cS P z (.inr rfl);refine nw (cs:=[.int .i64 0,.int .i64 0]) λS A w u=>?_;have K10:=K9.box w A;refine u.s1 aA λv11 r M=>M.s1 aA λY y K=>?_;have K12:=(K10.own r (.inr rfl)).own y (.inr rfl);have j:U.size≠v9.size:=by have:=(K9.b U.size (.inr rfl)).2;omega
 have i:=Ws y (Ws r (w.bT m id) j) j;have D:t<(Wt H t p).1.bQ.length:=by rw[EP];exact N
 obtain⟨x9,X,J,B⟩:=K12.h.th D;have E:Qq H t p = {(Wt H t p).1 with bQ:=(Wt H t p).1.bQ.set t {X with ph:=(Wt H t p).2.1}}:=Zp B _;refine aG (K12.h.hd.rS rfl (K12.h.qW J B (Wt H t p).2.1 λV d G=>?_));have K13:=K12.to d G λb _ z=>.inl z;have a:=K12.cS d K (.inr rfl);rw[←E]at K13;refine⟨tK _,a.rI rfl (a.rI rfl ?_)⟩;refine gE (n:=U.size) K13 (.inl (.inr rfl)) (K12.cS d i (.inl (.inr rfl))) λw' K'=>?_;rw[Gz];exact hR w' C K'.e (K'.fin h)
theorem Bf {p:Nat->Prop}(h:∃n,p n):∃n,p n/\∀m,p m->n<=m:=by
 obtain⟨n,d⟩:=h
 induction n using Nat.strongRecOn with
 | _ n ih=>
  by_cases hm:∃m,m<n/\p m
  ·obtain⟨m,b,a⟩:=hm;exact ih m b a
  ·exact⟨n,d,λm a=>Nat.le_of_not_lt λb=>hm ⟨m,b,a⟩⟩
theorem Ig {start:eO []->Prop}{round:eO []->eO []}(Inv:Nat->Hp->Prop)(h0:start λh=>∃n,Inv n h)(hr:∀n h,Inv n h->∀J:Hp->Prop,(∀m h',m<n->Inv m h'->J h')->round J h):Yo [] start round:=by
 classical
 refine CZ (λh=>∃n,Inv n h) (λh=>if hx:∃n,Inv n h then(Bf hx).choose else 0) h0 λh d=>?_
 have e:=(Bf d).choose_spec;refine hr _ h e.1 _ λm h' g b=>⟨⟨m,b⟩,?_⟩;have a:∃n,Inv n h':=⟨m,b⟩;rw[dif_pos a,dif_pos d];exact A0 ((Bf a).choose_spec.2 m b) g
inductive iz:Nat->Hw->Nat->Ph->Hw->Int->Int->Prop
 | done {H:Hw} {t:Nat} {p:Ph}:tW H t p->(Wt H t p).2.1=none->iz 1 H t p (Qq H t p) (Wt H t p).2.2.1 (Wt H t p).2.2.2
 | next {n:Nat} {H:Hw} {t:Nat} {p p':Ph} {H':Hw} {a e:Int}:tW H t p->(Wt H t p).2.1=some p'->iz n (Qq H t p) t p' H' a e->iz (n+1) H t p H' a e
theorem DJ {p:Ph}(ht:t<H.bQ.length):∃g,(Qq H t p).bQ[t]?=some g/\g.ph=(Wt H t p).2.1:=by
 have a:t<(Wt H t p).1.bQ.length:=by rw[EP];exact ht
 exact⟨{(Wt H t p).1.bQ[t]with ph:=(Wt H t p).2.1},by simp[Qq,eN,Hw.dU,tz,cV a],rfl⟩
end Go.Ar
namespace Go.Ar
open Go Go.Vc Go.Proofs
open Go.Bu (eW)
variable {U:Hp}{F:Rg}
def Uw (size align:Int):Bool:=decide (1<=size)&&(decide (1<=align)&&(decide (align<=256)&&eW align))
def gN (tb:List bZ)(size align:Int):Option Nat:=tb.findIdx? λc=>decide (size<=(c.size:Int))&&((c.size:Int)%align==0)
theorem Jm (n:Int)(h1:1<=n)(h2:n<=256){R:aN}(hR:∀p:Int,(p != n) = !eW n->R p U):Z3.c n U R:=by
 refine Z3.o ?_;unfold Z3.v;refine UC (a:=bN) (bb:=bN) (λ(p q:Int) w=>w=U/\(p=0/\q=1\/∃k:Nat,k<=8/\p=((2^k:Nat):Int)/\q=((2^(k+1):Nat):Int)/\p<=n)) (λp q _=>1000-q.toNat) ⟨rfl,.inl ⟨rfl,rfl⟩⟩ ?_;rintro(p:Int) (q:Int) w ⟨rfl,hpq⟩;refine cQ (λd=>?_) λr=>?_
 ·rcases hpq with⟨rfl,rfl⟩|⟨k,hk,rfl,rfl,hp⟩
  ·exact cP (m:=2) O O ⟨⟨rfl,.inr ⟨0,O,by simp,by simp,O⟩⟩,by simp⟩
  ·have s:k<=7:=by
    apply Classical.byContradiction;intro hc;have:2^9<=2^(k+1):=oI aB O;omega
   have g:=kz (k+1);exact cP (m:=2^(k+1+1)) (by rw[l3 2 (k+1)];omega) (by rw[l3 2 (k+1)];omega) ⟨⟨rfl,.inr ⟨k+1,O,rfl,rfl,d⟩⟩,by rw[l3 2 (k+1)];omega⟩
 ·rcases hpq with⟨rfl,rfl⟩|⟨k,hk,rfl,rfl,hp⟩
  ·omega
  ·refine hR _ ?_;by_cases e:((2^k:Nat):Int)=n
   ·have:eW n=true:=by
     unfold eW;rw[kb];exact⟨k,zg.2 O,by simp[←e]⟩
    rw[this,e];simp
   ·have:eW n=false:=by
     unfold eW;rw[mA];intro j hj he;have b:n=((2^j:Nat):Int):=by simpa using he
     rcases px j k with h3|h3|h3
     ·have:2^(j+1)<=2^k:=oI aB h3;rw[l3]at this;have:=kz j;omega
     ·subst h3;exact e b.symm
     ·have:2^(k+1)<=2^j:=oI aB h3;omega
    rw[this];simpa using e
theorem Oi {s:Sl}{xs:List (Int×Int×Int)}(ha:ie U s xs)(hv:Qc xs=true)(size align:Int){R:Int->Int->Hp->Prop}
 (hR:∀σ',bK U σ'->R (if Uw size align then((gN (xs.map ZZ) size align).getD 0:Nat)else 0) (if Uw size align then(if(gN (xs.map ZZ) size align).isSome then 0 else 4)else 1) σ'):Z1.c s size align U R:=by
 refine Z1.o ?_;unfold Z1.v;refine nw (cs:=[.int .i64 size]) λv hz e hb=>nw (cs:=[.int .i64 align]) λv1 N e1 Y=>?_;have W:=e1.bT hb id;refine Ge (ZO ha (e.trans e1)) λg e2=>?_;rw[hv];have G:=e2.bT W id;have y:=e2.bT Y id;have x:=(e.trans e1).trans e2;refine cB rfl ?_;have key:∀r,r = !Uw size align->(If r (R 0 1 g) (Wl.c s ⟨203,#[],#[.pointer (some ⟨U.size,0,none⟩),.pointer (some ⟨v.size,0,none⟩)]⟩ g λk v4=>If (decide (k<0)) (R 0 4 v4) (R k 0 v4))):=by
  intro r b;cases hok:Uw size align with
  | false=>
   rw[hok]at b;have:=hR g x;rw[hok]at this;exact cE (by rw[b];rfl) this
  | true=>
   rw[hok]at b;refine cB (by rw[b];rfl) ?_;have C:=hok;simp only[Uw,zF,zU]at C;refine Wl.o ?_;unfold Wl.v;have hlen:=ha.1;have hxl:=((Z7 xs).1 hv).2.1;refine ZY (a:=bN) (λ(z:Int) w=>∃i:Nat,z=(i:Int)/\i<=xs.length/\bK g w/\∀j c,j<i->(xs.map ZZ)[j]?=some c->(decide (size<=(c.size:Int))&&((c.size:Int)%align==0))=false) (λz _=>xs.length-z.toNat) ⟨0,rfl,O,Ext.refl _ _,λj c h=>O⟩ ?_;rintro(z:Int) w ⟨i,rfl,hi,ew,hno⟩;refine cQ (λhlt=>?_) λS=>?_
   ·have aa:i<xs.length:=by omega
    have B:(xs.map ZZ)[i]?=some (ZZ xs[i]):=by simp[aa]
    generalize ZZ xs[i]=c at B;have D:=ZO ha (x.trans ew);obtain⟨hx,hcok⟩:=U4 D hv B;refine yz D hx ?_;refine pE (all := #[.agg #[.int .i64 (c.size:Int),.int .i64 (c.aF:Int),.int .i64 (c.batch:Int)],.pointer (some ⟨U.size,0,none⟩),.pointer (some ⟨v.size,0,none⟩)]) (by kernel_rfl) aA ?_;refine ZN.o ?_;unfold ZN.v;refine nw (cs:=[.int .i64 (c.size:Int),.int .i64 (c.aF:Int),.int .i64 (c.batch:Int)]) λF N e1 K=>?_;have M:=e1.bT (ew.bT G id) id;have ab:=e1.bT (ew.bT y id) id;have E:=ew.trans e1;have go:∀r,r=(decide (size<=(c.size:Int))&&((c.size:Int)%align==0))->If r (If (decide ((i:Int)<0)) (R 0 4 F) (R (i:Int) 0 F)) (Ar .i64 ((i:Int)+1) λL=>(∃i:Nat,L=(i:Int)/\i<=xs.length/\bK g F/\∀j c,j<i->(xs.map ZZ)[j]?=some c->(decide (size<=(c.size:Int))&&((c.size:Int)%align==0))=false)/\xs.length-L.toNat<xs.length-(i:Int).toNat):=by
     intro r b;refine cO (λP=>fR O ?_) λh0=>?_
     ·have V:gN (xs.map ZZ) size align=some i:=by
       obtain⟨Z,rfl⟩:=cW.1 B;exact nk.2 ⟨Z,by rw[←b];exact P,λj H=>by rw[hno j _ H (cV O)];simp⟩
      have:=hR F (x.trans E);rw[hok,V]at this;exact this
     ·exact cP (m:=i+1) O O ⟨⟨i+1,rfl,O,E,λj d H hd=>by
       by_cases e:j=i
       ·subst e;rw[B]at hd;cases hd;rw[←b];exact h0
       ·exact hno j d O hd⟩,O⟩
    refine K.rI rfl (M.ua rfl ?_);refine KE (λr w=>w=F/\r=(decide (size<=(c.size:Int))&&((c.size:Int)%align==0))) (λr w ⟨Q,b⟩=>by subst Q;exact go r b) λJ A=>?_;refine cQ (λS=>K.rI rfl (ab.ua rfl (nz O (A _ _ ⟨rfl,?_⟩)))) λhlt2=>A _ _ ⟨rfl,?_⟩
    ·rw[Qz O,zJ (by omega:size<=(c.size:Int)),p8]
    ·rw[zM O,uK]
   ·have V:gN (xs.map ZZ) size align=none:=by
     unfold gN;rw[uj];intro c B;obtain⟨j,H⟩:=zQ B;have:=(cW.1 H).1;simp at this;exact hno j c O H
    have:=hR w (x.trans ew);rw[hok,V]at this;exact lA aB this
 refine xm (λr w=>w=g/\r = !Uw size align) (λr w ⟨Q,b⟩=>by subst Q;exact key r b) λJ A=>?_;have X:∀m,m=g->cell m ⟨U.size,0,none⟩=some (.int .i64 size):=λm hm=>by rw[hm,G.cell];rfl
 have u:∀m,m=g->cell m ⟨v.size,0,none⟩=some (.int .i64 align):=λm hm=>by rw[hm,y.cell];rfl
 refine⟨λm=>m=g,rfl,⟨size,X,?_⟩⟩;refine cQ (λP=>A _ _ ⟨rfl,?_⟩) λP=>⟨align,u,cQ (λh2=>A _ _ ⟨rfl,?_⟩) λh2=>⟨align,u,cQ (λh3=>A _ _ ⟨rfl,?_⟩) λh3=>⟨align,u,⟨align,u,?_⟩⟩⟩⟩
 ·simp only[Uw,zM (by omega:¬1<=size),uK,wq]
 ·simp only[Uw,zM (by omega:¬1<=align),uK,su,wq]
 ·simp only[Uw,zM (by omega:¬align<=256),uK,su,wq]
 ·refine Jm align O O λp hp=>⟨rfl,A _ _ ⟨rfl,?_⟩⟩;rw[hp];simp only[Uw,zJ (by omega:1<=size),zJ (by omega:1<=align),zJ (by omega:align<=256),p8]
end Go.Ar
namespace Go.Ar
open Go Go.Vc Go.Proofs
variable {U u u':Hp}{F B P Q:Rg}{L:dM}{H H':Hw}{t k n pb:Nat}{A:AR}{Y:Lay}{x:eH}{g:Th}{c:bZ}{l:Li}{cs:List Value}
def mw (c:bZ):Int×Int×Int:=((c.size:Int),(c.aF:Int),(c.batch:Int))
theorem Mc (tb:List bZ):(tb.map mw).map ZZ=tb:=by
 rw[k6]
 conv=>rhs;rw[←uk tb]
 apply j5;intro c _;rfl
theorem N8 {s:Sl}{tb:List bZ}(h:cU s 3 (fX tb) U F):ie U s (tb.map mw):=by
 have u:=h.1;rw[VA]at u;refine⟨by simp;omega,λi x y z g=>?_⟩;rw[zd,nV]at g;obtain⟨c,C,e⟩:=g;obtain⟨B,D,m⟩:=Gw C;simp only[mw,Prod.mk.injEq]at e;obtain⟨rfl,rfl,rfl⟩:=e;obtain⟨b,o,d,j⟩:=h.cell B;obtain⟨r,w,a,p⟩:=h.cell D;rw[d]at a;cases a;obtain⟨r,w,a,A⟩:=h.cell m;rw[d]at a;cases a;exact⟨b,o,d,Q6 j,by rw[show o+i*3=o+3*i by omega];exact j,by rw[show o+i*3+1=o+(3*i+1) by omega];exact p,by rw[show o+i*3+2=o+(3*i+2) by omega];exact A⟩
def mo (tb:List bZ):Prop:=Qc (tb.map mw)=true
def iH (tb:List bZ)(kind size align addr:Int):Option Ph:=
 if kind=0 then(if 1<=size/\size<=16384 then(if Uw size align then(match gN tb size align with
  | some k=>some (.take k)
  | none=>some (.eD ((size+255).toNat/256)))else none)else none)
 else if kind=1 then some (.find addr)else if kind=2 then some .drain else none
theorem LN (h:HH U F L H)(hv:mo H.tb)(kind size align addr:Int){R:Value->Hp->Prop}(hR:∀σ',bK U σ'->R (mE (iH H.tb kind size align addr)) σ'):Yj.c (aW L.p) kind size align addr U R:=by
 refine Yj.o ?_;unfold Yj.v;refine nw (cs:=[.int .i64 kind,.int .i64 size,.int .i64 align,.int .i64 addr]) λv M e j=>j.rI rfl ?_;have C:=h.bO e;have a:=hR v e;refine cO (λz=>?_) λz=>?_
 ·have i:kind=0:=by simpa using z
  have G:iH H.tb kind size align addr=(if 1<=size/\size<=16384 then(if Uw size align then(match gN H.tb size align with
   | some k=>some (.take k)
   | none=>some (.eD ((size+255).toNat/256)))else none)else none):=by unfold iH;rw[zC i]
  rw[G]at hR a;refine j.rI rfl (KE (λr w=>w=v/\r = !decide (1<=size/\size<=16384)) (λr w ⟨E,y⟩=>?_) λJ B=>?_)
  ·subst E;by_cases hs:1<=size/\size<=16384
   ·rw[zC hs]at hR;rw[zJ hs]at y;refine cB (by rw[y];rfl) ⟨λm=>m=w,rfl,aG ⟨L.dD,λm x=>by rw[x,add_lit,C.hd.cell];rfl,⟨size,λm x=>by rw[x,add_lit,j.cell];rfl,⟨align,λm x=>by rw[x,add_lit,j.cell];rfl,?_⟩⟩⟩⟩;refine Oi (N8 C.jz) hv size align λK e2=>?_;rw[Mc];have A:=e2.bT j id;have b:=hR K (e.trans e2);cases hok:Uw size align with
    | false=>
     rw[hok]at b;exact cB rfl (cB rfl b)
    | true=>
     rw[hok]at b;simp only[zR]at b ⊢;cases hcl:gN H.tb size align with
     | some k=>rw[hcl]at b;exact cE rfl b
     | none=>
      rw[hcl]at b;refine cB rfl (cE rfl (A.rI rfl (ar O O (ar O O (nz aB (ar (by rw[Yq O];omega) (by rw[Yq O];omega) ?_))))));rw[Yq O];have:(size+256-1)/256=(((size+255).toNat/256:Nat):Int):=by omega
      rw[this];exact b
   ·rw[zB hs]at a;rw[zM hs]at y;exact cE (by rw[y];rfl) a
  ·refine cQ (λD=>B _ _ ⟨rfl,?_⟩) λD=>j.rI rfl (B _ _ ⟨rfl,?_⟩)
   ·rw[zM O];rfl
   ·by_cases h2:size>16384
    ·rw[zJ h2,zM O];rfl
    ·rw[zM h2,zJ O];rfl
 ·have i:kind≠0:=by simpa using z
  refine cO (λu=>j.rI rfl ?_) λu=>?_
  ·have d:kind=1:=by simpa using u
   unfold iH at a;rw[zB i,zC d]at a;exact a
  ·have d:kind≠1:=by simpa using u
   refine cO (λs=>?_) λs=>?_
   ·have g:kind=2:=by simpa using s
    unfold iH at a;rw[zB i,zB d,zC g]at a;exact a
   ·have g:kind≠2:=by simpa using s
    unfold iH at a;rw[zB i,zB d,zB g]at a;exact a
def Kc (H:Hw)(thread kind size align addr:Int):Int ⊕ (Nat×Ph):=
 if 0<=thread/\thread<(H.bQ.length:Int)then(match H.bQ[thread.toNat]? with
  | some g=>(if g.ph=none then(match iH H.tb kind size align addr with
   | some p=>.inr (thread.toNat,p)
   | none=>.inl 1)else .inl 5)
  | none=>.inl 1)else .inl 1
theorem Mz (h:HH U F L H)(hv:mo H.tb)(thread kind size align addr:Int){R:aN}(h0:∀e,Kc H thread kind size align addr=.inl e->e≠0->∀σ',Ext F U σ'->HH σ' (Grow F U) L H->R e σ')
 (h1:∀t p,Kc H thread kind size align addr=.inr (t,p)->thread=(t:Int)->t<H.bQ.length->∀σ',Ext F U σ'->HH σ' (Grow F U) L (eN H t (some p))->R 0 σ'):YW.c (aW L.p) thread kind size align addr U R:=by
 refine YW.o ?_;unfold YW.v;refine nw (cs:=[.int .i64 kind,.int .i64 size,.int .i64 align,.int .i64 addr]) λv s e d=>?_;have K1:=(HK.start h).box e s;refine Un K1.h (cB rfl (AJ K1.h thread ?_));by_cases hth:0<=thread/\thread<(H.bQ.length:Int)
 ·obtain⟨t,rfl⟩:∃t:Nat,thread=(t:Int):=⟨thread.toNat,O⟩;have m:t<H.bQ.length:=by omega
  obtain⟨x,g,j,i⟩:=h.th m;have a:Kc H (t:Int) kind size align addr=(if g.ph=none then(match iH H.tb kind size align addr with
   | some p=>.inr (t,p)
   | none=>.inl 1)else .inl 5):=by
   unfold Kc;rw[zC hth,dE,i]
  refine cB (by rw[zJ hth];rfl) (aG (K1.h.hd.rS rfl (K1.h.tR j i ⟨tK _,?_⟩)));cases hp:g.ph with
  | some p=>
   rw[hp,zB aA]at a;exact cE (by rw[Gz];rfl) (h0 5 a aB v K1.e (K1.fin h))
  | none=>
   rw[hp,zC rfl]at a;refine cB rfl (d.rI rfl (d.rI rfl (d.rI rfl (d.rI rfl (LN K1.h hv kind size align addr λv3 w=>⟨tK _,?_⟩)))));have K3:=K1.fr w;rw[Gz];cases hq:iH H.tb kind size align addr with
   | none=>
    rw[hq]at a;exact cE rfl (h0 1 a aB v3 K3.e (K3.fin h))
   | some p=>
    rw[hq]at a;refine cB rfl (aG (K3.h.hd.rS rfl (K3.h.qW j i (some p) λr u y=>?_)));have K4:=K3.to u y λb _ d=>.inl d;have z:eN H t (some p) = {H with bQ:=H.bQ.set t {g with ph:=some p}}:=Zp i _;rw[←z]at K4;exact h1 t p a rfl m r K4.e (K4.fin h)
 ·have a:Kc H thread kind size align addr=.inl 1:=by unfold Kc;rw[zB hth]
  exact cE (by rw[zM hth];rfl) (h0 1 a aB v K1.e (K1.fin h))
theorem Jo {p:Option Ph}(ht:t<H.bQ.length):∃g,(eN H t p).bQ[t]?=some g/\g.ph=p:=
 ⟨{H.bQ[t]with ph:=p},by simp[eN,Hw.dU,tz,cV ht],rfl⟩
theorem E8 (hso:H4)(h:HH U F L H)(hv:mo H.tb)(thread kind size align addr:Int){R:Int->Int->Hp->Prop}(h0:∀e,Kc H thread kind size align addr=.inl e->e≠0->∀σ',Ext F U σ'->HH σ' (Grow F U) L H->R 0 e σ')
 (h1:∀t p,Kc H thread kind size align addr=.inr (t,p)->∃n H' a e,iz n (eN H t (some p)) t p H' a e/\∀σ' ts',Ext F U σ'->HH σ' (Grow F U) {L with ts:=ts'} H'->R a e σ'):XT.c (aW L.p) thread kind size align addr U R:=by
 refine XT.o ?_;unfold XT.v;refine nw (cs:=[.int .i64 kind,.int .i64 size,.int .i64 align,.int .i64 addr]) λv hz e i=>i.rI rfl (i.rI rfl (i.rI rfl (i.rI rfl ?_)));have K1:=(HK.start h).box e hz;refine Mz K1.h hv thread kind size align addr (λG he C v1 e1 u=>?_) λt p aa ac ht v1 e1 u=>?_
 ·have K2:=K1.to e1 u λb _ i=>i;exact cE (by simpa using C) (h0 G he C v1 K2.e (K2.fin h))
 ·subst ac;have K2:=K1.to e1 u λb _ i=>i;obtain⟨n,Hf,a,G,d,y⟩:=h1 t p aa;refine cB rfl (Ig (λn w=>∃(B P:Rg) (ts:List eH) (H:Hw) (p:Ph),HK F U B w P {L with ts:=ts} H/\(∃g,H.bQ[t]?=some g/\g.ph=some p)/\iz n H t p Hf a G) ⟨n,_,_,L.ts,_,p,K2,Jo ht,d⟩ ?_);rintro n w ⟨B,P,ts,H2,r,K,⟨g,hg,ab⟩,d⟩ J hJ;have go:tW H2 t r->((Wt H2 t r).2.1.isNone=true->(Wt H2 t r).2.2.1=a/\(Wt H2 t r).2.2.2=G/\Qq H2 t r=Hf)->((Wt H2 t r).2.1.isNone=false->∃m M,m<n/\(Wt H2 t r).2.1=some M/\iz m (Qq H2 t r) t M Hf a G)->YZ.c (aW L.p) (t:Int) w λQ z x ah v3=>Nw (.cells #[.int .i64 0,.int .i64 0] 125 (0,0)) v3 λj v4=>dW (j.add 0) (.int .i64 z) v4 λv5=>dW (j.add 1) (.int .i64 x) v5 λs=>If Q (gp .i64 (j.add 0) s λX=>gp .i64 (j.add 1) s λV=>R X V s) (J s):=by
   intro hok hd hn;refine Iz hso K.h hg ab hok λv3 A e3 ad=>?_;have K3:=K.to e3 ad λb _ i=>i;refine nw (cs:=[.int .i64 0,.int .i64 0]) λv4 N e4 ag=>?_;have K4:=K3.box e4 N;refine ag.s1 aA λv5 o5 b5=>b5.s1 aA λs o6 b6=>?_;have K6:=(K4.own o5 (.inr rfl)).own o6 (.inr rfl);refine cO (λW=>?_) λZ=>?_
   ·obtain⟨q1,q2,q3⟩:=hd W;rw[q3]at K6;refine b6.rI rfl (b6.rI rfl ?_);rw[q1,q2];exact y s A K6.e (K6.fin h)
   ·obtain⟨m,M,hm,S,Y⟩:=hn Z;have af:t<H2.bQ.length:=(cW.1 hg).1;obtain⟨g',ae,D⟩:=DJ (p:=r) af;exact hJ m s hm ⟨_,_,A,_,M,K6,⟨g',ae,by rw[D,S]⟩,Y⟩
  cases d with
  | done hok hnone=>exact go hok (λ_=>⟨rfl,rfl,rfl⟩) λE=>by rw[hnone]at E;cases E
  | next hok hsome hrun'=>exact go hok (λE=>by rw[hsome]at E;cases E) λ_=>⟨_,_,Nat.lt_succ_self _,hsome,hrun'⟩
end Go.Ar
namespace Go.Ar
open Go Go.Vc Go.Proofs
variable {U u w w':Hp}{F B P Q:Rg}{n:Nat}{cs:List Value}{tb:List bZ}{cf:Cf}
def VP (tb:List bZ)(cf:Cf):Hw:=⟨tb,cf,KZ cf.aF,List.replicate cf.gV (fo cf.aF cf.room tb),List.replicate cf.threads ⟨List.replicate tb.length ib,[],none⟩,[]⟩
def qY (p a t b r:Int):Bool:=decide (32<=p)&&decide (p<=1024)&&(p%16==0)&&decide (1<=a)&&decide (a<=4)&&decide (1<=t)&&decide (t<=4)&&decide (0<=b)&&decide (b<=65536)&&decide (0<=r)&&decide (r<=8)
theorem lvl {K:aO}{r:Bool}{a:Addr}{x:Int}{k:IntKind}{f:Int->Bool}(hl:∀{K':Int->Prop},K' x->gp k a w K')(h:K (r&&f x) w):bW K λJ=>If r (gp k a w λt=>J (f t) w) (J false w):=
 bW.intro (cO (λb=>hl (by rw[b]at h;exact h)) λb=>by rw[b]at h;exact h)
theorem On (p a t b r:Int){R:aO}(hR:∀σ',bK U σ'->R (qY p a t b r) σ'):Qj.c p a t b r U R:=by
 refine Qj.o ?_;unfold Qj.v;refine nw (cs:=[.int .i64 p,.int .i64 a,.int .i64 t,.int .i64 b,.int .i64 r]) λv A e g=>g.rI rfl ?_;have i:=hR v e;unfold qY at i;refine KE (λj w=>w=v/\j=(decide (32<=p)&&decide (p<=1024))) (λj w ⟨u,x⟩=>?_) λJ m=>?_
 ·subst u;subst x;refine KE (λj y=>y=w/\j=(decide (32<=p)&&decide (p<=1024)&&(p%16==0))) (λj y ⟨u,x⟩=>?_) λJ m=>?_
  ·rw[u];subst x;exact lvl (λd=>g.rI rfl d) (lvl (λd=>g.rI rfl d) (lvl (λd=>g.rI rfl d) (lvl (λd=>g.rI rfl d) (lvl (λd=>g.rI rfl d) (lvl (λd=>g.rI rfl d) (lvl (λd=>g.rI rfl d) (lvl (λd=>g.rI rfl d) i)))))))
  ·refine cO (λs=>g.rI rfl (nz aB (m _ _ ⟨rfl,?_⟩))) λz=>m _ _ ⟨rfl,?_⟩
   ·simp only[zF,zU]at s;rw[Qz O,zJ s.1,zJ s.2];rfl
   ·rw[z];rfl
 ·refine cQ (λs=>g.rI rfl (m _ _ ⟨rfl,?_⟩)) λz=>m _ _ ⟨rfl,?_⟩
  ·rw[zJ (by omega:32<=p)];rfl
  ·rw[zM O];rfl
structure nZ where
 p:Nat
 dD:Sl
 lm:Nat
 hs:Option Nat
 hp:Option Nat
 aw:Sl
 al:List Nat
 ha:Sl
 tw:Sl
 tl:List Value
 ht:Sl
 ys:List Lay
 cs:List gO
def qE (cf:Cf)(N:nZ):List Value:=[.slice N.dD.a N.dD.len N.dD.cap,.int .i64 (cf.aF:Int),.int .i64 (cf.gV:Int),.int .i64 (cf.threads:Int),.int .i64 (cf.dA:Int),.int .i64 (cf.room:Int),
 .pointer (N.hp.map λq=>⟨q,0,none⟩),.slice N.ha.a N.ha.len N.ha.cap,.slice N.ht.a N.ht.len N.ht.cap,.map (some N.lm)]
def rf (n room:Nat)(tb:List bZ)(y:Option Lay):Hp->Rg->Prop:=λU F=>match y with
 | some Y=>dG U F Y (fo n room tb) (cK (fo n room tb) Y)
 | none=>True
def ri (tb:List bZ)(bud:Nat)(y:Option gO):Hp->Rg->Prop:=λU F=>match y with
 | some Y=>eA U F Y tb bud (List.replicate tb.length ib)
 | none=>True
def xo (n:Nat)(q:Option Nat):Hp->Rg->Prop:=λU F=>match q with
 | some q=>dK U F q (KZ n)
 | none=>True
def iV (tb:List bZ)(cf:Cf)(N:nZ):kF->Hp->Rg->Prop
 | .hd=>iq N.p (qE cf N)
 | .dD=>cU N.dD 3 (fX tb)
 | .sp=>xo cf.aF N.hs
 | .fL=>bR N.aw 1 (fJ N.al)
 | .cN=>bR N.tw 3 N.tl
 | .live=>jx N.lm .i64 (.ag 4) []
 | .ar k=>rf cf.aF cf.room tb N.ys[k]?
 | .ca k=>ri tb cf.dA N.cs[k]?
 | .hn _=>λ_ _=>True
theorem rf.loc (n room:Nat)(tb:List bZ)(y:Option Lay):dL (rf n room tb y):=by
 intro U σ' F G h hz hs;cases y with
 | some Y=>exact dG.loc _ _ _ _ h hz hs
 | none=>trivial
theorem ri.loc (tb:List bZ)(bud:Nat)(y:Option gO):dL (ri tb bud y):=by
 intro U σ' F G h hz hs;cases y with
 | some Y=>exact eA.loc _ _ _ _ h hz hs
 | none=>trivial
theorem xo.loc (n:Nat)(q:Option Nat):dL (xo n q):=by
 intro U σ' F G h hz hs;cases q with
 | some q=>exact dK.loc _ _ _ _ h hz hs
 | none=>trivial
theorem iV.loc {N:nZ}:∀i,dL (iV tb cf N i)
 | .hd=>iq.loc _ _
 | .dD=>cU.loc _ _ _
 | .sp=>xo.loc _ _
 | .fL=>bR.loc _ _ _
 | .cN=>bR.loc _ _ _
 | .live=>jx.loc _ _ _ _
 | .ar k=>rf.loc _ _ _ _
 | .ca k=>ri.loc _ _ _
 | .hn _=>λ_ _ _ _ _ _ _=>trivial
structure NK (U:Hp) (B:Rg) (w:Hp) (P:Rg) (tb:List bZ) (cf:Cf) (N:nZ):Prop where
 sep:Sep (iV tb cf N) w P
 e:bK U w
 p:∀b,P b->U.size<=b/\¬B b/\b<w.size
 b:∀b,B b->U.size<=b/\b<w.size
variable {N N':nZ}
theorem NK.fr (K:NK U B w P tb cf N)(e:bK w w'):NK U B w' P tb cf N:=
 ⟨(Sep.loc iV.loc).bO K.sep e,K.e.trans e,λb a=>⟨(K.p b a).1,(K.p b a).2.1,by have:=(K.p b a).2.2;have:=e.1;omega⟩,λb a=>by have:=K.b b a;have:=e.1;omega⟩
theorem NK.box (K:NK U B w P tb cf N)(e:bK w w')(hz:w'.size=w.size+1):NK U (λb=>B b\/b=w.size) w' P tb cf N:=by
 have h:=K.fr e;have i:=K.e.1;exact⟨h.sep,h.e,λb a=>⟨(K.p b a).1,λg=>g.elim (K.p b a).2.1 λd=>by have:=(K.p b a).2.2;omega,(h.p b a).2.2⟩,λb a=>a.elim (h.b b) λd=>O⟩
theorem NK.drop (K:NK U B w P tb cf N){B':Rg}(hb:∀b,B' b->B b):NK U B' w P tb cf N:=⟨K.sep,K.e,λb h=>⟨(K.p b h).1,λa=>(K.p b h).2.1 (hb b a),(K.p b h).2.2⟩,λb h=>K.b b (hb b h)⟩
theorem NK.put (K:NK U B w P tb cf N)(e:bK w w')(i:kF)(hj:∀j,j≠i->iV tb cf N' j=iV tb cf N j)(hi:iV tb cf N' i w' (λb=>w.size<=b)):NK U B w' (λb=>P b\/w.size<=b/\b<w'.size) tb cf N':=by
 have h:=K.fr e;have m:=K.e.1;refine⟨h.sep.put iV.loc i (G:=λb=>w.size<=b/\b<w'.size) (λb a g=>by have:=(K.p b g).2.2;omega) hj ((iV.loc i).mono hi λb a d=>⟨d,a⟩) (iV.loc i),h.e,λb a=>?_,h.b⟩;rcases a with a|a
 ·exact h.p b a
 ·exact⟨O,λd=>by have:=(K.b b d).2;omega,a.2⟩
theorem NK.step (K:NK U B w P tb cf N)(i:kF):∃G:Rg,(∀b,G b->P b)/\iV tb cf N i w G/\∀(w':Hp) (N':nZ) (G':Rg),(∀j,j≠i->iV tb cf N' j=iV tb cf N j)->Ext G w w'->(∀b,G' b->G b\/w.size<=b/\¬B b)->iV tb cf N' i w' G'->(∀b,B b->b<w'.size) →
 NK U B w' (λb=>(P b/\¬G b\/G' b)/\b<w'.size) tb cf N':=by
 obtain⟨G,m,u,_,g⟩:=K.sep.jW iV.loc i;refine⟨G,m,u,λw' N' G' s e r x y=>⟨?_,?_,λb a=>?_,λb a=>⟨(K.b b a).1,y b a⟩⟩⟩
 ·have:=g w' (iV tb cf N') G' s e (λb a=>(r b a).imp id λd=>d.1) x (iV.loc _);refine(Sep.loc iV.loc).mono this λb a d=>⟨?_,a⟩;exact d.imp (λd=>⟨d.1,d.2.2⟩) id
 ·exact Ext.dT K.e e λb a=>.inr (K.p b (m b a)).1
 ·have z:=K.e.1;rcases a.1 with h1|h1
  ·exact⟨(K.p b h1.1).1,(K.p b h1.1).2.1,a.2⟩
  ·rcases r b h1 with h2|h2
   ·exact⟨(K.p b (m b h2)).1,(K.p b (m b h2)).2.1,a.2⟩
   ·exact⟨O,h2.2,a.2⟩
theorem AS {K:eO [.p]}{body:eO [.p]->Prop}(P:Option Addr->Hp->Prop)(h1:∀r w,P r w->K r w)(h2:∀J:eO [.p],(∀r w,P r w->J r w)->body J):Jn [.p] K body:=Jn.intro (h2 K h1)
def gA:Sl:=⟨none,0,0⟩
def pv (cs:List gO):List Value:=cs.flatMap λc=>[.pointer (some ⟨c.p,0,none⟩),.slice none 0 0,.nilIface]
def N0 (p:Nat)(dD:Sl)(lm:Nat):nZ:=⟨p,dD,lm,none,none,gA,[],gA,gA,[],gA,[],[]⟩
def NB (p:Nat)(dD:Sl)(lm q:Nat)(aw:Sl)(ys:List Lay)(tw:Sl)(cs:List gO):nZ:=⟨p,dD,lm,some q,some q,aw,ys.map (·.p),aw,tw,pv cs,tw,ys,cs⟩
theorem Cp {p lm:Nat}{dD:Sl}{D:Rg}(e:bK U w)(hz:U.size<w.size)(hp:bY w p (qE cf (N0 p dD lm)))(hm:dH w lm .i64 (.ag 4) [])(ht:cU dD 3 (fX tb) w D)(hD:∀b,D b->U.size<b/\b<w.size/\b≠p/\b≠lm)(hpl:p≠lm)(h1:U.size<p)(h2:U.size<lm) :
 NK U (· = U.size) w (λb=>D b\/b=p\/b=lm) tb cf (N0 p dD lm):=by
 have g:=hp.lt;have d:=hm.lt;refine⟨⟨λb=>if b=p then .hd else if b=lm then .live else .dD,λi=>?_⟩,e,λb a=>?_,λb a=>O⟩
 ·cases i with
  | hd=>exact⟨⟨.inr (.inl rfl),zC rfl⟩,hp⟩
  | live=>exact⟨⟨.inr (.inr rfl),by show(if lm=p then kF.hd else if lm=lm then kF.live else kF.dD)=.live;rw[zB (Ne.symm hpl),zC rfl]⟩,hm⟩
  | dD=>exact aH.mono ht λb _ a=>⟨.inl a,by show(if b=p then kF.hd else if b=lm then kF.live else kF.dD)=.dD;rw[zB (hD b a).2.2.1,zB (hD b a).2.2.2]⟩
  | sp=>trivial
  | fL=>exact bR.nil _ _ _ _
  | cN=>exact bR.nil _ _ _ _
  | ar k=>trivial
  | ca k=>trivial
  | hn k=>trivial
 ·rcases a with a|a|a
  ·have:=hD b a;omega
  ·omega
  ·omega
theorem NK.wY (K:NK U B w P tb cf N):P N.p/\bY w N.p (qE cf N):=by
 obtain⟨G,b,a⟩:=K.sep.get .hd;exact⟨b _ a.1,a.2⟩
theorem NK.sL (K:NK U B w P tb cf N)(N':nZ)(hN':∀j,j≠.hd->iV tb cf N' j=iV tb cf N j)(hp:N'.p=N.p){i:Nat}{v:Value}(hs:(qE cf N).set i v=qE cf N')(hi:i<10){Kk:aP}(hK:∀w' P',NK U B w' P' tb cf N'->Qm w w' N.p->Kk w'):dW (Addr.add ⟨N.p,0,none⟩ i) v w Kk:=by
 obtain⟨G,m,e,d⟩:=K.step .hd;have e:iq N.p (qE cf N) w G:=e;refine e.2.s1 (by simpa[qE]using hi) λw' o g=>hK w' _ (d w' N' G hN' (o.ext.sub λx a=>by rw[a];exact e.1) (λx a=>.inl a) ?_ λx a=>by have:=(K.b x a).2;have:=o.1;omega) o;show iq N'.p (qE cf N') w' G;rw[zH,hs]at g;rw[hp];exact⟨e.1,g⟩
theorem RD {Y:Lay}(h:N'.ys=N.ys++[Y])(hr:∀j,(∀k,j≠.ar k)->iV tb cf N' j=iV tb cf N j):∀j,j≠kF.ar N.ys.length->iV tb cf N' j=iV tb cf N j:=by
 intro j hj;cases j with
 | ar k=>
  have a:k≠N.ys.length:=λe=>hj (by rw[e]);show rf _ _ _ N'.ys[k]?=rf _ _ _ N.ys[k]?;rw[h]
  congr 1
  rcases Nat.lt_or_gt_of_ne a with h1|h1
  ·rw[ze h1]
  ·rw[zV aE,zV O]
 | _=>exact hr _ (λk e=>by cases e)
theorem O3 {Y:gO}(h:N'.cs=N.cs++[Y])(hr:∀j,(∀k,j≠.ca k)->iV tb cf N' j=iV tb cf N j):∀j,j≠kF.ca N.cs.length->iV tb cf N' j=iV tb cf N j:=by
 intro j hj;cases j with
 | ca k=>
  have a:k≠N.cs.length:=λe=>hj (by rw[e]);show ri _ _ N'.cs[k]?=ri _ _ N.cs[k]?;rw[h]
  congr 1
  rcases Nat.lt_or_gt_of_ne a with h1|h1
  ·rw[ze h1]
  ·rw[zV aE,zV O]
 | _=>exact hr _ (λk e=>by cases e)
end Go.Ar
namespace Go.Ar
open Go Go.Vc Go.Proofs
variable {U u w w':Hp}{F B P Q:Rg}{n:Nat}{cs:List Value}{tb:List bZ}{cf:Cf}{N:nZ}
theorem Fe (p a t b r:Int):qY p a t b r=true↔(32<=p/\p<=1024/\p%16=0)/\(1<=a/\a<=4)/\(1<=t/\t<=4)/\(0<=b/\b<=65536)/\0<=r/\r<=8:=by
 simp only[qY,zF,zU,zT];omega
theorem An (g:Gl U)(gd:Gd U):iN (λb=>U.size<=b)/\¬(U.size<=1):=by
 refine⟨?_,λh=>by have:=BJ gd;omega⟩;have d:iN (λ_=>False):=λb a=>a.elim;exact(d.grow g).sub λb a=>.inr a
theorem Pt (cs:List gO)(ls:List Li):gM (cs.map λc=>⟨c,gA⟩) (List.replicate cs.length ⟨ls,[],none⟩)=pv cs:=by
 induction cs with
 | nil=>rfl
 | cons c cs ih=>
  have e1:gM ((c::cs).map λc=>(⟨c,gA⟩:eH)) (List.replicate (c::cs).length ⟨ls,[],none⟩)=jj (⟨c,gA⟩,⟨ls,[],none⟩)++gM (cs.map λc=>(⟨c,gA⟩:eH)) (List.replicate cs.length ⟨ls,[],none⟩):=rfl;rw[e1,ih];rfl
theorem MI (cs:List gO):(pv cs).length=cs.length*3:=by
 induction cs with
 | nil=>rfl
 | cons c cs ih=>simp only[pv,oY,zO,zY,lN]at *;omega
set_option maxRecDepth 8000 in
theorem Ao {s:Sl}{xs:List (Int×Int×Int)}(ha:ie U s xs)(g:Gl U)(gd:Gd U)(p a t b r:Int){R:Option Addr->Int->Hp->Prop}
 (h2:Qc xs=false->∀σ',bK U σ'->R none 2 σ')
 (h1:Qc xs=true->qY p a t b r=false->∀σ',bK U σ'->R none 1 σ')
 (h0:Qc xs=true->qY p a t b r=true->∀σ' L,bK U σ'->HH σ' (λq=>U.size<=q) L (VP (xs.map ZZ) ⟨p.toNat,a.toNat,t.toNat,b.toNat,r.toNat⟩)->R (some ⟨L.p,0,none⟩) 0 σ') :
 Kl.c s p a t b r U R:=by
 refine Kl.o ?_;unfold Kl.v;refine nw (cs:=[.int .i64 p,.int .i64 a,.int .i64 t,.int .i64 b,.int .i64 r]) λv hz e y=>?_;refine Ge (ZO ha e) λv1 e1=>?_;cases hv:Qc xs with
 | false=>exact cE rfl (h2 hv v1 (e.trans e1))
 | true=>
 have X:=e1.bT y id;refine cB rfl (X.rI rfl (X.rI rfl (X.rI rfl (X.rI rfl (X.rI rfl (On p a t b r λv2 e2=>?_))))));have ac:=(e.trans e1).trans e2;cases hc:qY p a t b r with
 | false=>exact cE rfl (h1 hv hc v2 ac)
 | true=>
 have hcf:=(Fe p a t b r).1 hc;obtain⟨p,rfl⟩:∃n:Nat,p=(n:Int):=⟨p.toNat,O⟩;obtain⟨a,rfl⟩:∃n:Nat,a=(n:Int):=⟨a.toNat,O⟩;obtain⟨t,rfl⟩:∃n:Nat,t=(n:Int):=⟨t.toNat,O⟩;obtain⟨b,rfl⟩:∃n:Nat,b=(n:Int):=⟨b.toNat,O⟩;obtain⟨r,rfl⟩:∃n:Nat,r=(n:Int):=⟨r.toNat,O⟩;simp only[dE]at h0;have h0:=h0 hv hc;have A:=e2.bT X id;have hxl:=(Z7 xs).1 hv;have hz2:=ac.1;have hz02:U.size<v2.size:=A.lt;generalize hcfd:(⟨p,a,t,b,r⟩:Cf)=cf at h0;generalize htbd:xs.map ZZ=tb at h0;have hdE:∀(q:Nat) (dD:Sl) (C:Nat),qE cf (N0 q dD C)=[.slice dD.a dD.len dD.cap,.int .i64 (p:Int),.int .i64 (a:Int),.int .i64 (t:Int),.int .i64 (b:Int),.int .i64 (r:Int),.pointer none,.slice none 0 0,.slice none 0 0,.map (some C)]:=λq dD C=>by rw[←hcfd];rfl
 refine cB rfl (AS (λvh w=>∃P q dD C,vh=some ⟨q,0,none⟩/\NK U (· = U.size) w P tb cf (N0 q dD C)/\bY w U.size [.int .i64 (p:Int),.int .i64 (a:Int),.int .i64 (t:Int),.int .i64 (b:Int),.int .i64 (r:Int)]) (λvh w ⟨P,q,dD,C,hvh,K,hbw⟩=>?_) λJ hJ=>?_)
 ·subst hvh;refine hbw.rI rfl (Jp (n:=p) O O λv4 sp e4 _ hS=>?_);have hp:cf.aF=p:=by rw[←hcfd]
  have hroom:cf.room=r:=by rw[←hcfd]
  have hbud:cf.dA=b:=by rw[←hcfd]
  have K1:NK U (· = U.size) v4 _ tb cf {N0 q dD C with hs:=some sp}:=K.put e4 .sp (λj M=>by cases j<;>first|rfl|exact absurd rfl M) (by
   show dK v4 _ sp (KZ cf.aF);rw[hp];exact hS)
  have hbw4:=e4.bT hbw id;refine aG (K1.sL (NB q dD C sp gA [] gA []) (λj M=>by cases j<;>first|rfl|exact absurd rfl M) rfl (i:=6) rfl O λv5 P5 K5 o5=>?_)
  have aj:∀{w:Hp} {P:Rg} {N:nZ},NK U (· = U.size) w P tb cf N->U.size≠N.p:=λK e=>(K.p _ K.wY.1).2.1 e.symm;have hbw5:=Ws o5 hbw4 (aj K1);refine hbw5.rI rfl ?_;refine ZY (a:=bN) (λ(z:Int) w=>∃(P:Rg) (aw:Sl) (ys:List Lay),z=(ys.length:Int)/\ys.length<=a/\(∀Y∈ys,Y.hs=sp)/\NK U (· = U.size) w P tb cf (NB q dD C sp aw ys gA [])/\bY w U.size [.int .i64 (p:Int),.int .i64 (a:Int),.int .i64 (t:Int),.int .i64 (b:Int),.int .i64 (r:Int)]) (λz _=>a-z.toNat) ⟨P5,gA,[],rfl,by simp,by simp,K5,hbw5⟩ ?_;rintro(z:Int) w6 ⟨P6,aw,ys,rfl,hyl,hys,K6,hbw6⟩;refine cQ (λhlt=>?_) λhge=>?_
  ·refine⟨λu=>u=w6,rfl,aG ⟨some ⟨sp,0,none⟩,λu hu=>by cases hu;rw[add_lit];exact(bY.cell (b:=q) K6.wY.2).trans rfl,⟨(r:Int),λu hu=>by cases hu;rw[add_lit,hbw6.cell];rfl,?_⟩⟩⟩;obtain⟨GS,hGS,hSp⟩:=K6.sep.get .sp;have hSp:dK w6 GS sp (KZ cf.aF):=hSp;have hnl:(KZ cf.aF).st.length=p:=by rw[hp];simp[KZ]
   have hnE:kN xs (KZ cf.aF).st.length (r:Int)=0:=by
    unfold kN;rw[zC hv,hnl,zC O]
   refine Oq (ZO ha K6.e) hSp (r:Int) (λhne=>absurd hnE hne) λ_ v7 Y e7 hYh hA=>?_;rw[hnl,dE,htbd]at hA;have K7:NK U (· = U.size) v7 _ tb cf {NB q dD C sp aw ys gA []with ys:=ys++[Y]}:=K6.put e7 (.ar ys.length) (RD (N:=NB q dD C sp aw ys gA []) rfl (λj M=>by
    cases j with
    | ar k=>exact absurd rfl (M k)
    | _=>rfl)) (by
    show rf cf.aF cf.room tb (ys++[Y])[ys.length]? v7 _;rw[zp (zD _),qt,hp,hroom];exact hA)
   have V:=e7.bT hbw6 id;refine aG (K7.wY.2.rS (a:=aw.a) (n:=aw.len) (c:=aw.cap) rfl (nw (cs:=[.pointer (some ⟨Y.p,0,none⟩)]) λv8 hz8 e8 hb8=>?_));have K8:=K7.box e8 hz8;obtain⟨G,hG,d,ak⟩:=K8.step .fL;have d:bR aw 1 (fJ (ys.map (·.p))) v8 G:=d;have hal:aw.len=ys.length:=by have:=d.1;simp[fJ]at this;omega
   refine d.app (ys:=[.pointer (some ⟨Y.p,0,none⟩)]) rfl rfl ?_ (by simp[dQ]) ?_ ?_ mO λs' v9 _ e9 hr9=>?_
   ·intro j u hu;rw[add_lit,zH,hb8.cell];exact hu
   ·simp only;omega
   ·simp only;omega
   have hz9:=e9.1;have hbw9:bY v9 U.size _:=e9.bT (e8.bT V id) λF=>(K8.p _ (hG _ F)).2.1 (.inl rfl);have K9:=(ak v9 {NB q dD C sp aw ys gA []with ys:=ys++[Y],aw:=s',al:=(ys++[Y]).map (·.p)} (λb=>Grow G v8 b/\b<v9.size) (λj M=>by cases j<;>first|rfl|exact absurd rfl M) e9 (λb y=>y.1.imp id λF=>⟨F,λhB=>by have:=(K8.b b hB).2;omega⟩) (by
    show bR s' 1 (fJ ((ys++[Y]).map (·.p))) v9 _;have:fJ ((ys++[Y]).map (·.p))=fJ (ys.map (·.p))++[.pointer (some ⟨Y.p,0,none⟩)]:=by simp[fJ]
    rw[this];exact aI.mono hr9 λb y F=>⟨F,y⟩) λb hB=>by have:=(K8.b b hB).2;omega).drop (B':=(· = U.size)) λb y=>.inl y
   refine aG (K9.sL (NB q dD C sp s' (ys++[Y]) gA []) (λj M=>by cases j<;>first|rfl|exact absurd rfl M) rfl (i:=7) rfl O λai P10 K10 gQ=>?_)
   have H:=Ws gQ hbw9 (aj K9);exact cP (m:=ys.length+1) O O ⟨⟨P10,s',ys++[Y],by simp,by simp;omega,λZ hZ=>(zK.1 hZ).elim (hys Z) λh=>by
    rw[zN]at h;rw[h];exact hYh,K10,H⟩,O⟩
  ·have hya:ys.length=a:=by omega
   refine hbw6.rI rfl ?_;refine ZY (a:=bN) (λ(z:Int) w=>∃(P:Rg) (tw:Sl) (cs:List gO),z=(cs.length:Int)/\cs.length<=t/\NK U (· = U.size) w P tb cf (NB q dD C sp aw ys tw cs)/\bY w U.size [.int .i64 (p:Int),.int .i64 (a:Int),.int .i64 (t:Int),.int .i64 (b:Int),.int .i64 (r:Int)]) (λz _=>t-z.toNat) ⟨P6,gA,[],rfl,by simp,K6,hbw6⟩ ?_;rintro(z:Int) w7 ⟨P7,tw,cs,rfl,hcsl,K7,V⟩;refine cQ (λhlt=>?_) λhge2=>?_
   ·refine V.rI rfl (IX (ZO ha K7.e) (b:Int) (λhvf=>by rw[hv]at hvf;cases hvf) (λ_ hn=>absurd ⟨O,O⟩ hn) λ_ _ _ v8 Y e8 hC=>?_);rw[dE,htbd]at hC;have K8:NK U (· = U.size) v8 _ tb cf {NB q dD C sp aw ys tw cs with cs:=cs++[Y]}:=K7.put e8 (.ca cs.length) (O3 (N:=NB q dD C sp aw ys tw cs) rfl (λj M=>by
     cases j with
     | ca k=>exact absurd rfl (M k)
     | _=>rfl)) (by
     show ri tb cf.dA (cs++[Y])[cs.length]? v8 _;rw[zp (zD _),qt,hbud];exact hC)
    have hbw8:=e8.bT V id;refine aG (K8.wY.2.rS (a:=tw.a) (n:=tw.len) (c:=tw.cap) rfl (nw (cs:=[.pointer (some ⟨Y.p,0,none⟩),.slice none 0 0,.nilIface]) λv9 hz9 e9 hb9=>?_));have K9:=K8.box e9 hz9;obtain⟨G,hG,d,ak⟩:=K9.step .cN;have d:bR tw 3 (pv cs) v9 G:=d;have hal:tw.len=cs.length:=by have:=d.1;rw[MI]at this;omega
    refine d.app (ys:=[.pointer (some ⟨Y.p,0,none⟩),.slice none 0 0,.nilIface]) rfl rfl ?_ (by simp[dQ]) ?_ ?_ mO λs' ai _ e10 hr10=>?_
    ·intro j u hu;rw[add_lit,zH,hb9.cell];exact hu
    ·simp only;omega
    ·simp only;omega
    have hz10:=e10.1;have H:bY ai U.size _:=e10.bT (e9.bT hbw8 id) λF=>(K9.p _ (hG _ F)).2.1 (.inl rfl);have K10:=(ak ai {NB q dD C sp aw ys tw cs with cs:=cs++[Y],tw:=s',tl:=pv (cs++[Y])} (λb=>Grow G v9 b/\b<ai.size) (λj M=>by cases j<;>first|rfl|exact absurd rfl M) e10 (λb y=>y.1.imp id λF=>⟨F,λhB=>by have:=(K9.b b hB).2;omega⟩) (by
     show bR s' 3 (pv (cs++[Y])) ai _;have:pv (cs++[Y])=pv cs++[.pointer (some ⟨Y.p,0,none⟩),.slice none 0 0,.nilIface]:=by simp[pv]
     rw[this];exact aI.mono hr10 λb y F=>⟨F,y⟩) λb hB=>by have:=(K9.b b hB).2;omega).drop (B':=(· = U.size)) λb y=>.inl y
    refine aG (K10.sL (NB q dD C sp aw ys s' (cs++[Y])) (λj M=>by cases j<;>first|rfl|exact absurd rfl M) rfl (i:=8) rfl O λv11 P11 K11 o11=>?_)
    have hbw11:=Ws o11 H (aj K10);exact cP (m:=cs.length+1) O O ⟨⟨P11,s',cs++[Y],by simp,by simp;omega,K11,hbw11⟩,O⟩
   ·have hct:cs.length=t:=by omega
    have S:cf.threads=cs.length:=by rw[←hcfd,hct]
    have ad:cf.gV=ys.length:=by rw[←hcfd,hya]
    have hN:=An g gd;refine h0 w7 ⟨q,sp,C,dD,aw,tw,ys,cs.map λc=>⟨c,gA⟩⟩ K7.e ⟨⟨?_,hys,?_,?_,?_,?_,?_,?_⟩,?_,g.bO K7.e,gd.bO K7.e,hN.1,hN.2⟩
    ·simp[VP,ad]
    ·simp[VP,S]
    ·simp[VP,ad];omega
    ·simp[VP,ad];omega
    ·simp[VP,S];omega
    ·simp[VP,S];omega
    ·intro B hB;have:=y6 hB;rw[this];rfl
    ·refine(Sep.loc CH.loc).mono (G:=λq=>U.size<=q) ?_ λb _ y=>y;obtain⟨ρ,hs⟩:=(Sep.loc iV.loc).mono K7.sep (G:=λq=>U.size<=q) λb _ y=>(K7.p b y).1;refine⟨ρ,λi=>?_⟩;have Q:=hs i;cases i with
     | hd=>exact Q
     | dD=>exact Q
     | sp=>exact Q
     | fL=>exact bR.gZ Q
     | cN=>
      show bR tw 3 (gM (cs.map λc=>⟨c,gA⟩) (List.replicate cf.threads ⟨List.replicate tb.length ib,[],none⟩)) w7 _;rw[S,Pt];exact Q
     | live=>exact Q
     | ar k=>
      show nJ ys[k]? (List.replicate cf.gV (fo cf.aF cf.room tb))[k]? w7 _;have Q:rf cf.aF cf.room tb ys[k]? w7 _:=Q;unfold nJ;by_cases hk:k<ys.length
      ·rw[mc,zC O,cV hk];rw[cV hk]at Q;exact Q
      ·rw[zV O];trivial
     | ca k=>
      show qH (cs.map λc=>(⟨c,gA⟩:eH))[k]? (List.replicate cf.threads (⟨List.replicate tb.length ib,[],none⟩:Th))[k]? tb cf.dA w7 _;have Q:ri tb cf.dA cs[k]? w7 _:=Q;unfold qH;by_cases hk:k<cs.length
      ·rw[mc,zC O,zd,cV hk];rw[cV hk]at Q;exact Q
      ·rw[zd,zV O];trivial
     | hn k=>
      show po (cs.map λc=>(⟨c,gA⟩:eH))[k]? (List.replicate cf.threads (⟨List.replicate tb.length ib,[],none⟩:Th))[k]? w7 _;unfold po;by_cases hk:k<cs.length
      ·rw[mc,zC O,zd,cV hk];exact ir.nil _ _ _
      ·rw[zd,zV O];trivial
 ·have rd:∀(i:Nat) (x:Int),[Value.int .i64 (p:Int),.int .i64 (a:Int),.int .i64 (t:Int),.int .i64 (b:Int),.int .i64 (r:Int)][i]?=some (.int .i64 x)->∀m,bY m U.size [.int .i64 (p:Int),.int .i64 (a:Int),.int .i64 (t:Int),.int .i64 (b:Int),.int .i64 (r:Int)]->cell m (Addr.add ⟨U.size,0,none⟩ i)=some (.int .i64 x):=λi x F m hm=>by
   rw[add_lit,hm.cell,zH];exact F
  refine⟨λm=>bY m U.size [.int .i64 (p:Int),.int .i64 (a:Int),.int .i64 (t:Int),.int .i64 (b:Int),.int .i64 (r:Int)],A,⟨(p:Int),rd 0 _ rfl,⟨(a:Int),rd 1 _ rfl,⟨(t:Int),rd 2 _ rfl,⟨(b:Int),rd 3 _ rfl,⟨(r:Int),rd 4 _ rfl,⟨?_,?_⟩⟩⟩⟩⟩⟩⟩
  ·refine VN (ZO ha ac) hv λdD v16 ab E=>⟨ab.bT A id,sJ λv17 z17 ah hm=>⟨ah.bT (ab.bT A id) id,?_⟩⟩;rw[htbd]at E;have hz16:=ab.1;refine nw (cs:=[.slice dD.a dD.len dD.cap,.int .i64 (p:Int),.int .i64 (a:Int),.int .i64 (t:Int),.int .i64 (b:Int),.int .i64 (r:Int),.pointer none,.slice none 0 0,.slice none 0 0,.map (some v16.size)]) λv18 z18 ae hb18=>⟨ae.bT (ah.bT (ab.bT A id) id) id,hJ _ _ ⟨_,v17.size,dD,v16.size,rfl,Cp (D:=λq=>v2.size<=q/\q<v16.size) (((ac.trans ab).trans ah).trans ae) O (by rw[hdE];exact hb18) (ae.fO (hm .i64 (.ag 4)) id) ?_ (λb y=>O) O O O,ae.bT (ah.bT (ab.bT A id) id) id⟩⟩;exact aH.bO (aH.bO (aH.mono E (G:=λq=>v2.size<=q/\q<v16.size) λb y F=>⟨F,y⟩) ah) ae
  ·refine sJ λv19 z19 aa hm=>⟨aa.bT A id,VN (ZO ha (ac.trans aa)) hv λdD v20 W E=>⟨W.bT (aa.bT A id) id,?_⟩⟩;rw[htbd]at E;have hz20:=W.1;refine nw (cs:=[.slice dD.a dD.len dD.cap,.int .i64 (p:Int),.int .i64 (a:Int),.int .i64 (t:Int),.int .i64 (b:Int),.int .i64 (r:Int),.pointer none,.slice none 0 0,.slice none 0 0,.map (some v2.size)]) λv21 z21 af hb21=>⟨af.bT (W.bT (aa.bT A id) id) id,hJ _ _ ⟨_,v20.size,dD,v2.size,rfl,Cp (D:=λq=>v19.size<=q/\q<v20.size) (((ac.trans aa).trans W).trans af) O (by rw[hdE];exact hb21) (af.fO (W.fO (hm .i64 (.ag 4)) id) id) ?_ (λb y=>O) O O O,af.bT (W.bT (aa.bT A id) id) id⟩⟩;exact aH.bO (aH.mono E (G:=λq=>v19.size<=q/\q<v20.size) λb y F=>⟨F,y⟩) af
end Go.Ar
namespace Go.Ar
open Go Go.Vc Go.Proofs
variable {U u w w':Hp}{F B P Q:Rg}{L:dM}{H:Hw}{t:Nat}{g:Th}
theorem RS (u:Value){R:ByteArray->Hp->Prop}(h:Wc Tryz.prog 346 #[u] [.one .str] U R):iM Tryz.prog (.iface 218 u) "freehold/heap.name" [] [.one .str] U R :=
 ⟨218,u,346,rfl,λw=>by kernel_rfl,λxs w=>by kernel_rfl,h⟩
theorem Jf (u:Value){R:ByteArray->Hp->Prop}(h:Wc Tryz.prog 350 #[u] [.one .str] U R):iM Tryz.prog (.iface 228 u) "freehold/heap.name" [] [.one .str] U R :=
 ⟨228,u,350,rfl,λw=>by kernel_rfl,λxs w=>by kernel_rfl,h⟩
theorem ME (u:Value){R:ByteArray->Hp->Prop}(h:Wc Tryz.prog 352 #[u] [.one .str] U R):iM Tryz.prog (.iface 231 u) "freehold/heap.name" [] [.one .str] U R :=
 ⟨231,u,352,rfl,λw=>by kernel_rfl,λxs w=>by kernel_rfl,h⟩
theorem J5 (u:Value){R:ByteArray->Hp->Prop}(h:Wc Tryz.prog 353 #[u] [.one .str] U R):iM Tryz.prog (.iface 233 u) "freehold/heap.name" [] [.one .str] U R :=
 ⟨233,u,353,rfl,λw=>by kernel_rfl,λxs w=>by kernel_rfl,h⟩
theorem J9 (u:Value){R:ByteArray->Hp->Prop}(h:Wc Tryz.prog 351 #[u] [.one .str] U R):iM Tryz.prog (.iface 230 u) "freehold/heap.name" [] [.one .str] U R :=
 ⟨230,u,351,rfl,λw=>by kernel_rfl,λxs w=>by kernel_rfl,h⟩
theorem F4 (u:Value){R:ByteArray->Hp->Prop}(h:Wc Tryz.prog 347 #[u] [.one .str] U R):iM Tryz.prog (.iface 220 u) "freehold/heap.name" [] [.one .str] U R :=
 ⟨220,u,347,rfl,λw=>by kernel_rfl,λxs w=>by kernel_rfl,h⟩
theorem Nu (u:Value){R:ByteArray->Hp->Prop}(h:Wc Tryz.prog 348 #[u] [.one .str] U R):iM Tryz.prog (.iface 222 u) "freehold/heap.name" [] [.one .str] U R :=
 ⟨222,u,348,rfl,λw=>by kernel_rfl,λxs w=>by kernel_rfl,h⟩
theorem RL (u:Value){R:ByteArray->Hp->Prop}(h:Wc Tryz.prog 354 #[u] [.one .str] U R):iM Tryz.prog (.iface 238 u) "freehold/heap.name" [] [.one .str] U R :=
 ⟨238,u,354,rfl,λw=>by kernel_rfl,λxs w=>by kernel_rfl,h⟩
theorem JI (u:Value){R:ByteArray->Hp->Prop}(h:Wc Tryz.prog 355 #[u] [.one .str] U R):iM Tryz.prog (.iface 241 u) "freehold/heap.name" [] [.one .str] U R :=
 ⟨241,u,355,rfl,λw=>by kernel_rfl,λxs w=>by kernel_rfl,h⟩
theorem Mu (u:Value){R:ByteArray->Hp->Prop}(h:Wc Tryz.prog 356 #[u] [.one .str] U R):iM Tryz.prog (.iface 245 u) "freehold/heap.name" [] [.one .str] U R :=
 ⟨245,u,356,rfl,λw=>by kernel_rfl,λxs w=>by kernel_rfl,h⟩
theorem MZ (u:Value){R:ByteArray->Hp->Prop}(h:Wc Tryz.prog 349 #[u] [.one .str] U R):iM Tryz.prog (.iface 224 u) "freehold/heap.name" [] [.one .str] U R :=
 ⟨224,u,349,rfl,λw=>by kernel_rfl,λxs w=>by kernel_rfl,h⟩
def nD (s:ByteArray):Prop:=(s.toList==(ByteArray.mk #[]).toList)=false
theorem Rs (p:Ph){R:ByteArray->Hp->Prop}(hR:∀s σ',bK U σ'->nD s->R s σ'):iM Tryz.prog (mE (some p)) "freehold/heap.name" [] [.one .str] U R := by
 cases p with
 | take k=>
  refine RS _ (ZK.o ?_);unfold ZK.v;exact nw (cs:=[.int .i64 (k:Int)]) λv hz e hb=>hR _ v e (by unfold nD;decide +kernel)
 | cH k w=>
  refine Jf _ (YP.o ?_);unfold YP.v;exact nw (cs:=[.int .i64 (k:Int),.int .i64 (w:Int)]) λv hz e hb=>hR _ v e (by unfold nD;decide +kernel)
 | cJ k w=>
  refine ME _ (Zc.o ?_);unfold Zc.v;exact nw (cs:=[.int .i64 (k:Int),.int .i64 (w:Int)]) λv hz e hb=>hR _ v e (by unfold nD;decide +kernel)
 | grow k w=>
  refine J5 _ (ZJ.o ?_);unfold ZJ.v;exact nw (cs:=[.int .i64 (k:Int),.int .i64 (w:Int)]) λv hz e hb=>hR _ v e (by unfold nD;decide +kernel)
 | fill=>
  refine J9 _ (ZI.o ?_);unfold ZI.v;exact nw (cs:=[]) λv hz e hb=>hR _ v e (by unfold nD;decide +kernel)
 | eD m=>
  refine F4 _ (Zz.o ?_);unfold Zz.v;exact nw (cs:=[.int .i64 (m:Int)]) λv hz e hb=>hR _ v e (by unfold nD;decide +kernel)
 | find x=>
  refine Nu _ (ZM.o ?_);unfold ZM.v;exact nw (cs:=[.int .i64 x]) λv hz e hb=>hR _ v e (by unfold nD;decide +kernel)
 | put k x=>
  refine RL _ (ZX.o ?_);unfold ZX.v;exact nw (cs:=[.int .i64 (k:Int),.int .i64 x]) λv hz e hb=>hR _ v e (by unfold nD;decide +kernel)
 | back=>
  refine JI _ (ZH.o ?_);unfold ZH.v;exact nw (cs:=[]) λv hz e hb=>hR _ v e (by unfold nD;decide +kernel)
 | dC s a=>
  refine Mu _ (ZL.o ?_);unfold ZL.v;exact nw (cs:=[.int .i64 s,.int .i64 a]) λv hz e hb=>hR _ v e (by unfold nD;decide +kernel)
 | drain=>
  refine MZ _ (ZA.o ?_);unfold ZA.v;exact nw (cs:=[]) λv hz e hb=>hR _ v e (by unfold nD;decide +kernel)
def VZ (H:Hw)(thread:Int):Option Ph:=if 0<=thread/\thread<(H.bQ.length:Int)then(match H.bQ[thread.toNat]? with
 | some g=>g.ph
 | none=>none)else none
theorem RB (h:HH U F L H)(thread:Int){R:ByteArray->Hp->Prop}(hR:∀s σ',bK U σ'->(s.toList==(ByteArray.mk #[]).toList)=(VZ H thread).isNone->R s σ'):Y6.c (aW L.p) thread U R:=by
 refine Y6.o ?_;unfold Y6.v;have d:VZ H thread=none->R (ByteArray.mk #[]) U:=λi=>hR _ U (Ext.refl _ _) (by rw[i];decide +kernel);refine Un h (KE (λr w=>w=U/\r = !decide (0<=thread/\thread<(H.bQ.length:Int))) (λr w ⟨y,A⟩=>?_) λJ C=>cB rfl (AJ h thread (C _ _ ⟨rfl,rfl⟩)));subst y;refine KE (λr B=>B=w/\r=(VZ H thread).isNone) (λr B ⟨y,b⟩=>?_) λJ1 m=>?_
 ·rw[y];cases i:VZ H thread with
  | none=>rw[i]at b;exact cE (by rw[b];rfl) (d i)
  | some p=>
   rw[i]at b;have a:=i;unfold VZ at a;split at a
   ·rename_i hth;obtain⟨t,rfl⟩:∃t:Nat,thread=(t:Int):=⟨thread.toNat,O⟩;have u:t<H.bQ.length:=by omega
    obtain⟨x,g,z,j⟩:=h.th u;rw[dE,j]at a;simp only at a;refine cB (by rw[b];rfl) (aG (h.hd.rS rfl (h.tR z j ?_)));rw[a];exact Rs p λs σ' e u=>hR s σ' e (by rw[i];exact u)
   ·cases a
 ·by_cases hth:0<=thread/\thread<(H.bQ.length:Int)
  ·obtain⟨t,rfl⟩:∃t:Nat,thread=(t:Int):=⟨thread.toNat,O⟩;have u:t<H.bQ.length:=by omega
   obtain⟨x,g,z,j⟩:=h.th u;refine cB (by rw[A,zJ hth];rfl) (aG (h.hd.rS rfl (h.tR z j ⟨tK _,m _ _ ⟨rfl,?_⟩⟩)));rw[Gz];unfold VZ;rw[zC hth,dE,j]
  ·refine cE (by rw[A,zM hth];rfl) (m _ _ ⟨rfl,?_⟩);unfold VZ;rw[zB hth];rfl
def lj (H:Hw):Prop:=1<=H.cf.aF/\H.cf.threads=H.bQ.length/\mo H.tb
end Go.Ar
namespace Go.Ar
open Go Go.Vc Go.Proofs
open Go.Bu (eW)
variable {U u w w':Hp}{F B P Q:Rg}{L:dM}{H H':Hw}{t:Nat}{g:Th}
def V1 (H:Hw)(thread kind size align addr:Int)(H':Hw)(a e:Int):Prop:=
 (Kc H thread kind size align addr=.inl e/\e≠0/\H'=H/\a=0)\/∃t p n,Kc H thread kind size align addr=.inr (t,p)/\iz n (eN H t (some p)) t p H' a e
theorem Cm (hso:H4)(h:HH U F L H)(hv:mo H.tb){thread kind size align addr:Int}{a e:Int}(hw:V1 H thread kind size align addr H' a e){R:Int->Int->Hp->Prop}
 (hR:∀σ' ts',Ext F U σ'->HH σ' (Grow F U) {L with ts:=ts'} H'->R a e σ'):XT.c (aW L.p) thread kind size align addr U R:=by
 rcases hw with⟨hs,hne,rfl,rfl⟩|⟨t,p,n,hs,hr⟩
 ·exact E8 hso h hv thread kind size align addr (λi b _ σ' g d=>by
   rw[hs]at b;cases b;exact hR σ' L.ts g d) λt p b=>by rw[hs]at b;cases b
 ·exact E8 hso h hv thread kind size align addr (λi b=>by rw[hs]at b;cases b) λm j b=>by
   rw[hs]at b;cases b;exact⟨n,H',a,e,hr,hR⟩
theorem Sd (hso:H4)(h:HH U F L H)(hv:mo H.tb){thread size align:Int}{a e:Int}(hw:V1 H thread 0 size align 0 H' a e){R:Int->Int->Hp->Prop}
 (hR:∀σ' ts',Ext F U σ'->HH σ' (Grow F U) {L with ts:=ts'} H'->R a e σ'):YN.c (aW L.p) thread size align U R:=by
 refine YN.o ?_;unfold YN.v;exact Cm hso h hv hw hR
theorem RR (hso:H4)(h:HH U F L H)(hv:mo H.tb){thread addr:Int}{a e:Int}(hw:V1 H thread 1 0 0 addr H' a e){R:aN}
 (hR:∀σ' ts',Ext F U σ'->HH σ' (Grow F U) {L with ts:=ts'} H'->R e σ'):Zh.c (aW L.p) thread addr U R:=by
 refine Zh.o ?_;unfold Zh.v;exact Cm hso h hv hw hR
def Qr (H' H:Hw):Prop:=H'.tb=H.tb/\H'.cf=H.cf/\H'.bQ.length=H.bQ.length/\H'.bX.length=H.bX.length
theorem Qr.refl (H:Hw):Qr H H:=⟨rfl,rfl,rfl,rfl⟩
theorem Qr.trans {H1 H2 H3:Hw}(a:Qr H2 H1)(b:Qr H3 H2):Qr H3 H1:=⟨b.1.trans a.1,b.2.1.trans a.2.1,b.2.2.1.trans a.2.2.1,b.2.2.2.trans a.2.2.2⟩
theorem Kx (H:Hw)(t:Nat)(f:Th->Th):Qr (H.dU t f) H:=⟨rfl,rfl,by simp[Hw.dU],rfl⟩
theorem Kz (H:Hw)(k:Nat)(A:AR)(sp:Sp):Qr {H.cC k A with sp:=sp} H:=⟨rfl,rfl,rfl,by simp[Hw.cC]⟩
theorem Re (H:Hw)(k:Nat)(part:Nat->List Int)(j:Nat):Qr (KN H k part (List.range j)) H:=by
 induction j with
 | zero=>exact Qr.refl H
 | succ j ih=>
  rw[KU];split
  ·split
   ·exact ih
   ·exact ih.trans (Kz _ _ _ _)
  ·exact ih
theorem Ns (H:Hw)(own k:Nat)(xs:List Int):Qr (Hr H own k xs) H:=by
 unfold Hr;split
 ·split
  ·exact Kz _ _ _ H.sp
  ·refine Qr.trans ?_ (Re _ _ _ _);split
   ·exact Kz _ _ _ H.sp
   ·exact Qr.refl H
 ·exact Qr.refl H
theorem Rv (H:Hw)(t k:Nat)(x:Int):Qr (ik H t k x) H:=by
 unfold ik;simp only;split<;>split<;>exact⟨rfl,rfl,by simp[Hw.dU,QF],rfl⟩
theorem Ru (H:Hw)(t:Nat)(p:Ph):Qr (Wt H t p).1 H:=by
 cases p with
 | take k=>simp only[Wt];split<;>exact⟨rfl,rfl,by simp[Vk,QF,Hw.dU,Hw.cC],by simp[Vk,QF,Hw.dU,Hw.cC]⟩
 | cH k w=>
  simp only[Wt];split
  ·split
   ·exact(Kz _ _ _ H.sp).trans (Kx _ _ _)
   ·exact Qr.refl H
  ·exact Qr.refl H
 | cJ k w=>
  simp only[Wt];split
  ·exact Kz _ _ _ H.sp
  ·exact(Kz _ _ _ H.sp).trans (Kx _ _ _)
 | grow k w=>simp only[Wt];split<;>exact Kz _ _ _ _
 | fill=>
  simp only[Wt];split
  ·exact⟨rfl,rfl,by simp[Vk,QF,Hw.dU,Hw.cC],by simp[Vk,QF,Hw.dU,Hw.cC]⟩
  ·exact Qr.refl H
 | eD m=>simp only[Wt];split<;>exact⟨rfl,rfl,by simp[Vk,QF,Hw.dU,Hw.cC],by simp[Vk,QF,Hw.dU,Hw.cC]⟩
 | find x=>
  simp only[Wt,UJ];split
  ·exact Qr.refl H
  ·split
   ·exact⟨rfl,rfl,rfl,rfl⟩
   ·exact Qr.trans (H2:={H with live:=Go.Vc.cT H.live x}) ⟨rfl,rfl,rfl,rfl⟩ (Kx _ _ _)
 | put k x=>exact Rv H t k x
 | back=>
  simp only[Wt];split
  ·exact(Kx _ _ _).trans (Ns _ _ _ _)
  ·exact Qr.refl H
 | dC s a=>
  simp only[Wt];split
  ·exact Kz _ _ _ H.sp
  ·exact Qr.refl H
 | drain=>exact Kx _ _ _
theorem Ug (H:Hw)(t:Nat)(p:Ph):Qr (Qq H t p) H:=(Ru H t p).trans (Kx _ _ _)
theorem FL {n:Nat}{H H':Hw}{t:Nat}{p:Ph}{a e:Int}(h:iz n H t p H' a e):Qr H' H:=by
 induction h with
 | done=>exact Ug _ _ _
 | next _ _ _ ih=>exact(Ug _ _ _).trans ih
theorem lj.bS (h:lj H)(k:Qr H' H):lj H':=⟨by rw[k.2.1];exact h.1,by rw[k.2.1,k.2.2.1];exact h.2.1,by rw[k.1];exact h.2.2⟩
end Go.Ar