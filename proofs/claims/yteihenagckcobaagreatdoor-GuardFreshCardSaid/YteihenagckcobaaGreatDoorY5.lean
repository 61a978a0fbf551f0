/- Texts joined. -/
import Derived.Test.YteihenagckcobaaGreatDoorY4
set_option linter.unusedVariables false
set_option linter.unusedSimpArgs false
namespace Go.Proofs
open Go.Vc
set_option maxRecDepth 100000
def Xx.h:Hn:=.q .o2 (.q (.q .o3 .aJ) (.q (.o 12) (.q (.q .o2 .aJ) (.q .o4 .l))))
def Xx.v (a:R2)(b:Int)(c:Hp)(d:Int->Int->Hp->Prop):Prop:=Xr.c a c λe f=>If (!e) (d 0 5 f) (bI a 9 f λh=>Lk .i64 (.ag 4) h b f λi=>aV #[.I 0,.I 0,.I 0,.I 0] 112 f λj k=>aR j 0 (.I ((i.getD (0,0,0,0)).1)) k λl=>aR j 1 (.I ((i.getD (0,0,0,0)).2.1)) l λm=>aR j 2 (.I ((i.getD (0,0,0,0)).2.2.1)) m λn=>aR j 3 (.I ((i.getD (0,0,0,0)).2.2.2)) n λo=>If (!i.isSome) (d 0 8 o) (aQ j 1 o λp=>d p 0 o))
theorem Xx.o {a b c d}(e:Xx.v a b c d):Xx.c a b c d:=Wa Tryz.func25 (x:=Xx.h) (R0 e)
def Xd.h:Hn:=.q .o1 (.q .o6 .l)
def Xd.v (a:R2)(b c:Int)(d:Hp)(e:aN):Prop:=Yy.c a d λf g=>Yo.c f b c g λh i=>e h i
theorem Xd.o {a b c d e}(f:Xd.v a b c d e):Xd.c a b c d e:=Wa Tryz.func27 (x:=Xd.h) (R0 f)
def YJ.h:Hn:=.q .o2 (.q .gQ .l)
def YJ.v (a:R2)(b c d:Int)(e:Hp)(f:Int->Int->Hp->Prop):Prop:=Ya.c a b 0 c d 0 e λg h i=>f g h i
theorem YJ.o {a b c d e f}(g:YJ.v a b c d e f):YJ.c a b c d e f:=Wa Tryz.func43 (x:=YJ.h) (R0 g)
def YN.h:Hn:=.q .o2 (.q .o8 .l)
def YN.v (a:R2)(b:Int)(c:Hp)(d:Int->Int->Hp->Prop):Prop:=Yy.c a c λe f=>YI.c e b f λg h i=>d g h i
theorem YN.o {a b c d}(e:YN.v a b c d):YN.c a b c d:=Wa Tryz.func49 (x:=YN.h) (R0 e)
def Xr.h:Hn:=.q .o1 (.q (.cR (.seq [.op,.op,.op,.cU true 6 (RI.ops 6),.op])) .l)
def Xr.v (a:R2)(b:Hp)(c:aO):Prop:=bV (λd e=>c d e) λf=>If (!a.isNone) (bE a 8 b λh=>f (decide (((h.len:Nat):Int)>0)) b) (f false b)
theorem Xr.o {a b c}(d:Xr.v a b c):Xr.c a b c:=Wa Tryz.func58 (x:=Xr.h) (R0 d)
def Yy.h:Hn:=.q .o1 (.q (.q .o3 .aK) (.q .o5 .l))
def Yy.v (a:R2)(b:Hp)(c:Option Addr->Hp->Prop):Prop:=Xr.c a b λd e=>If (!d) (c none e) (bF a 6 e λg=>c g e)
theorem Yy.o {a b c}(d:Yy.v a b c):Yy.c a b c:=Wa Tryz.func61 (x:=Yy.h) (R0 d)
def Zg.h:Hn:=.q .o1 (.q .gQ .aL)
def Zg.v (a:R2)(b c:Int)(d:Hp)(e:aN):Prop:=Ya.c a b 1 0 0 c d λf g h=>e g h
theorem Zg.o {a b c d e}(f:Zg.v a b c d e):Zg.c a b c d e:=Wa Tryz.func70 (x:=Zg.h) (R0 f)
def YS.h:Hn:=.q .o2 (.q (.k (.q .o4 (.c .aM (.q .o5 (.c .aM (.q .gQ .aK)))))) (.q .o4 (.q (.q .o2 .aK) (.q .o9 .aM))))
def YS.v (a:R2)(b c d e f:Int)(g:Hp)(h:aN):Prop:=aV #[.I c,.I d,.I e,.I f] 123 g λi j=>Xr.c a j λk l=>If (!k) (h 5 l) (XY.c a b l λm n=>If (!m) (h 1 n) (bE a 8 n λp=>Ix p.a p.len b 3 λq=>bA q 2 n λr=>And (iR r) <| If (!(kq r)) (h 5 n) (aQ i 0 n λs=>aQ i 1 n λt=>aQ i 2 n λu=>aQ i 3 n λv=>Yg.c a s t u v n λw x=>And (iR w) <| If (kq w) (h 1 x) (bE a 8 x λz=>Ix z.a z.len b 3 λaa=>And (iR w) <| aR aa 2 (w) x λab=>h 0 ab))))
theorem YS.o {a b c d e f g h}(i:YS.v a b c d e f g h):YS.c a b c d e f g h:=Wa Tryz.func72 (x:=YS.h) (R0 i)
def Y1.h:Hn:=.q .o3 (.q (.k (.q .o4 (.c (.q .o4 .l) (.q .o5 (.c (.q .o4 .l) (.q .gQ (.c (.q .o4 .l) .l))))))) (.q (.o 17) (.q .o9 (.q (.cR (.tail 4 (RI.ops 4) [.op,.op])) .l))))
def Y1.v (a:R2)(b:Int)(c:Hp)(d:Bool->Int->Int->Int->Hp->Prop):Prop:=aV #[.I 0,.I 0] 125 c λe f=>Xr.c a f λg h=>If (!g) (aR e 0 (.I 0) h λi=>aR e 1 (.I 0) i λj=>aQ e 0 j λk=>aQ e 1 j λl=>d false k l 5 j) (XY.c a b h λm n=>If (!m) (aR e 0 (.I 0) n λo=>aR e 1 (.I 0) o λp=>aQ e 0 p λq=>aQ e 1 p λr=>d false q r 1 p) (bE a 8 n λt=>Ix t.a t.len b 3 λu=>bA u 2 n λv=>And (iR v) <| If (kq v) (aR e 0 (.I 0) n λw=>aR e 1 (.I 0) w λx=>aQ e 0 x λy=>aQ e 1 x λz=>d false y z 5 x) (bE a 8 n λab=>Ix ab.a ab.len b 3 λac=>bA ac 2 n λad=>Zj.c a b (ad) n λae af ag ah=>aV #[.I 0,.I 0] 125 ah λai aj=>aR ai 0 (.I af) aj λak=>aR ai 1 (.I ag) ak λal=>bE a 8 al λan=>Ix an.a an.len b 3 λao=>And (iR ae) <| aR ao 2 (ae) al λap=>And (iR ae) <| aQ ai 0 ap λaq=>aQ ai 1 ap λar=>aR e 0 (.I aq) ap λau=>aR e 1 (.I ar) au λav=>aQ e 0 av λaw=>aQ e 1 av λax=>d (kq ae) aw ax 0 av)))
theorem Y1.o {a b c d}(e:Y1.v a b c d):Y1.c a b c d:=Wa Tryz.func73 (x:=Y1.h) (R0 e)
def Ya.h:Hn:=.q .o3 (.q (.q .o5 (.q .o2 (.c (.q .o3 .l) .l))) (.k (.loop [] (.k (.q (.o 11) (.q .o1 (.c (.q (.oq 6) .l) .l)))))))
def Ya.v (a:R2)(b c d e f:Int)(g:Hp)(h:Int->Int->Hp->Prop):Prop:=aV #[.I c,.I d,.I e,.I f] 123 g λi j=>aQ i 0 j λk=>aQ i 1 j λl=>aQ i 2 j λm=>aQ i 3 j λn=>YS.c a b k l m n j λo p=>If (o != 0) (h 0 o p) (Yp [] (λq=>q p) λr s=>Y1.c a b s λt u v w x=>aV #[.I 0,.I 0] 125 x λy z=>aR y 0 (.I u) z λaa=>aR y 1 (.I v) aa λab=>If t (aQ y 0 ab λac=>aQ y 1 ab λad=>h ac ad ab) (r ab))
theorem Ya.o {a b c d e f g h}(i:Ya.v a b c d e f g h):Ya.c a b c d e f g h:=Wa Tryz.func81 (x:=Ya.h) (R0 i)
def X1.h:Hn:=.q .o1 (.q (.q .o3 .aJ) (.q .o5 .l))
def X1.v (a:R2)(b:Hp)(c:Int->Int->Int->Int->Int->Hp->Prop):Prop:=aV #[.I 0,.I 0,.I 0,.I 0,.I 0] 23 b λd e=>Xr.c a e λf g=>If (!f) (aR d 0 (.I 0) g λh=>aR d 1 (.I 0) h λi=>aR d 2 (.I 0) i λj=>aR d 3 (.I 0) j λk=>aR d 4 (.I 0) k λl=>aQ d 0 l λm=>aQ d 1 l λn=>aQ d 2 l λo=>aQ d 3 l λp=>aQ d 4 l λq=>c m n o p q l) (bU a λr=>bM ((r.add 1).add 0) g λs=>bM ((r.add 1).add 1) g λt=>bM ((r.add 1).add 2) g λu=>bM ((r.add 1).add 3) g λv=>bM ((r.add 1).add 4) g λw=>aR d 0 (.I s) g λx=>aR d 1 (.I t) x λy=>aR d 2 (.I u) y λz=>aR d 3 (.I v) z λaa=>aR d 4 (.I w) aa λab=>aQ d 0 ab λac=>aQ d 1 ab λad=>aQ d 2 ab λae=>aQ d 3 ab λaf=>aQ d 4 ab λag=>c ac ad ae af ag ab)
theorem X1.o {a b c}(d:X1.v a b c):X1.c a b c:=Wa Tryz.func92 (x:=X1.h) (R0 d)
def Kn.h:Hn:=.q .o3 (.q (.k (.q .o4 (.c .aL (.q .o4 .aJ)))) (.q (.cR (.hO true [] [(6,.one .p)] (.take 0 (.take 2 (.all [(1,.all [(3,.take 4 (.all [(5,.take 6 (.done))]))]),(3,.all [(1,.take 4 (.all [(5,.take 6 (.done))]))])]))))) (.q .gQ (.q (.q .o3 (.k (.loop [(36,.I)] (.q .o1 (.q (.c .l .l) (.q (.k (.q (.cR (.held true [7] (.take 0 (.take 1 (.take 2 (.take 3 (.take 4 (.take 5 (.take 6 (.all [(7,.take 8 (.take 9 (.take 10 (.take 11 (.take 12 (.done))))))])))))))))) (.o 11))) .o2)))))) (.q (.q .o3 (.k (.loop [(62,.I)] (.q .o1 (.q (.c .l .l) (.q (.k (.q .o9 (.o 12))) .o2)))))) (.q .o3 .l))))))
def Kn.v (a:Sl)(b c d e f:Int)(g:Hp)(h:Option Addr->Int->Hp->Prop):Prop:=aV #[.I b,.I c,.I d,.I e,.I f] 23 g λi j=>Zs.c a j λk l=>If (!k) (h none 2 l) (aQ i 0 l λm=>aQ i 1 l λn=>aQ i 2 l λo=>aQ i 3 l λp=>aQ i 4 l λq=>Qi.c m n o p q l λr s=>If (!r) (h none 1 s) (Jn [.p] (λ(t:R2) u=>aQ i 0 u λv=>QI.c v u λw x y=>bU t λz=>aR z 6 (.pointer w) y λaa=>aQ i 1 aa λab=>Yp [bN] (λac=>ac 0 aa) λad (ae:Int) af=>If (ae<ab) (eO af λag=>bU t λah=>aU ag ah 6 λai=>aS ag i 4 λaj=>QK.c a ai aj af λak al am=>bE t 7 am λao=>aV #[.pointer ak] 138 am λap aq=>App ao 1 8 138 [.pointer none] ⟨some ap,1,1⟩ aq λar au=>bU t λav=>aR av 7 (.slice ar.a ar.len ar.cap) au λaw=>bL (ae+1) λax=>ad ax aw) (aQ i 2 af λay=>Yp [bN] (λaz=>az 0 af) λa0 (a1:Int) a2=>If (a1<ay) (aQ i 3 a2 λa3=>QL.c a a3 a2 λa4 a5 a6=>bE t 8 a6 λa8=>aV #[.pointer a4,.slice none 0 0,.nilIface] 133 a6 λa9 ba=>App a8 3 48 133 [.pointer none,.slice none 0 0,.nilIface] ⟨some a9,1,1⟩ ba λbb bc=>bU t λbd=>aR bd 8 (.slice bb.a bb.len bb.cap) bc λbe=>bL (a1+1) λbf=>a0 bf be) (h t 0 a2))) λbg=>eO s λbh=>aS bh i 0 λbi=>aS bh i 1 λbj=>
 aS bh i 2 λbk=>aS bh i 3 λbl=>aS bh i 4 λbm=>(Wi.c a s λbn bo=>And (bh bo) <| Nw (.map #[] 0) bo λbp bq=>And (bh bq) <| aV #[.slice bn.a bn.len bn.cap,.I bi,.I bj,.I bk,.I bl,.I bm,.pointer none,.slice none 0 0,.slice none 0 0,.map (some bp.block)] 81 bq λbr bs=>And (bh bs) <| bg (some br) bs) ∧ (Nw (.map #[] 0) s λbt bu=>And (bh bu) <| Wi.c a bu λbv bw=>And (bh bw) <| aV #[.slice bv.a bv.len bv.cap,.I bi,.I bj,.I bk,.I bl,.I bm,.pointer none,.slice none 0 0,.slice none 0 0,.map (some bt.block)] 81 bw λbx bz=>And (bh bz) <| bg (some bx) bz)))
theorem Kn.o {a b c d e f g h}(i:Kn.v a b c d e f g h):Kn.c a b c d e f g h:=Wa Tryz.func101 (x:=Kn.h) (R0 i)
def XY.h:Hn:=.q .o1 (.q (.cR (.seq [.op,.op,.op,.cU true 7 (RI.ops 7),.op])) .l)
def XY.v (a:R2)(b:Int)(c:Hp)(d:aO):Prop:=bV (λe f=>d e f) λg=>If (b≥0) (bE a 8 c λi=>g (decide (b<((i.len:Nat):Int))) c) (g false c)
theorem XY.o {a b c d}(e:XY.v a b c d):XY.c a b c d:=Wa Tryz.func102 (x:=XY.h) (R0 e)
def Yg.h:Hn:=.q .o2 (.q (.q .o2 (.k (.q .o2 (.c (.q (.q (.cR (.seq [.op,.op,.op,.op,.cU false 3 (RI.ops 3)])) .aK) (.q (.cR (.held true [8] (.tk [0,1,2,3,4,5,6,7] (.all [(8,.tk [9,10,11,12,13] (.done))])))) (.q .o1 (.k (.q .o2 (.c (.q .o4 .l) (.q .o2 (.c (.q .o8 .l) .l)))))))) (.q .o2 (.c (.q .o5 .l) (.q .o2 (.c (.q .o3 .l) .l)))))))) .aM)
def Yg.v (a:R2)(b c d e:Int)(f:Hp)(g:Value->Hp->Prop):Prop:=aV #[.I b,.I c,.I d,.I e] 123 f λh i=>aQ h 0 i λj=>If (j==0) (aQ h 1 i λk=>bV (λl m=>If l (g (.nilIface) m) (eO m λn=>bU a λo=>aT n o 0 λp=>aS n h 1 λq=>aS n h 2 λr=>Z1.c p q r m λs t u=>If (t==0) (g (.iface 218 (.agg #[.I s])) u) (If (t==4) (aQ h 1 u λv=>bL (v+256) λw=>bL (w-1) λx=>Nz 256<|bL (x.tdiv 256) λy=>g (.iface 220 (.agg #[.I y])) u) (g (.nilIface) u)))) λz=>If (k<1) (z true i) (aQ h 1 i λaa=>z (decide (aa>16384)) i)) (If (j==1) (aQ h 3 i λab=>g (.iface 222 (.agg #[.I ab])) i) (If (j==2) (g (.iface 224 (.agg #[])) i) (g (.nilIface) i)))
theorem Yg.o {a b c d e f g}(h:Yg.v a b c d e f g):Yg.c a b c d e f g:=Wa Tryz.func103 (x:=Yg.h) (R0 h)
def Zj.h:Hn:=.q .o2 (.q .o7 (.q (.cR (.held true [] (.tk [0,1,2,3,4,5] (.all [(6,.take 7 (.all [(8,.take 9 (.done))]))])))) (.kr [] (.q .o1 (.k (.q .o3 (.c (.q .o2 (.q (.q (.cR (.held true [6] (.tk [0,1,2,3,4,5] (.all [(6,.tk [7,8,9,10,11] (.done))])))) (.q .o2 (.c (.q (.cR (.held true [17] (.tk [0,1,2,3,4,5,6,7,8,9,10,11,12] (.all [(13,.tk [14,15,16] (.all [(17,.done)]))])))) .l) .l))) (.q (.cR (.held true [6] (.tk [0,1,2,3,4,5] (.all [(6,.tk [7,8,9,10,11] (.done))])))) (.q .o8 .l)))) (.q .o3 (.c (.q .o2 (.kr [] (.q (.oq 12) (.c (.q .o9 (.q .o2 (.c (.q .o6 (.q .o5 .l)) .l))) .l)) (.q .o5 .l))) (.q .o3 (.c (.q .o2 (.q (.q (.o 11) (.q .o3 (.c (.q .o6 (.q .o5 .l)) .l))) (.q .o5 .l))) (.q .o3 (.c (.q .o2 (.q (.q .o5 (.q .o2 (.c (.q .o4 .l) .l))) (.q .o5 .l))) (.q .o3 (.c (.q .o2 (.q .o8 (.q .o4 (.q (.cR (.tail 9 (RI.ops 9) [.op])) (.q (.cR (.held true [20] (.tk [0,1,2,3,4,5,6,7,8,9,10,11,12,13,14,15] (.all [(16,.tk [17,18,19] (.all [(20,.done)]))])))) .l))))) (.q .o3 (.c (.q .o2 (.q .o9 (.q (.q .o2 (.c (.q .o4 .l) .l)) (.q (.o 11) .l)))) (.q .o3 (.c (.q .o2 (.q .o9 .l)) (.q .o3 (.c (.q .o2 (.kr [] (.q (.cR (.held true [8] (.tk [0,1,2,3,4,5,6,7] (.all [(8,.tk [9,10,11,12,13] (.done))])))) (.q .o3 (.c .o6 .l))) (.q .o9 (.kr [] (.q .o5 (.c (.cR (.held true [13] (.tk [0,1,2,3,4,5,6,7,8] (.all [(9,.all [(10,.take 11 (.take 12 (.all [(13,.done)])))])])))) .l)) (.q .o6 .l))))) (.q .o3 (.c (.q .o2 (.q .o8 (.q .gQ (.q (.cR (.held true [5] (.take 0 (.take 1 (.take 2 (.take 4 (.all [(3,.all [(5,.done)])]))))))) (.q .o6 .l))))) (.q .o3 (.c (.q .o2 (.cR (.tail 10 (RI.ops 10) [.op]))) (.q .o3 (.c (.q .o2 (.q .o9 (.q .o6 .l))) .l)))))))))))))))))))))))) (.q .o3 .l))))
def Zj.v (a:R2)(b:Int)(c:Value)(d:Hp)(e:Value->Int->Int->Hp->Prop):Prop:=aV #[.I 0,.I 0] 125 d λf g=>bE a 8 g λi=>Ix i.a i.len b 3 λj=>eO g λk=>bU a λl=>aT k l 7 λm=>Zm.c a b g λn o=>And (k o) <| Ix m.a m.len n 1 λp=>fU p o λq=>And (k o) <| Jn [] (λr=>aR f 0 (.I 0) r λs=>aR f 1 (.I 0) s λt=>aQ f 0 t λu=>aQ f 1 t λv=>e (.nilIface) u v t) λw=>∃t52:Int,∃is:Bool,j5 c 218 [.I t52] [.I 0] is ∧ (If is (aV #[.I 0] 218 o λx y=>dX x (.I t52) y λz=>eO z λaa=>bU (some j) λab=>aU aa ab 0 λac=>aS aa x 0 λad=>X4.c ac ad z λae af ag=>If (af==0) (eO ag λah=>bU a λai=>aT ah ai 0 λaj=>aS ah x 0 λak=>Ix aj.a aj.len ak 3 λal=>aS ah al 0 λam=>aS ah x 0 λan=>YF.c a ae am an ag λao ap aq ar=>And (ah ar) <| aR f 0 (.I ap) ar λau=>aR f 1 (.I aq) au λav=>aQ f 0 av λaw=>aQ f 1 av λax=>e (ao) aw ax av) (eO ag λay=>bU (some j) λaz=>aU ay az 0 λa0=>aS ay x 0 λa1=>Yb.c a0 a1 ag λa2 a3 a4=>aQ x 0 a4 λa5=>aR f 0 (.I 0) a4 λa6=>aR f 1 (.I 0) a6 λa7=>aQ f 0 a7 λa8=>aQ f 1 a7 λa9=>e (.iface 228 (.agg #[.I a5,.I a2])) a8 a9 a7)) (∃t99:Int,∃t991:Int,∃is1:Bool,j5 c 228 [.I t99,.I t991] [.I 0,.I 0] is1 ∧
 (If is1 (aV #[.I 0,.I 0] 228 o λba bb=>aR ba 0 (.I t99) bb λbc=>aR ba 1 (.I t991) bc λbd=>Jn [] (λbe=>aQ ba 0 be λbf=>aQ ba 1 be λbg=>aR f 0 (.I 0) be λbh=>aR f 1 (.I 0) bh λbi=>aQ f 0 bi λbj=>aQ f 1 bi λbk=>e (.iface 231 (.agg #[.I bf,.I bg])) bj bk bi) λbl=>aQ ba 1 bd λbm=>bE a 0 bd λbo=>aQ ba 0 bd λbp=>Ix bo.a bo.len bp 3 λbq=>aQ bq 2 bd λbr=>If (bm==br) (aQ ba 0 bd λbs=>Wz.c q bs bd λbt bu bv=>If (bu==0) (aQ ba 0 bv λbw=>Yi.c a b bw bt bv λbx=>aR f 0 (.I 0) bx λbz=>aR f 1 (.I 0) bz λb0=>aQ f 0 b0 λb1=>aQ f 1 b0 λb2=>e (.iface 230 (.agg #[])) b1 b2 b0) (bl bv)) (bl bd)) (∃t135:Int,∃t1351:Int,∃is2:Bool,j5 c 231 [.I t135,.I t1351] [.I 0,.I 0] is2 ∧ (If is2 (aV #[.I 0,.I 0] 231 o λb3 b4=>aR b3 0 (.I t135) b4 λb5=>aR b3 1 (.I t1351) b5 λb6=>aQ b3 0 b6 λb7=>aQ b3 1 b6 λb8=>WB.c q b7 b8 b6 λb9 ca cb=>If (((b9.len:Nat):Int)>0) (aQ b3 0 cb λcc=>Yi.c a b cc b9 cb λcd=>aR f 0 (.I 0) cd λce=>aR f 1 (.I 0) ce λcf=>aQ f 0 cf λcg=>aQ f 1 cf λch=>e (.iface 230 (.agg #[])) cg ch cf) (aQ b3 0 cb λci=>aQ b3 1 cb λcj=>aR f 0 (.I 0) cb λck=>aR f 1 (.I 0) ck λcl=>aQ f 0 cl λcm=>aQ f 1 cl λcn=>
 e (.iface 233 (.agg #[.I ci,.I cj])) cm cn cl)) (∃t162:Int,∃t1621:Int,∃is3:Bool,j5 c 233 [.I t162,.I t1621] [.I 0,.I 0] is3 ∧ (If is3 (aV #[.I 0,.I 0] 233 o λco cp=>aR co 0 (.I t162) cp λcq=>aR co 1 (.I t1621) cq λcr=>aQ co 0 cr λcs=>X5.c q cs cr λct cu=>If (ct != 0) (aR f 0 (.I 0) cu λcv=>aR f 1 (.I ct) cv λcw=>aQ f 0 cw λcx=>aQ f 1 cw λcy=>e (.nilIface) cx cy cw) (aQ co 0 cu λcz=>aQ co 1 cu λc0=>aR f 0 (.I 0) cu λc1=>aR f 1 (.I 0) c1 λc2=>aQ f 0 c2 λc3=>aQ f 1 c2 λc4=>e (.iface 231 (.agg #[.I cz,.I c0])) c3 c4 c2)) (∃is4:Bool,j5 c 230 [] [] is4 ∧ (If is4 (aV #[] 230 o λc5 c6=>bE (some j) 1 c6 λc8=>Ix c8.a c8.len 0 2 λc9=>aQ c9 0 c6 λda=>aX c9 1 c6 λdb=>aV #[.I 0,.slice none 0 0] 135 c6 λdc dd=>aR dc 0 (.I da) dd λde=>aR dc 1 (.slice db.a db.len db.cap) de λdf=>bU (some j) λdg=>aR dg 1 (.slice none 0 0) df λdh=>bF (some j) 0 dh λdj=>aQ dc 0 dh λdk=>aX dc 1 dh λdl=>eY dl 1 1 (dl.len:Nat) (dl.cap:Nat) λdm=>XZ.c dj dk dm dh λdn dp=>eO dp λdq=>aT dq dc 1 λdr=>Ix dr.a dr.len 0 1 λds=>gD dq bN ds λ(dt:Int)=>bU a λdu=>aT dq du 0 λdv=>aS dq dc 0 λdw=>Ix dv.a dv.len dw 3 λdx=>aS dq dx 0 λdy=>
 aS dq dc 0 λdz=>YF.c a dt dy dz dp λd0 d1 d2 d3=>And (dq d3) <| aR f 0 (.I d1) d3 λd4=>aR f 1 (.I d2) d4 λd5=>aQ f 0 d5 λd6=>aQ f 1 d5 λd7=>e (d0) d6 d7 d5) (∃t217:Int,∃is5:Bool,j5 c 220 [.I t217] [.I 0] is5 ∧ (If is5 (aV #[.I 0] 220 o λd8 d9=>dX d8 (.I t217) d9 λea=>aQ d8 0 ea λeb=>WJ.c q eb 1 ea λec ed ee=>If (ed != 0) (aR f 0 (.I 0) ee λef=>aR f 1 (.I ed) ef λeg=>aQ f 0 eg λeh=>aQ f 1 eg λei=>e (.nilIface) eh ei eg) (bL (ec*256) λej=>aQ d8 0 ee λek=>bL (ek*256) λel=>YF.c a ej el (-1) ee λem en eo ep=>aR f 0 (.I en) ep λeq=>aR f 1 (.I eo) eq λer=>aQ f 0 er λes=>aQ f 1 er λet=>e (em) es et er)) (∃t240:Int,∃is6:Bool,j5 c 222 [.I t240] [.I 0] is6 ∧ (If is6 (aV #[.I 0] 222 o λeu ev=>dX eu (.I t240) ev λew=>aQ eu 0 ew λex=>Zf.c a b ex ew λey ez e0 e1=>aR f 0 (.I ez) e1 λe2=>aR f 1 (.I e0) e2 λe3=>aQ f 0 e3 λe4=>aQ f 1 e3 λe5=>e (ey) e4 e5 e3) (∃t250:Int,∃t2501:Int,∃is7:Bool,j5 c 238 [.I t250,.I t2501] [.I 0,.I 0] is7 ∧ (If is7 (aV #[.I 0,.I 0] 238 o λe6 e7=>aR e6 0 (.I t250) e7 λe8=>aR e6 1 (.I t2501) e8 λe9=>Jn [] (λfa=>bE (some j) 1 fa λfc=>eY fc 2 1 (fc.len:Nat) (fc.cap:Nat) λfd=>bU (some j) λfe=>aR fe 1 (.slice fd.a fd.len fd.cap) fa λff=>Jn [] (λfg=>
 WW.c a b fg λfh fi=>aR f 0 (.I 0) fi λfj=>aR f 1 (.I 0) fj λfk=>aQ f 0 fk λfl=>aQ f 1 fk λfm=>e (fh) fl fm fk) λfn=>bF (some j) 0 ff λfp=>X6.c fp ff λfq fr=>If fq (eO fr λfs=>bU (some j) λft=>aT fs ft 1 λfu=>bU (some j) λfv=>aU fs fv 0 λfw=>WY.c fw fr λfx fy=>And (fs fy) <| App fu 2 32 135 [.I 0,.slice none 0 0] fx fy λfz f0=>And (fs f0) <| bU (some j) λf1=>aR f1 1 (.slice fz.a fz.len fz.cap) f0 λf2=>fn f2) (fn fr)) λf3=>eO e9 λf4=>bU (some j) λf5=>aU f4 f5 0 λf6=>aS f4 e6 0 λf7=>aS f4 e6 1 λf8=>Yw.c f6 f7 f8 e9 λf9 ga gb=>If (((f9.len:Nat):Int)>0) (aQ e6 0 gb λgc=>Yi.c a b gc f9 gb λgd=>f3 gd) (f3 gb)) (∃is8:Bool,j5 c 241 [] [] is8 ∧ (If is8 (aV #[] 241 o λge gf=>bE (some j) 1 gf λgh=>Ix gh.a gh.len 0 2 λgi=>aQ gi 0 gf λgj=>aX gi 1 gf λgk=>aV #[.I 0,.slice none 0 0] 135 gf λgl gm=>aR gl 0 (.I gj) gm λgn=>aR gl 1 (.slice gk.a gk.len gk.cap) gn λgo=>bE (some j) 1 go λgq=>eY gq 2 1 (gq.len:Nat) (gq.cap:Nat) λgr=>Wq.c gr go λgs gt=>bU (some j) λgu=>aR gu 1 (.slice gs.a gs.len gs.cap) gt λgv=>eO gv λgw=>aS gw gl 0 λgx=>aT gw gl 1 λgy=>Zm.c a b gv λgz g0=>And (gw g0) <| Zk.c a gz gx gy g0 λg1=>
 WW.c a b g1 λg2 g3=>aR f 0 (.I 0) g3 λg4=>aR f 1 (.I 0) g4 λg5=>aQ f 0 g5 λg6=>aQ f 1 g5 λg7=>e (g2) g6 g7 g5) (∃t332:Int,∃t3321:Int,∃is9:Bool,j5 c 245 [.I t332,.I t3321] [.I 0,.I 0] is9 ∧ (If is9 (aV #[.I 0,.I 0] 245 o λg8 g9=>aR g8 0 (.I t332) g9 λha=>aR g8 1 (.I t3321) ha λhb=>bE a 7 hb λhd=>aQ g8 1 hb λhe=>Ix hd.a hd.len he 1 λhf=>fU hf hb λhg=>aQ g8 0 hb λhh=>WK.c hg hh hb λhi hj=>w hj) (∃is10:Bool,j5 c 224 [] [] is10 ∧ (If is10 (aV #[] 224 o λhk hl=>bF (some j) 0 hl λhn=>XH.c hn hl λho hp=>bU (some j) λhq=>aR hq 1 (.slice ho.a ho.len ho.cap) hp λhr=>WW.c a b hr λhs ht=>aR f 0 (.I 0) ht λhu=>aR f 1 (.I 0) hu λhv=>aQ f 0 hv λhw=>aQ f 1 hv λhx=>e (hs) hw hx hv) (w o))))))))))))))))))))))
theorem Zj.o {a b c d e}(f:Zj.v a b c d e):Zj.c a b c d e:=Wa Tryz.func104 (x:=Zj.h) (R0 f)
def YX.h:Hn:=.q .o1 (.q (.q (.cR (.seq [.op,.op,.op,.op,.cU false 4 (RI.ops 4),.op,.cU false 9 (RI.ops 9)])) .aK) (.q .gQ .l))
def YX.v (a:R2)(b:Int)(c:Hp)(d:ByteArray->Hp->Prop):Prop:=Xr.c a c λe f=>bV (λg h=>bV (λi j=>If i (d (ByteArray.mk #[]) j) (bE a 8 j λl=>Ix l.a l.len b 3 λm=>bA m 2 j λn=>iV Tryz.prog n "freehold/heap.name" [] [.one .str] j fun t33 v3 =>d t33 v3)) λo=>If g (o true h) (bE a 8 h λq=>Ix q.a q.len b 3 λr=>bA r 2 h λs=>And (iR s) <| o (kq s) h)) λt=>If (!e) (t true f) (XY.c a b f λu v=>t (!u) v)
theorem YX.o {a b c d}(e:YX.v a b c d):YX.c a b c d:=Wa Tryz.func131 (x:=YX.h) (R0 e)
def Qi.h:Hn:=.q .o2 (.q (.cR (.seq [.op,.op,.op,.op,.cU true 3 (RI.ops 3),.op,.cU true 4 (RI.ops 4),.op,.cU true 3 (RI.ops 3),.op,.cU true 3 (RI.ops 3),.op,.cU true 3 (RI.ops 3),.op,.cU true 3 (RI.ops 3),.op,.cU true 3 (RI.ops 3),.op,.cU true 3 (RI.ops 3),.op,.cU true 3 (RI.ops 3),.op,.cU true 3 (RI.ops 3),.op])) .l)
def Qi.v (a b c d e:Int)(f:Hp)(g:aO):Prop:=aV #[.I a,.I b,.I c,.I d,.I e] 23 f λh i=>aQ h 0 i λj=>bV (λk l=>bV (λm n=>bV (λo p=>bV (λq r=>bV (λs t=>bV (λu v=>bV (λw x=>bV (λy z=>bV (λaa ab=>bV (λac ad=>g ac ad) λae=>If aa (aQ h 4 ab λaf=>ae (decide (af<=8)) ab) (ae false ab)) λag=>If y (aQ h 4 z λah=>ag (decide (ah≥0)) z) (ag false z)) λai=>If w (aQ h 3 x λaj=>ai (decide (aj<=65536)) x) (ai false x)) λak=>If u (aQ h 3 v λal=>ak (decide (al≥0)) v) (ak false v)) λam=>If s (aQ h 2 t λan=>am (decide (an<=4)) t) (am false t)) λao=>If q (aQ h 2 r λap=>ao (decide (ap≥1)) r) (ao false r)) λaq=>If o (aQ h 1 p λar=>aq (decide (ar<=4)) p) (aq false p)) λau=>If m (aQ h 1 n λav=>au (decide (av≥1)) n) (au false n)) λaw=>If k (aQ h 0 l λax=>Nz 16 <| aw ((ax.tmod 16)==0) l) (aw false l)) λay=>If (j≥32) (aQ h 0 i λaz=>ay (decide (az<=1024)) i) (ay false i)
theorem Qi.o {a b c d e f g}(h:Qi.v a b c d e f g):Qi.c a b c d e f g:=Wa Tryz.func141 (x:=Qi.h) (R0 h)
def Zm.h:Hn:=.q .o1 (.q .o8 .l)
def Zm.v (a:R2)(b:Int)(c:Hp)(d:aN):Prop:=bE a 7 c λf=>Nz ((f.len:Nat):Int) <| d (b.tmod ((f.len:Nat):Int)) c
theorem Zm.o {a b c d}(e:Zm.v a b c d):Zm.c a b c d:=Wa Tryz.func146 (x:=Zm.h) (R0 e)
def YF.h:Hn:=.q .o2 (.q (.cR (.held true [12] (.tk [0,1,2,3,4,5,6,7,8,9] (.all [(10,.take 11 (.all [(12,.done)]))])))) (.q .o4 .l))
def YF.v (a:R2)(b c d:Int)(e:Hp)(f:Value->Int->Int->Hp->Prop):Prop:=aV #[.I 0,.I 0] 125 e λg h=>eO h λi=>bU a λj=>gD i .m (j.add 9) λ(k:Option Nat)=>XQ.c a b h λl m=>And (i m) <| kc .i64 (.ag 4) k b (b,c,d,l) m λn=>aR g 0 (.I b) n λo=>aR g 1 (.I 0) o λp=>aQ g 0 p λq=>aQ g 1 p λr=>f (.nilIface) q r p
theorem YF.o {a b c d e f}(g:YF.v a b c d e f):YF.c a b c d e f:=Wa Tryz.func148 (x:=YF.h) (R0 g)
def Yi.h:Hn:=.cR (.held true [20] (.tk [0,1,2,3,4,5,6,7,8,9,10,11,12,13,14,15] (.all [(16,.all [(17,.take 18 (.take 19 (.all [(20,.done)])))])])))
def Yi.v (a:R2)(b c:Int)(d:Sl)(e:Hp)(f:aP):Prop:=eO e λg=>bU a λh=>aT g h 8 λi=>bU a λj=>aT g j 8 λk=>Ix k.a k.len b 3 λl=>aT g l 1 λm=>aV #[.I c,.slice d.a d.len d.cap] 135 e λn o=>And (g o) <| App m 2 32 135 [.I 0,.slice none 0 0] ⟨some n,1,1⟩ o λp q=>And (g q) <| Ix i.a i.len b 3 λr=>aR r 1 (.slice p.a p.len p.cap) q λs=>f s
theorem Yi.o {a b c d e f}(g:Yi.v a b c d e f):Yi.c a b c d e f:=Wa Tryz.func151 (x:=Yi.h) (R0 g)
def Zf.h:Hn:=.q .o2 (.q (.o 12) (.q (.q .o2 (.c (.kr [] (.q .o4 (.q .o2 (.c (.q (.o 16) (.q (.cR (.seq [.op,.op,.op,.cU true 2 [.op,.op],.op,.cU true 3 (RI.ops 3)])) (.c (.q .o3 .l) .l))) .l))) (.q .o3 .l)) .l)) (.q .o6 (.q (.q .o3 (.c (.q .o9 .l) .l)) (.q .o7 (.q .o8 .l))))))
def Zf.v (a:R2)(b c:Int)(d:Hp)(e:Value->Int->Int->Hp->Prop):Prop:=aV #[.I 0,.I 0] 125 d λf g=>bI a 9 g λi=>Lk .i64 (.ag 4) i c g λj=>aV #[.I 0,.I 0,.I 0,.I 0] 112 g λk l=>aR k 0 (.I ((j.getD (0,0,0,0)).1)) l λm=>aR k 1 (.I ((j.getD (0,0,0,0)).2.1)) m λn=>aR k 2 (.I ((j.getD (0,0,0,0)).2.2.1)) n λo=>aR k 3 (.I ((j.getD (0,0,0,0)).2.2.2)) o λp=>If (!j.isSome) (Jn [] (λq=>aR f 0 (.I 0) q λr=>aR f 1 (.I 8) r λs=>aQ f 0 s λt=>aQ f 1 s λu=>e (.nilIface) t u s) λv=>XQ.c a c p λw x=>If (w≥0) (bE a 7 x λz=>Ix z.a z.len w 1 λaa=>fU aa x λab=>YE.c ab c x λac ad ae af=>bV (λag ah=>bV (λai aj=>If ai (aR f 0 (.I 0) aj λak=>aR f 1 (.I 9) ak λal=>aQ f 0 al λam=>aQ f 1 al λan=>e (.nilIface) am an al) (v aj)) λao=>If ag (ao (ad==c) ah) (ao false ah)) λap=>If (ae==0) (ap (decide (ac≥0)) af) (ap false af)) (v x)) (bI a 9 p λar=>lJ .i64 (.ag 4) ar c p λau=>aQ k 2 au λav=>If (av<0) (Nz 256<|bL (c.tdiv 256) λaw=>aQ k 3 au λax=>aR f 0 (.I 0) au λay=>aR f 1 (.I 0) ay λaz=>aQ f 0 az λa0=>aQ f 1 az λa1=>e (.iface 245 (.agg #[.I aw,.I ax])) a0 a1 az) (aQ k 2 au λa2=>aV #[.I c] 3 au λa3 a4=>Yi.c a b a2 ⟨some a3,1,1⟩ a4 λa5=>aQ k 2 a5 λa6=>aR f 0 (.I 0) a5 λa7=>
 aR f 1 (.I 0) a7 λa8=>aQ f 0 a8 λa9=>aQ f 1 a8 λba=>e (.iface 238 (.agg #[.I a6,.I c])) a9 ba a8))
theorem Zf.o {a b c d e}(f:Zf.v a b c d e):Zf.c a b c d e:=Wa Tryz.func156 (x:=Zf.h) (R0 f)
def WW.h:Hn:=.q .o1 (.q (.q .gQ .aK) (.q .o3 .l))
def WW.v (a:R2)(b:Int)(c:Hp)(d:Value->Hp->Prop):Prop:=bE a 8 c λf=>Ix f.a f.len b 3 λg=>aX g 1 c λh=>If (((h.len:Nat):Int)==0) (d (.nilIface) c) (d (.iface 241 (.agg #[])) c)
theorem WW.o {a b c d}(e:WW.v a b c d):WW.c a b c d:=Wa Tryz.func160 (x:=WW.h) (R0 e)
def Zk.h:Hn:=.q .o1 (.q .o7 (.q (.q .o4 (.k (.loop [(23,.I)] (.q .o1 (.q (.c .l .l) (.q (.k (.q .o3 (.q .o4 (.o 11)))) .o2)))))) (.kr [] (.q (.oq 9) (.c (.q (.cR (.held true [] (.tk [0,1,2,3,4,5,6,7,8,9,10] (.all [(11,.tk [12,13,14,15,16] (.done))])))) (.q (.cR (.seq [.op,.op,.cU true 2 [.op,.op]])) (.c .l .l))) .l)) (.q .o3 (.k (.loop [(72,.I)] (.q .o1 (.q (.c .l .l) (.q (.k (.q .o5 (.q .o3 (.c (.cR (.tail 10 (RI.ops 10) [.op])) .l)))) .o2)))))))))
def Zk.v (a:R2)(b c:Int)(d:Sl)(e:Hp)(f:aP):Prop:=aV #[.I c,.slice d.a d.len d.cap] 135 e λg h=>bU a λi=>aX i 7 h λj=>Mk ((j.len:Nat):Int) ((j.len:Nat):Int) 24 34 [.slice none 0 0] h λk l=>aX g 1 l λm=>Yp [bN] (λn=>n 0 l) λo (p:Int) q=>If (p<((m.len:Nat):Int)) (Ix m.a m.len p 1 λr=>bM r q λs=>XQ.c a s q λt u=>Ix k.a k.len t 1 λv=>jq v u λw=>aV #[.I s] 3 u λx y=>App w 1 8 3 [.I 0] ⟨some x,1,1⟩ y λz aa=>Ix k.a k.len t 1 λab=>dX ab (.slice z.a z.len z.cap) aa λac=>bL (p+1) λad=>o ad ac) (Jn [] (λae=>Yp [bN] (λaf=>af 0 ae) λag (ah:Int) ai=>If (ah<((k.len:Nat):Int)) (Ix k.a k.len ah 1 λaj=>jq aj ai λak=>If (((ak.len:Nat):Int)>0) (bE a 7 ai λam=>Ix am.a am.len ah 1 λan=>fU an ai λao=>aQ g 0 ai λap=>WM.c ao ap ak ai λaq ar=>bL (ah+1) λau=>ag au ar) (bL (ah+1) λav=>ag av ai)) (f ai)) λaw=>Ix k.a k.len b 1 λax=>jq ax q λay=>aX g 1 q λaz=>If (((ay.len:Nat):Int)==((az.len:Nat):Int)) (eO q λa0=>bU a λa1=>aT a0 a1 7 λa2=>Ix a2.a a2.len b 1 λa3=>gD a0 .p a3 λ(a4:R2)=>aS a0 g 0 λa5=>aT a0 g 1 λa6=>WE.c a4 a5 a6 q λa7 a8 a9=>And (a0 a9) <| bV (λba bb=>If ba (f bb) (aw bb)) λbc=>If a7 (bc (a8==0) a9) (bc false a9)) (aw q))
theorem Zk.o {a b c d e f}(g:Zk.v a b c d e f):Zk.c a b c d e f:=Wa Tryz.func162 (x:=Zk.h) (R0 g)
def XQ.h:Hn:=.q .o2 (.q (.q .o2 .aK) (.q .o7 .l))
def XQ.v (a:R2)(b:Int)(c:Hp)(d:aN):Prop:=aV #[.I b] 3 c λe f=>bM e f λg=>If (g<0) (d (-1) f) (bE a 7 f λi=>Wk.c i ⟨250,#[],#[.pointer (some e)]⟩ f λj k=>d j k)
theorem XQ.o {a b c d}(e:XQ.v a b c d):XQ.c a b c d:=Wa Tryz.func205 (x:=XQ.h) (R0 e)
def YP.h:Hn:=.q .o1 (.q .o5 .l)
def YP.v (a:R2)(b:Addr)(c:Hp)(d:aO):Prop:=bM b c λe=>Nz 256<|bL (e.tdiv 256) λf=>YK.c a f c λg h=>d g h
theorem YP.o {a b c d}(e:YP.v a b c d):YP.c a b c d:=Wa Tryz.func250 (x:=YP.h) (R0 e)
def ZI.h:Hn:=.q .o2 .aM
def ZI.v (a:Int)(b:Hp)(c:ByteArray->Hp->Prop):Prop:=aV #[.I a] 218 b λd e=>c (ByteArray.mk #[116,97,107,101]) e
theorem ZI.o {a b c}(d:ZI.v a b c):ZI.c a b c:=Wa Tryz.func346 (x:=ZI.h) (R0 d)
def ZA.h:Hn:=.q .o2 .aM
def ZA.v (a:Int)(b:Hp)(c:ByteArray->Hp->Prop):Prop:=aV #[.I a] 220 b λd e=>c (ByteArray.mk #[108,97,114,103,101]) e
theorem ZA.o {a b c}(d:ZA.v a b c):ZA.c a b c:=Wa Tryz.func347 (x:=ZA.h) (R0 d)
def ZM.h:Hn:=.q .o2 .aM
def ZM.v (a:Int)(b:Hp)(c:ByteArray->Hp->Prop):Prop:=aV #[.I a] 222 b λd e=>c (ByteArray.mk #[102,105,110,100]) e
theorem ZM.o {a b c}(d:ZM.v a b c):ZM.c a b c:=Wa Tryz.func348 (x:=ZM.h) (R0 d)
def Zz.h:Hn:=.q .o2 .aM
def Zz.v (a:Hp)(b:ByteArray->Hp->Prop):Prop:=aV #[] 224 a λc d=>b (ByteArray.mk #[100,114,97,105,110]) d
theorem Zz.o {a b}(c:Zz.v a b):Zz.c a b:=Wa Tryz.func349 (x:=Zz.h) (R0 c)
def YQ.h:Hn:=.q .o2 .aM
def YQ.v (a b:Int)(c:Hp)(d:ByteArray->Hp->Prop):Prop:=aV #[.I a,.I b] 228 c λe f=>d (ByteArray.mk #[116,114,97,110,115,102,101,114]) f
theorem YQ.o {a b c d}(e:YQ.v a b c d):YQ.c a b c d:=Wa Tryz.func350 (x:=YQ.h) (R0 e)
def ZH.h:Hn:=.q .o2 .aM
def ZH.v (a:Hp)(b:ByteArray->Hp->Prop):Prop:=aV #[] 230 a λc d=>b (ByteArray.mk #[102,105,108,108]) d
theorem ZH.o {a b}(c:ZH.v a b):ZH.c a b:=Wa Tryz.func351 (x:=ZH.h) (R0 c)
def Zc.h:Hn:=.q .o2 .aM
def Zc.v (a b:Int)(c:Hp)(d:ByteArray->Hp->Prop):Prop:=aV #[.I a,.I b] 231 c λe f=>d (ByteArray.mk #[99,101,110,116,114,97,108]) f
theorem Zc.o {a b c d}(e:Zc.v a b c d):Zc.c a b c d:=Wa Tryz.func352 (x:=Zc.h) (R0 e)
def ZF.h:Hn:=.q .o2 .aM
def ZF.v (a b:Int)(c:Hp)(d:ByteArray->Hp->Prop):Prop:=aV #[.I a,.I b] 233 c λe f=>d (ByteArray.mk #[103,114,111,119]) f
theorem ZF.o {a b c d}(e:ZF.v a b c d):ZF.c a b c d:=Wa Tryz.func353 (x:=ZF.h) (R0 e)
def ZX.h:Hn:=.q .o2 .aM
def ZX.v (a b:Int)(c:Hp)(d:ByteArray->Hp->Prop):Prop:=aV #[.I a,.I b] 238 c λe f=>d (ByteArray.mk #[112,117,116]) f
theorem ZX.o {a b c d}(e:ZX.v a b c d):ZX.c a b c d:=Wa Tryz.func354 (x:=ZX.h) (R0 e)
def ZL.h:Hn:=.q .o2 .aM
def ZL.v (a:Hp)(b:ByteArray->Hp->Prop):Prop:=aV #[] 241 a λc d=>b (ByteArray.mk #[98,97,99,107]) d
theorem ZL.o {a b}(c:ZL.v a b):ZL.c a b:=Wa Tryz.func355 (x:=ZL.h) (R0 c)
def ZK.h:Hn:=.q .o2 .aM
def ZK.v (a b:Int)(c:Hp)(d:ByteArray->Hp->Prop):Prop:=aV #[.I a,.I b] 245 c λe f=>d (ByteArray.mk #[103,105,118,101]) f
theorem ZK.o {a b c d}(e:ZK.v a b c d):ZK.c a b c d:=Wa Tryz.func356 (x:=ZK.h) (R0 e)
end Go.Proofs
namespace Go.Ar
open Go Go.Vc Go.Proofs
def mK:Option Ph->Value
 | none=>.nilIface
 | some (.take k)=>.iface 218 (.agg #[.int .i64 (k:Int)])
 | some (.cH k w)=>.iface 228 (.agg #[.int .i64 (k:Int),.int .i64 (w:Int)])
 | some (.cJ k w)=>.iface 231 (.agg #[.int .i64 (k:Int),.int .i64 (w:Int)])
 | some (.grow k w)=>.iface 233 (.agg #[.int .i64 (k:Int),.int .i64 (w:Int)])
 | some .fill=>.iface 230 (.agg #[])
 | some (.eI m)=>.iface 220 (.agg #[.int .i64 (m:Int)])
 | some (.find x)=>.iface 222 (.agg #[.int .i64 x])
 | some (.put k x)=>.iface 238 (.agg #[.int .i64 (k:Int),.int .i64 x])
 | some .back=>.iface 241 (.agg #[])
 | some (.dD s a)=>.iface 245 (.agg #[.int .i64 s,.int .i64 a])
 | some .drain=>.iface 224 (.agg #[])
theorem uA (p:Option Ph):iR (mK p):=by
 cases p with
 | none=>exact .inl rfl
 | some p=>cases p<;>exact .inr ⟨_,_,rfl⟩
theorem G8 (p:Option Ph):kq (mK p)=p.isNone:=by
 cases p with
 | none=>rfl
 | some p=>cases p<;>rfl
inductive kz where
 | hd|dC|sp|fO|cN|live
 | ar (k:Nat)
 | ca (k:Nat)
 | hn (k:Nat)
 deriving DecidableEq
structure eJ where
 c:gK
 h:Sl
structure dH where
 p:Nat
 hs:Nat
 lm:Nat
 dC:Sl
 fO:Sl
 cN:Sl
 ys:List Lay
 ts:List eJ
def xW (L:dH)(c:Cf):List Value:=[.slice L.dC.a L.dC.len L.dC.cap,.int .i64 (c.aF:Int),.int .i64 (c.gW:Int),.int .i64 (c.threads:Int),.int .i64 (c.dA:Int),.int .i64 (c.room:Int),
 .pointer (some ⟨L.hs,0,none⟩),.slice L.fO.a L.fO.len L.fO.cap,.slice L.cN.a L.cN.len L.cN.cap,.map (some L.lm)]
def jt (x:eJ×Th):List Value:=[.pointer (some ⟨x.1.c.p,0,none⟩),.slice x.1.h.a x.1.h.len x.1.h.cap,mK x.2.ph]
def gR (ts:List eJ)(bQ:List Th):List Value:=(ts.zip bQ).flatMap jt
theorem Hh:∀{ts:List eJ} {bQ:List Th},ts.length=bQ.length->(gR ts bQ).length=bQ.length*3
 | [],[],_=>rfl
 | x::ts,h::bQ,e=>by
  have e1:gR (x::ts) (h::bQ)=jt (x,h)++gR ts bQ:=rfl;have a:(jt (x,h)).length=3:=rfl;rw[e1,zP,Hh (by simpa using e),a,zY];omega
 | [],_::_,e=>by simp at e
 | _::_,[],e=>by simp at e
theorem Al:∀{ts:List eJ} {bQ:List Th} {i:Nat} {x:eJ} {h:Th},ts[i]?=some x->bQ[i]?=some h->∀{d:Nat},d<3->(gR ts bQ)[3*i+d]?=(jt (x,h))[d]?
 | [],_,_,_,_,h1,_,_,_=>by simp at h1
 | _::_,[],_,_,_,_,h2,_,_=>by simp at h2
 | y::ts,g::bQ,0,x,h,h1,h2,d,hd=>by
  have e1:gR (y::ts) (g::bQ)=jt (y,g)++gR ts bQ:=rfl;have a:(jt (y,g)).length=3:=rfl;simp at h1 h2;subst h1;subst h2;rw[e1,zh O];congr 1;omega
 | y::ts,g::bQ,i+1,x,h,h1,h2,d,hd=>by
  have e1:gR (y::ts) (g::bQ)=jt (y,g)++gR ts bQ:=rfl;have a:(jt (y,g)).length=3:=rfl;rw[e1,zp O,a,show 3*(i+1)+d-3=3*i+d by omega];exact Al (by simpa using h1) (by simpa using h2) hd
theorem xI:∀{ts:List eJ} {bQ:List Th} {i:Nat} {x:eJ} {h:Th},ts[i]?=some x->bQ[i]?=some h->∀{d:Nat} {v:Value} {x':eJ} {h':Th},d<3->jt (x',h')=(jt (x,h)).set d v →
 (gR ts bQ).set (3*i+d) v=gR (ts.set i x') (bQ.set i h')
 | [],_,_,_,_,h1,_,_,_,_,_,_,_=>by simp at h1
 | _::_,[],_,_,_,_,h2,_,_,_,_,_,_=>by simp at h2
 | y::ts,g::bQ,0,x,h,h1,h2,d,v,x',h',hd,e=>by
  have e1:gR (y::ts) (g::bQ)=jt (y,g)++gR ts bQ:=rfl;have e2:gR ((y::ts).set 0 x') ((g::bQ).set 0 h')=jt (x',h')++gR ts bQ:=rfl;have a:(jt (y,g)).length=3:=rfl;simp at h1 h2;subst h1;subst h2;rw[e1,e2,List.set_append_left _ _ O,e,show 3*0+d=d by omega]
 | y::ts,g::bQ,i+1,x,h,h1,h2,d,v,x',h',hd,e=>by
  have e1:gR (y::ts) (g::bQ)=jt (y,g)++gR ts bQ:=rfl;have e2:gR ((y::ts).set (i+1) x') ((g::bQ).set (i+1) h')=jt (y,g)++gR (ts.set i x') (bQ.set i h'):=rfl;have a:(jt (y,g)).length=3:=rfl;rw[e1,e2,List.set_append_right _ _ O,a,show 3*(i+1)+d-3=3*i+d by omega];rw[xI (by simpa using h1) (by simpa using h2) hd e]
def nG (y:Option Lay)(a:Option AR):Hp->Rg->Prop:=λU F=>match y,a with
 | some Y,some A=>dG U F Y A (cK A Y)
 | _,_=>True
def qu (x:Option eJ)(h:Option Th)(tb:List bZ)(bud:Nat):Hp->Rg->Prop:=λU F=>match x,h with
 | some x,some h=>eB U F x.c tb bud h.ls
 | _,_=>True
def pz (x:Option eJ)(h:Option Th):Hp->Rg->Prop:=λU F=>match x,h with
 | some x,some h=>ik x.h h.bP U F
 | _,_=>True
def CH (H:Hw)(L:dH):kz->Hp->Rg->Prop
 | .hd=>iq L.p (xW L H.cf)
 | .dC=>cX L.dC 3 (fZ H.tb)
 | .sp=>λU F=>dK U F L.hs H.sp
 | .fO=>cX L.fO 1 (fM (L.ys.map (·.p)))
 | .cN=>bS L.cN 3 (gR L.ts H.bQ)
 | .live=>jA L.lm .i64 (.ag 4) H.live
 | .ar k=>nG L.ys[k]? H.bX[k]?
 | .ca t=>qu L.ts[t]? H.bQ[t]? H.tb H.cf.dA
 | .hn t=>pz L.ts[t]? H.bQ[t]?
theorem nG.loc (y:Option Lay)(a:Option AR):dM (nG y a):=by
 intro U σ' F G h hz hs;unfold nG at *;split at h
 ·exact dG.loc _ _ _ _ h hz hs
 ·trivial
theorem qu.loc (x:Option eJ)(h:Option Th)(tb:List bZ)(bud:Nat):dM (qu x h tb bud):=by
 intro U σ' F G h hz hs;unfold qu at *;split at h
 ·exact eB.loc _ _ _ _ h hz hs
 ·trivial
theorem pz.loc (x:Option eJ)(h:Option Th):dM (pz x h):=by
 intro U σ' F G h hz hs;unfold pz at *;split at h
 ·exact ik.loc _ _ _ _ _ _ h hz hs
 ·trivial
theorem CH.loc {H:Hw}{L:dH}:∀i,dM (CH H L i)
 | .hd=>iq.loc _ _
 | .dC=>cX.loc _ _ _
 | .sp=>dK.loc
 | .fO=>cX.loc _ _ _
 | .cN=>bS.loc _ _ _
 | .live=>jA.loc _ _ _ _
 | .ar k=>nG.loc _ _
 | .ca t=>qu.loc _ _ _ _
 | .hn t=>pz.loc _ _
structure HS (L:dH) (H:Hw):Prop where
 ys:L.ys.length=H.bX.length
 hs:∀Y∈L.ys,Y.hs=L.hs
 ts:L.ts.length=H.bQ.length
 a1:1<=H.bX.length
 a2:H.bX.length<=4
 t1:1<=H.bQ.length
 t2:H.bQ.length<=4
 tb:∀A∈H.bX,A.tb=H.tb
structure HH (U:Hp) (F:Rg) (L:dH) (H:Hw):Prop where
 s:HS L H
 sep:Sep (CH H L) U F
 g:Gl U
 gd:Gd U
 o:iS F
 o2:¬F 1
variable {U:Hp}{F:Rg}{L:dH}{H:Hw}{t k:Nat}
theorem HH.bO (h:HH U F L H){σ':Hp}(e:bK U σ'):HH σ' F L H:=⟨h.s,(Sep.loc CH.loc).bO h.sep e,h.g.bO e,h.gd.bO e,h.o,h.o2⟩
theorem HH.bR (h:HH U F L H){σ':Hp}{T:Rg}(e:Ext T U σ')(hT:∀b,b<U.size->F b->¬T b)(hg:iS T)(hg2:¬T 1):HH σ' F L H:=⟨h.s,(Sep.loc CH.loc).bR h.sep e hT,h.g.bR e hg,h.gd.bR e hg2,h.o,h.o2⟩
theorem yL {U:Hp}(g:Gd U):1<U.size:=g.lt
theorem HH.mono (h:HH U F L H){G:Rg}(hs:∀b,b<U.size->F b->G b)(o:iS G)(o2:¬G 1):HH U G L H:=⟨h.s,(Sep.loc CH.loc).mono h.sep hs,h.g,h.gd,o,o2⟩
theorem HH.oG (h:HH U F L H):iS (Grow F U):=h.o.grow h.g
theorem HH.qA (h:HH U F L H):¬Grow F U 1:=λa=>by
 rcases a with a|a
 ·exact h.o2 a
 ·have:=yL h.gd;omega
theorem HH.sub (h:HH U F L H){G:Rg}(hs:∀b,b<U.size->F b->G b)(hg:∀b,G b->F b\/U.size<=b):HH U G L H:=
 h.mono hs (h.oG.sub hg) λa=>h.qA (hg _ a)
theorem HH.uX {v v':Hp}{G T:Rg}{L0:dH}{H0:Hw}(h0:HH U F L0 H0)(h:HH v G L H)(e:Ext T v v')(hT:∀b,T b->U.size<=b)(hG:∀b,b<v.size->G b->¬T b):HH v' G L H:=
 h.bR e hG (h0.oG.sub λb a=>.inr (hT b a)) λa=>h0.qA (.inr (hT _ a))
theorem HH.grown {σ':Hp}{R:Rg}{L':dH}{H':Hw}(h:HH U F L H)(h':HH σ' R L' H')(hr:∀b,b<σ'.size->R b->Grow F U b):HH σ' (Grow F U) L' H':=h'.mono hr h.oG h.qA
theorem HH.cut (h:HH U F L H):HH U (Cut F U) L H:=h.sub (λb a d=>⟨d,a⟩) λb a=>.inl a.1
theorem HH.lL (h:HH U F L H)(i:kz):∃G:Rg,(∀b,G b->F b)/\CH H L i U G/\(∀j,j≠i->∃D:Rg,(∀b,D b->F b)/\(∀b,D b->¬G b)/\CH H L j U D) ∧
 ∀(σ':Hp) (H':Hw) (L':dH) (G':Rg),HS L' H'->(∀j,j≠i->CH H' L' j=CH H L j)->Ext G U σ'->(∀b,G' b->Grow G U b)->CH H' L' i σ' G' →
  Ext F U σ'/\HH σ' (λb=>F b/\b<U.size/\¬G b\/G' b) L' H':=by
 obtain⟨G,p,u,hd,d⟩:=h.sep.jS CH.loc i;refine⟨G,p,u,hd,λσ' H' L' G' w x e s y=>?_⟩;have r:=e.sub p;have m:∀b,(F b/\b<U.size/\¬G b\/G' b)->Grow F U b:=λb a=>by
  rcases a with a|a
  ·exact .inl a.1
  ·exact(s b a).imp (p b) id
 refine⟨r,w,d σ' (CH H' L') G' x e s y (CH.loc _),h.g.bR r h.o,h.gd.bR r h.o2,λb a=>(h.o.grow h.g) b (m b a),λa=>?_⟩;rcases m _ a with h1|h1
 ·exact h.o2 h1
 ·have:=yL h.gd;omega
theorem _root_.Go.Vc.Sep.tj {L:Type}{C:L->Hp->Rg->Prop}{U:Hp}{F:Rg}(hC:∀i,dM (C i))(h:Sep C U F)(i j:L)(hij:i≠j)(N:Rg)(hN:∀b,b<U.size->F b->¬N b):∃G D:Rg,(∀b,G b->F b)/\(∀b,D b->F b)/\(∀b,G b->¬D b)/\C i U G/\C j U D/\(∀m,m≠i->m≠j->∃E:Rg,(∀b,E b->F b)/\(∀b,E b->¬(G b\/D b))/\C m U E) ∧
 ∀(σ':Hp) (C':L->Hp->Rg->Prop) (G' D':Rg),(∀k,k≠i->k≠j->C' k=C k)->Ext (λb=>G b\/D b) U σ'->(∀b,G' b->(G b\/D b)\/N b)->(∀b,D' b->(G b\/D b)\/N b)->(∀b,G' b->¬D' b)->C' i σ' G'->C' j σ' D'->(∀k,dM (C' k)) →
 Sep C' σ' λb=>F b/\b<U.size/\¬(G b\/D b)\/G' b\/D' b:=by
 obtain⟨ρ,h⟩:=h
 let G:Rg:=λb=>F b/\ρ b=i
 let D:Rg:=λb=>F b/\ρ b=j
 refine⟨G,D,λb a=>a.1,λb a=>a.1,λb u w=>hij (u.2.symm.trans w.2),h i,h j,λm u w=>⟨λb=>F b/\ρ b=m,λb a=>a.1,λb a d=>d.elim (λx=>u (a.2.symm.trans x.2)) λx=>w (a.2.symm.trans x.2),h m⟩,λσ' C' G' D' J e H A hd B z y=>?_⟩
 open Classical in
 refine⟨λb=>if G' b then i else if D' b then j else ρ b,λk=>?_⟩
 by_cases hki:k=i
 ·subst hki;exact(y _).mono B λb _ a=>⟨.inr (.inl a),zC a⟩
 by_cases hkj:k=j
 ·subst hkj;exact(y _).mono z λb _ a=>⟨.inr (.inr a),by show(if G' b then i else if D' b then k else ρ b)=k;rw[zB λd=>hd b d a,zC a]⟩
 ·rw[J k hki hkj];refine hC k _ _ _ _ (h k) e.1 λb a g=>?_;have s:¬(G b\/D b):=by
   rintro(d|d)
   ·exact hki (g.2.symm.trans d.2)
   ·exact hkj (g.2.symm.trans d.2)
  have p:¬G' b:=λd=>(H b d).elim s (hN b a g.1);have r:¬D' b:=λd=>(A b d).elim s (hN b a g.1);exact⟨⟨.inl ⟨g.1,a,s⟩,by show(if G' b then i else if D' b then j else ρ b)=k;rw[zB p,zB r];exact g.2⟩,e.2 b a s⟩
theorem HH.oR (h:HH U F L H)(i j:kz)(hij:i≠j)(N:Rg)(hN:∀b,b<U.size->F b->¬N b)(oN:iS N)(oN2:¬N 1):∃G D:Rg,(∀b,G b->F b)/\(∀b,D b->F b)/\(∀b,G b->¬D b)/\CH H L i U G/\CH H L j U D/\(∀m,m≠i->m≠j->∃E:Rg,(∀b,E b->F b)/\(∀b,E b->¬(G b\/D b))/\CH H L m U E) ∧
 ∀(σ':Hp) (H':Hw) (L':dH) (G' D':Rg),HS L' H'->(∀m,m≠i->m≠j->CH H' L' m=CH H L m)->Ext (λb=>G b\/D b) U σ'->(∀b,G' b->(G b\/D b)\/N b)->(∀b,D' b->(G b\/D b)\/N b)->(∀b,G' b->¬D' b)->CH H' L' i σ' G'->CH H' L' j σ' D' →
  Ext F U σ'/\HH σ' (λb=>F b/\b<U.size/\¬(G b\/D b)\/G' b\/D' b) L' H':=by
 obtain⟨G,D,u,s,hd,K,J,d,r⟩:=h.sep.tj CH.loc i j hij N hN;refine⟨G,D,u,s,hd,K,J,d,λσ' H' L' G' D' M P e A z w B C=>?_⟩;have y:Ext F U σ':=e.sub λb a=>a.elim (u b) (s b);have p:∀b,(F b/\b<U.size/\¬(G b\/D b)\/G' b\/D' b)->F b\/N b:=λb a=>by
  rcases a with a|a|a
  ·exact .inl a.1
  ·exact(A b a).imp (λx=>x.elim (u b) (s b)) id
  ·exact(z b a).imp (λx=>x.elim (u b) (s b)) id
 refine⟨y,M,r σ' (CH H' L') G' D' P e A z w B C CH.loc,h.g.bR y h.o,h.gd.bR y h.o2,λb a=>(p b a).elim (h.o b) (oN b),λa=>?_⟩;exact(p _ a).elim h.o2 oN2
theorem HH.lY (h:HH U F L H):iS (λb=>U.size<=b)/\¬(U.size<=1):=⟨h.oG.sub λb a=>.inr a,λa=>h.qA (.inr a)⟩
theorem HH.oc (h:HH U F L H)(i j:kz)(hij:i≠j):∃G D:Rg,(∀b,G b->F b)/\(∀b,D b->F b)/\(∀b,G b->¬D b)/\CH H L i U G/\CH H L j U D/\(∀m,m≠i->m≠j->∃E:Rg,(∀b,E b->F b)/\(∀b,E b->¬(G b\/D b))/\CH H L m U E) ∧
 ∀(σ':Hp) (H':Hw) (L':dH) (G' D':Rg),HS L' H'->(∀m,m≠i->m≠j->CH H' L' m=CH H L m)->Ext (λb=>G b\/D b) U σ'->(∀b,G' b->(G b\/D b)\/U.size<=b)->(∀b,D' b->(G b\/D b)\/U.size<=b)->(∀b,G' b->¬D' b)->CH H' L' i σ' G'->CH H' L' j σ' D' →
  Ext F U σ'/\HH σ' (λb=>F b/\b<U.size/\¬(G b\/D b)\/G' b\/D' b) L' H':=
 h.oR i j hij _ (λb a _=>O) h.lY.1 h.lY.2
theorem HH.hd (h:HH U F L H):bY U L.p (xW L H.cf):=by obtain⟨G,b,a⟩:=h.sep.get .hd;exact a.2
theorem HH.ju (h:HH U F L H):cX L.dC 3 (fZ H.tb) U F:=by
 obtain⟨G,d,a⟩:=h.sep.get .dC;exact aH.mono a λb _ a=>d b a
theorem HH.oI (h:HH U F L H):L.dC.len=H.tb.length:=by
 have:=h.ju.1;rw[VD]at this;omega
theorem HH.mM (h:HH U F L H):cX L.fO 1 (fM (L.ys.map (·.p))) U F:=by
 obtain⟨G,d,a⟩:=h.sep.get .fO;exact aH.mono a λb _ a=>d b a
theorem HH.mB (h:HH U F L H):L.fO.len=H.bX.length:=by
 have:=h.mM.1;have:=h.s.ys;simp[fM]at *;omega
theorem HH.mu (h:HH U F L H):cX L.cN 3 (gR L.ts H.bQ) U F:=by
 obtain⟨G,d,a⟩:=h.sep.get .cN;exact aH.mono (bS.gY a) λb _ a=>d b a
theorem HH.lG (h:HH U F L H):L.cN.len=H.bQ.length:=by
 have:=h.mu.1;rw[Hh h.s.ts]at this;omega
theorem HH.mD (h:HH U F L H):dL U L.lm .i64 (.ag 4) H.live:=by obtain⟨G,b,a⟩:=h.sep.get .live;exact a.2
theorem HH.Rf (h:HH U F L H):dK U F L.hs H.sp:=by
 obtain⟨G,d,a⟩:=h.sep.get .sp;exact dM.mono dK.loc a λb _ a=>d b a
theorem HH.ar (h:HH U F L H){A:AR}(hk:H.bX[k]?=some A):∃Y,L.ys[k]?=some Y/\Y.hs=L.hs/\dG U F Y A (cK A Y):=by
 have g:=(cW.1 hk).1;have d:L.ys[k]?=some (L.ys[k]'(by rw[h.s.ys];exact g)):=cV _;obtain⟨G,e,a⟩:=h.sep.get (.ar k);simp only[CH,hk,d,nG]at a;exact⟨_,d,h.s.hs _ (zG d),a.mono λb _ a=>e b a⟩
theorem HH.rA (h:HH U F L H){Y:Lay}(hy:L.ys[k]?=some Y){K:Option Addr->Prop}(hK:K (some ⟨Y.p,0,none⟩)):Ix L.fO.a L.fO.len (k:Int) 1 λa=>fU a U K:=
 yH h.mM (by simp[hy]) hK
theorem HH.th (h:HH U F L H)(ht:t<H.bQ.length):∃x g,L.ts[t]?=some x/\H.bQ[t]?=some g:=⟨L.ts[t]'(by rw[h.s.ts];exact ht),H.bQ[t],cV _,cV _⟩
theorem G9 {s:Sl}{ts:List eJ}{bQ:List Th}(h:cX s 3 (gR ts bQ) U F){x:eJ}{g:Th}(hx:ts[t]?=some x)(hg:bQ[t]?=some g){d:Nat}(hd:d<3){v:Value}(hv:(jt (x,g))[d]?=some v):∃b o,s.a=some ⟨b,o,none⟩/\cell U ⟨b,o+(3*t+d),none⟩=some v:=
 h.cell ((Al hx hg hd).trans hv)
theorem BQ {s:Sl}{ts:List eJ}{bQ:List Th}(hs:cX s 3 (gR ts bQ) U F)(hl:ts.length=bQ.length){x:eJ}{g:Th}(hx:ts[t]?=some x)(hg:bQ[t]?=some g){d:Nat}(hd:d<3){v:Value}(hv:(jt (x,g))[d]?=some v){K:Addr->Prop}
 (hK:∀b o,s.a=some ⟨b,o,none⟩->cell U (Addr.add ⟨b,o+3*t,none⟩ d)=some v->K ⟨b,o+3*t,none⟩):Ix s.a s.len (t:Int) 3 K:=by
 have m:=(cW.1 hg).1;have e:=hs.1;rw[Hh hl]at e;obtain⟨b,o,i,j⟩:=G9 hs hx hg hd hv;rw[i];refine ix O O ?_;rw[add_lit,show o+(t:Int).toNat*3=o+3*t by omega];exact hK b o i (by rw[add_lit,show o+3*t+d=o+(3*t+d) by omega];exact j)
theorem HH.Fe (h:HH U F L H){x:eJ}{g:Th}(hx:L.ts[t]?=some x)(hg:H.bQ[t]?=some g){d:Nat}(hd:d<3){v:Value}(hv:(jt (x,g))[d]?=some v){K:Addr->Prop}
 (hK:∀b o,cell U (Addr.add ⟨b,o+3*t,none⟩ d)=some v->K ⟨b,o+3*t,none⟩):Ix L.cN.a L.cN.len (t:Int) 3 K:=
 BQ h.mu h.s.ts hx hg hd hv λb o _ e=>hK b o e
theorem HH.tS (h:HH U F L H){x:eJ}{g:Th}(hx:L.ts[t]?=some x)(hg:H.bQ[t]?=some g){K:Sl->Prop}(hK:K x.h):Ix L.cN.a L.cN.len (t:Int) 3 λa=>jq (a.add 1) U K:=
 h.Fe hx hg (d:=1) O rfl λb o e=>nq e hK
theorem HH.tR (h:HH U F L H){x:eJ}{g:Th}(hx:L.ts[t]?=some x)(hg:H.bQ[t]?=some g){K:Value->Prop}(hK:K (mK g.ph)):Ix L.cN.a L.cN.len (t:Int) 3 λa=>yl (a.add 2) U K:=
 h.Fe hx hg (d:=2) O rfl λb o e=>⟨_,e,hK⟩
theorem HS.dS (h:HS L H){bQ:List Th}{ts:List eJ}(e:ts.length=bQ.length)(e2:bQ.length=H.bQ.length):HS {L with ts:=ts} {H with bQ:=bQ}:=⟨h.ys,h.hs,e,h.a1,h.a2,by rw[e2];exact h.t1,by rw[e2];exact h.t2,h.tb⟩
theorem HS.cC (h:HS L H){A:AR}{sp:Sp}(e:A.tb=H.tb):HS L {H.cC k A with sp:=sp}:=⟨by simp[Hw.cC,h.ys],h.hs,h.ts,by simp[Hw.cC,h.a1],by simp[Hw.cC,h.a2],h.t1,h.t2,λB a=>by
 rcases wT a with h1|h1
 ·exact h.tb B h1
 ·subst h1;exact e⟩
theorem CU {A:AR}:∀j,j≠kz.ar k->CH (H.cC k A) L j=CH H L j:=by
 intro j hj;cases j<;>try rfl
 rename_i m;have a:m≠k:=λe=>hj (by rw[e]);simp only[CH,Hw.cC,zk (Ne.symm a)]
theorem Fm {sp:Sp}:∀j,j≠kz.sp->CH {H with sp:=sp} L j=CH H L j:=by
 intro j hj;cases j<;>first|rfl|exact absurd rfl hj
theorem Pe {l:List (Int×Bk)}:∀j,j≠kz.live->CH {H with live:=l} L j=CH H L j:=by
 intro j hj;cases j<;>first|rfl|exact absurd rfl hj
theorem HH.vW (h:HH U F L H){A:AR}(hk:H.bX[k]?=some A):∃(Y:Lay) (G:Rg),L.ys[k]?=some Y/\Y.hs=L.hs/\(∀b,G b->F b)/\dG U G Y A (cK A Y)/\∀(σ':Hp) (A':AR) (G':Rg),A'.tb=A.tb->Ext G U σ'->(∀b,G' b->Grow G U b)->dG σ' G' Y A' (cK A' Y) →
 Ext F U σ'/\HH σ' (λb=>F b/\b<U.size/\¬G b\/G' b) L (H.cC k A'):=by
 have i:=(cW.1 hk).1;have d:L.ys[k]?=some (L.ys[k]'(by rw[h.s.ys];exact i)):=cV _;generalize (L.ys[k]'(by rw[h.s.ys];exact i))=Y at d;obtain⟨G,m,j,_,a⟩:=h.lL (.ar k);simp only[CH,hk,d,nG]at j;refine⟨Y,G,d,h.s.hs _ (zG d),m,j,λσ' A' G' g e p r=>?_⟩;refine a σ' (H.cC k A') L G' (h.s.cC (sp:=H.sp) (g.trans (h.s.tb A (zG hk)))) CU e p ?_;simp only[CH,Hw.cC,d,zL i,nG];exact r
theorem HH.oC (h:HH U F L H){A:AR}(hk:H.bX[k]?=some A):∃(Y:Lay) (G D:Rg),L.ys[k]?=some Y/\Y.hs=L.hs/\W2 U G D Y A (cK A Y) H.sp/\∀(σ':Hp) (A':AR) (sp':Sp) (G' D':Rg),A'.tb=A.tb->Ext (iX G D) U σ'->Fits U G D G' D'->W2 σ' G' D' Y A' (cK A' Y) sp' →
 Ext F U σ'/\HH σ' (Grow F U) L {H.cC k A' with sp:=sp'}:=by
 have E:=(cW.1 hk).1;have i:L.ys[k]?=some (L.ys[k]'(by rw[h.s.ys];exact E)):=cV _;generalize (L.ys[k]'(by rw[h.s.ys];exact E))=Y at i;obtain⟨G,D,C,z,hd,M,J,_,r⟩:=h.oc (.ar k) .sp (by intro e;cases e);simp only[CH,hk,i,nG]at M;have J:dK U D L.hs H.sp:=J;have j:=h.s.hs _ (zG i);refine⟨Y,G,D,i,j,⟨M,by rw[j];exact J,hd,h.g,h.o.sub C,h.o.sub z⟩,λσ' A' sp' G' D' B e N K=>?_⟩;have w:∀b,G' b->(G b\/D b)\/U.size<=b:=λb x=>(N.1 b x).imp .inl id;have u:∀b,D' b->(G b\/D b)\/U.size<=b:=λb x=>.inl (.inr (N.2 b x));have Q:∀m,m≠kz.ar k->m≠kz.sp->CH {H.cC k A' with sp:=sp'} L m=CH H L m:=λm y P=>
  (CU (H:={H with sp:=sp'}) (L:=L) (A:=A') m y).trans (Fm m P)
 have R:CH {H.cC k A' with sp:=sp'} L (.ar k) σ' G':=by
  simp only[CH,Hw.cC,i,zL E,nG];exact K.a
 have S:CH {H.cC k A' with sp:=sp'} L .sp σ' D':=by
  show dK σ' D' L.hs sp';rw[←j];exact K.s
 obtain⟨e1,y⟩:=r σ' {H.cC k A' with sp:=sp'} L G' D' (h.s.cC (B.trans (h.s.tb A (zG hk)))) Q e w u K.d R S;refine⟨e1,h.grown y λb x p=>?_⟩;rcases p with p|p|p
 ·exact .inl p.1
 ·exact(w b p).imp (λi=>i.elim (C b) (z b)) id
 ·exact(u b p).imp (λi=>i.elim (C b) (z b)) id
theorem HH.we (h:HH U F L H):∃G:Rg,(∀b,G b->F b)/\dK U G L.hs H.sp/\iS G/\∀(σ':Hp) (sp':Sp),Ext G U σ'->dK σ' (Grow G U) L.hs sp'->Ext F U σ'/\HH σ' (Grow F U) L {H with sp:=sp'}:=by
 obtain⟨G,g,m,_,d⟩:=h.lL .sp;refine⟨G,g,m,h.o.sub g,λσ' sp' e hs=>?_⟩;obtain⟨e1,j⟩:=d σ' {H with sp:=sp'} L (Grow G U) ⟨h.s.ys,h.s.hs,h.s.ts,h.s.a1,h.s.a2,h.s.t1,h.s.t2,h.s.tb⟩ Fm e (λb i=>i) hs;exact⟨e1,h.grown j λb i a=>by
  rcases a with a|a
  ·exact .inl a.1
  ·exact a.imp (g b) id⟩
theorem HH.qY (h:HH U F L H):F L.lm/\∀(σ':Hp) (l:List (Int×Bk)),Qk U σ' L.lm->dL σ' L.lm .i64 (.ag 4) l->Ext F U σ'/\HH σ' F L {H with live:=l}:=by
 obtain⟨G,i,a,_,e⟩:=h.lL .live;have a:jA L.lm .i64 (.ag 4) H.live U G:=a;refine⟨i _ a.1,λσ' l m p=>?_⟩;obtain⟨e1,j⟩:=e σ' {H with live:=l} L G ⟨h.s.ys,h.s.hs,h.s.ts,h.s.a1,h.s.a2,h.s.t1,h.s.t2,h.s.tb⟩ Pe (m.ext.sub λb g=>by rw[g];exact a.1) (λb g=>.inl g) ⟨a.1,p⟩;exact⟨e1,j.mono (λb _ d=>by
  rcases d with d|d
  ·exact d.1
  ·exact i b d) h.o h.o2⟩
theorem HH.nS (h:HH U F L H){x:eJ}{g:Th}(hx:L.ts[t]?=some x)(hg:H.bQ[t]?=some g):∃G:Rg,(∀b,G b->F b)/\eB U G x.c H.tb H.cf.dA g.ls/\∀(σ':Hp) (ls:List Li) (Y':gK) (G':Rg),Y'.p=x.c.p->Ext G U σ'->(∀b,G' b->Grow G U b)->eB σ' G' Y' H.tb H.cf.dA ls →
 Ext F U σ'/\HH σ' (λb=>F b/\b<U.size/\¬G b\/G' b) {L with ts:=L.ts.set t {x with c:=Y'}} {H with bQ:=H.bQ.set t {g with ls:=ls}}:=by
 have i:=(cW.1 hx).1;have r:=(cW.1 hg).1;obtain⟨G,E,z,_,a⟩:=h.lL (.ca t);simp only[CH,hx,hg,qu]at z;refine⟨G,E,z,λσ' ls Y' G' A e w C=>?_⟩;have y:gR (L.ts.set t {x with c:=Y'}) (H.bQ.set t {g with ls:=ls})=gR L.ts H.bQ:=by
  have D:(gR L.ts H.bQ).set (3*t+0) (.pointer (some ⟨x.c.p,0,none⟩))=gR L.ts H.bQ:=Z4 (Al hx hg O);rw[←D];exact(xI hx hg (d:=0) O (by simp[jt,A])).symm
 refine a σ' {H with bQ:=H.bQ.set t {g with ls:=ls}} {L with ts:=L.ts.set t {x with c:=Y'}} G' (h.s.dS (by simp[h.s.ts]) aA) (λj B=>?_) e w ?_
 ·cases j<;>try rfl
  ·simp only[CH,y]
  ·rename_i m;have u:m≠t:=λe=>B (by rw[e]);simp only[CH,zk (Ne.symm u)]
  ·rename_i m;by_cases u:m=t
   ·subst u;simp only[CH,zL i,zL r,hx,hg];rfl
   ·simp only[CH,zk (Ne.symm u)]
 ·simp only[CH,zL i,zL r,qu];exact C
theorem HH.re (h:HH U F L H){x:eJ}{g:Th}(hx:L.ts[t]?=some x)(hg:H.bQ[t]?=some g)(N:Rg)(hN:∀b,b<U.size->F b->¬N b)(oN:iS N)(oN2:¬N 1):∃G D:Rg,(∀b,G b->F b)/\(∀b,D b->F b)/\(∀b,G b->¬D b)/\ik x.h g.bP U G/\bS L.cN 3 (gR L.ts H.bQ) U D/\(∃E:Rg,(∀b,E b->¬G b)/\(∀b,E b->¬D b)/\iq L.p (xW L H.cf) U E) ∧
 ∀(σ':Hp) (s:Sl) (bs:List Bt) (G' D':Rg),Ext (λb=>G b\/D b) U σ'->(∀b,G' b->(G b\/D b)\/N b)->(∀b,D' b->(G b\/D b)\/N b)->(∀b,G' b->¬D' b)->ik s bs σ' G'->bS L.cN 3 ((gR L.ts H.bQ).set (3*t+1) (.slice s.a s.len s.cap)) σ' D' →
  Ext F U σ'/\HH σ' (λb=>F b/\b<U.size/\¬(G b\/D b)\/G' b\/D' b) {L with ts:=L.ts.set t {x with h:=s}} {H with bQ:=H.bQ.set t {g with bP:=bs}}:=by
 have u:=(cW.1 hx).1;have j:=(cW.1 hg).1;obtain⟨G,D,W,V,hd,P,B,r,i⟩:=h.oR (.hn t) .cN (by intro e;cases e) N hN oN oN2;simp only[CH,hx,hg,pz]at P;have B:bS L.cN 3 (gR L.ts H.bQ) U D:=B;obtain⟨E,_,M,C⟩:=r .hd (by intro e;cases e) (by intro e;cases e);refine⟨G,D,W,V,hd,P,B,⟨E,λb K hx=>M b K (.inl hx),λb K hx=>M b K (.inr hx),C⟩,λσ' s bs G' D' e J y A X S=>?_⟩;have z:gR (L.ts.set t {x with h:=s}) (H.bQ.set t {g with bP:=bs})=(gR L.ts H.bQ).set (3*t+1) (.slice s.a s.len s.cap):=(xI hx hg (d:=1) O (by simp[jt])).symm;refine i σ' {H with bQ:=H.bQ.set t {g with bP:=bs}} {L with ts:=L.ts.set t {x with h:=s}} G' D' (h.s.dS (by simp[h.s.ts]) aA) (λm Q R=>?_) e J y A ?_ ?_
 ·cases m<;>first|rfl|exact absurd rfl R|skip
  ·rename_i m;by_cases w:m=t
   ·subst w;simp only[CH,zL u,zL j,hx,hg];rfl
   ·simp only[CH,zk (Ne.symm w)]
  ·rename_i m;have w:m≠t:=λe=>Q (by rw[e]);simp only[CH,zk (Ne.symm w)]
 ·simp only[CH,zL u,zL j,pz];exact X
 ·simp only[CH,z];exact S
theorem HH.rq (h:HH U F L H){x:eJ}{g:Th}(hx:L.ts[t]?=some x)(hg:H.bQ[t]?=some g)(p:Option Ph){K:aP}(hK:∀σ',Ext F U σ'->HH σ' F L {H with bQ:=H.bQ.set t {g with ph:=p}}->K σ') :
 Ix L.cN.a L.cN.len (t:Int) 3 λa=>And (iR (mK p)) (dX (a.add 2) (mK p) U K):=by
 have M:=(cW.1 hx).1;have u:=(cW.1 hg).1;have A:=h.lG;obtain⟨G,J,w,_,r⟩:=h.lL .cN;have w:bS L.cN 3 (gR L.ts H.bQ) U G:=w;have B:=Hh h.s.ts;obtain⟨b,y⟩:∃b,L.cN.a=some ⟨b,0,none⟩:=by
  rcases w.2 with⟨h0,_⟩|⟨b,_,_,ha,_⟩
  ·omega
  ·exact⟨b,ha⟩
 rw[y];refine ix O O ⟨uA p,?_⟩;refine w.st (j:=3*t+2) O (λN i=>by rw[y]at i;cases i;rw[add_lit,add_lit];congr 1;omega) λσ' e D=>?_;have z:gR L.ts (H.bQ.set t {g with ph:=p})=(gR L.ts H.bQ).set (3*t+2) (mK p):=by
  have:=xI hx hg (d:=2) (v:=mK p) (x':=x) (h':={g with ph:=p}) O (by simp[jt]);rw[this,Z4 hx]
 obtain⟨e1,C⟩:=r σ' {H with bQ:=H.bQ.set t {g with ph:=p}} L G (h.s.dS (ts:=L.ts) (by simp[h.s.ts]) aA) (λj E=>by
  cases j<;>first|rfl|exact absurd rfl E|skip
  ·rename_i m;by_cases hm:t=m
   ·subst hm;simp only[CH,zL u,hx,hg];rfl
   ·simp only[CH,zk hm]
  ·rename_i m;by_cases hm:t=m
   ·subst hm;simp only[CH,zL u,hx,hg];rfl
   ·simp only[CH,zk hm]) e (λb y=>.inl y) (by simp only[CH,z];exact D)
 exact hK σ' e1 (C.mono (λb _ hx=>by
  rcases hx with hx|hx
  ·exact hx.1
  ·exact J b hx) h.o h.o2)
end Go.Ar
namespace Go.Ar
open Go Go.Vc Go.Proofs
open Go.Bu (Zb Qx Y8)
variable {U:Hp}{F H:Rg}{p hs:Nat}{A:AR}{sp:Sp}{Y:Lay}{T:Nat->Hp->Rg->Prop}
end Go.Ar
namespace Go.Ar
open Go Go.Vc Go.Proofs
variable {U:Hp}{F:Rg}{L:dH}{H:Hw}{t k:Nat}
theorem Uf (h:HH U F L H){R:aO}(hR:R true U):Xr.c (aW L.p) U R:=by
 refine Xr.o ?_;unfold Xr.v;have a:=h.lG;have b:=h.s.t1;refine bV.intro (cD rfl (aG (h.hd.rS rfl ?_)));rw[zJ aC];exact hR
theorem yS (h:HH U F L H)(x:Int){R:aO}(hR:R (decide (0<=x/\x<(H.bQ.length:Int))) U):XY.c (aW L.p) x U R:=by
 refine XY.o ?_;unfold XY.v;have a:=h.lG;refine bV.intro (cQ (λb=>aG (h.hd.rS rfl ?_)) λb=>?_)
 ·have:decide (x<((L.cN.len:Nat):Int))=decide (0<=x/\x<(H.bQ.length:Int)):=by rw[decide_eq_decide,a];omega
  simp only[this];exact hR
 ·rw[zM O]at hR;exact hR
theorem Fi (h:HH U F L H)(t:Nat){R:aN}(hR:R ((H.own t:Nat):Int) U):Zm.c (aW L.p) (t:Int) U R:=by
 refine Zm.o ?_;unfold Zm.v;have a:=h.mB;have b:=h.s.a1;refine aG (h.hd.rS rfl (nz aC ?_));have:((t:Int).tmod ((L.fO.len:Nat):Int))=((H.own t:Nat):Int):=by rw[Qm O,a];unfold Hw.own;omega
 simp only[this];exact hR
theorem GR (h:HH U F L H)(x:Int)(hx9:x<=9223372036854775807){R:aN}(hR:∀σ',bK U σ'->R (XP H.bX x) σ'):XQ.c (aW L.p) x U R:=by
 refine XQ.o ?_;unfold XQ.v;refine nw (cs:=[.int .i64 x]) λv hz e Q=>Q.ud rfl ?_;have P:=h.bO e;by_cases hx:x<0
 ·have:=hR v e;unfold XP at this;rw[zC hx]at this;exact lB hx this
 refine fS hx (aG (P.hd.rS rfl ?_));have hl:=h.mB;have Z:=h.s.a2;refine Wk.o ?_;unfold Wk.v;refine ZS (a:=bN) (λ(z:Int) w=>∃i:Nat,z=(i:Int)/\i<=H.bX.length/\bK U w/\HH w F L H/\bY w U.size [.int .i64 x]/\∀j A,j<i->H.bX[j]?=some A->GZ A (x/256)=false) (λz _=>H.bX.length-z.toNat) ⟨0,rfl,O,e,P,Q,λj A d=>O⟩ ?_;rintro z w ⟨i,rfl,hi,C,J,u,b⟩;refine cQ (λy=>?_) λK=>?_
 ·simp only at y;have D:i<H.bX.length:=by omega
  have g:H.bX[i]?=some H.bX[i]:=cV D;generalize H.bX[i]=A at g;obtain⟨Y,V,S,G⟩:=J.ar g;refine J.rA V (pd (all := #[.pointer (some ⟨Y.p,0,none⟩),.pointer (some ⟨U.size,0,none⟩)]) (by kernel_rfl) aA ?_);refine YP.o ?_;unfold YP.v;refine u.ud rfl (nz aB (ar (by rw[Xs O];omega) (by rw[Xs O];omega) ?_));rw[Xs O];refine Iz G (x/256) (cO (λX=>?_) λW=>?_)
  ·have:XP H.bX x=(i:Int):=by
    unfold XP;rw[zB hx];have:H.bX.findIdx? (λA=>GZ A (x/256))=some i:=by
     obtain⟨M,rfl⟩:=cW.1 g;exact m5.2 ⟨M,X,λj d=>by rw[b j _ d (cV O)];simp⟩
    rw[this]
   have r:=hR w C;rw[this]at r;exact r
  ·exact cP (m:=i+1) O O ⟨⟨i+1,rfl,O,C,J,u,λj B d E=>by
    by_cases e:j=i
    ·subst e;rw[g]at E;cases E;exact W
    ·exact b j B O E⟩,O⟩
 ·have N:i=H.bX.length:=by simp only at K;omega
  subst N;have:XP H.bX x = -1:=by
   unfold XP;rw[zB hx];have:H.bX.findIdx? (λA=>GZ A (x/256))=none:=by
    rw[ub];intro A g;obtain⟨j,d⟩:=zQ g;exact b j A (cW.1 d).1 d
   rw[this]
  have r:=hR w C;rw[this]at r;exact r
theorem D5 (h:HH U F L H){R:Int->Int->Int->Int->Int->Hp->Prop}(hR:∀σ',bK U σ'->R (H.cf.aF:Int) (H.cf.gW:Int) (H.cf.threads:Int) (H.cf.dA:Int) (H.cf.room:Int) σ'):X1.c (aW L.p) U R:=by
 refine X1.o ?_;unfold X1.v;refine nw (cs:=[.int .i64 0,.int .i64 0,.int .i64 0,.int .i64 0,.int .i64 0]) λv s e m=>Uf (h.bO e) (cB rfl ?_);have hd:=(h.bO e).hd;refine aG (hd.eZ rfl (hd.eZ rfl (hd.eZ rfl (hd.eZ rfl (hd.eZ rfl ?_)))));refine m.s1 aA λr o1 g=>g.s1 aA λu o2 j=>j.s1 aA λv3 o3 d=>d.s1 aA λw o4 b=>b.s1 aA λi o5 a=>?_;refine a.rI rfl (a.rI rfl (a.rI rfl (a.rI rfl (a.rI rfl (hR i ?_)))));exact((((e.only o1 (.inr (zD _))).only o2 (.inr (zD _))).only o3 (.inr (zD _))).only o4 (.inr (zD _))).only o5 (.inr (zD _))
theorem EB (h:HH U F L H){R:Option Addr->Hp->Prop}(hR:R (some ⟨L.hs,0,none⟩) U):Yy.c (aW L.p) U R:=by
 refine Yy.o ?_;unfold Yy.v;exact Uf h (cB rfl (aG (h.hd.rP rfl hR)))
theorem PC (h:HH U F L H)(x:Int)(hx:x<=9223372036854775807){R:Int->Int->Hp->Prop}(hR:∀σ',bK U σ'->R (if eH H.sp x=0 then H.sp.wd (x.toNat/8)else 0) (eH H.sp x) σ'):YN.c (aW L.p) x U R:=by
 refine YN.o ?_;unfold YN.v;exact EB h (ID h.Rf h.g x hx hR)
theorem Rk (h:HH U F L H)(gc:Gc U)(x v:Int)(hx:x<=9223372036854775807){R:aN}(hR:∀σ',Ext F U σ'->HH σ' (Grow F U) L {H with sp:=ZU H.sp x v}->R (eH H.sp x) σ'):Xd.c (aW L.p) x v U R:=by
 refine Xd.o ?_;unfold Xd.v;obtain⟨G,m,j,d,a⟩:=h.we;refine EB h (MS j h.g gc x hx v λσ' e b=>?_);obtain⟨e1,i⟩:=a σ' _ e b;exact hR σ' e1 i
theorem OF (h:HH U F L H)(x:Int){R:Int->Int->Hp->Prop}(hR:∀σ',bK U σ'->R ((bW H.live x).elim 0 λb=>b.2.1) (if(bW H.live x).isSome then 0 else 8) σ'):Xx.c (aW L.p) x U R:=by
 refine Xx.o ?_;unfold Xx.v;refine Uf h (cB rfl (aG (h.hd.rM rfl ⟨_,h.mD,?_⟩)));refine nw (cs:=[.int .i64 0,.int .i64 0,.int .i64 0,.int .i64 0]) λv y e s=>?_;refine s.s1 aA λu o1 m=>m.s1 aA λw o2 r=>r.s1 aA λv3 o3 j=>j.s1 aA λv4 o4 d=>?_;have i:bK U v4:=(((e.only o1 (.inr (zD _))).only o2 (.inr (zD _))).only o3 (.inr (zD _))).only o4 (.inr (zD _));have a:=hR v4 i;cases hm:bW H.live x with
 | none=>
  rw[hm]at a;exact cD rfl a
 | some b=>
  rw[hm]at a;refine cB rfl (d.rI rfl ?_);have g:((bW H.live x).getD ((0,0,0,0):Bk)).2.1=b.2.1:=by rw[hm];rfl
  rw[g];exact a
theorem Vz (h:HH U F L H)(ht:t<H.bQ.length){R:Value->Hp->Prop}(hR:R (mK (jO H t)) U):WW.c (aW L.p) (t:Int) U R:=by
 refine WW.o ?_;unfold WW.v;obtain⟨x,g,d,a⟩:=h.th ht;refine aG (h.hd.rS rfl (h.tS d a ?_));obtain⟨G,i,b⟩:=h.sep.get (.hn t);simp only[CH,d,a,pz]at b;have e:=b.len;unfold jO at hR;rw[a]at hR;simp only at hR;by_cases h0:g.bP=[]
 ·rw[zC h0]at hR;exact cD (by rw[e,h0];rfl) hR
 ·rw[zB h0]at hR;have:=pf.2 h0;exact cB (by simp only[mf];omega) hR
theorem BD (h:HH U F L H)(x size cls:Int)(hx9:x<=9223372036854775807){R:Value->Int->Int->Hp->Prop}(hR:∀σ',Ext F U σ'->HH σ' F L (Vk H x size cls)->R .nilIface x 0 σ'):YF.c (aW L.p) x size cls U R:=by
 refine YF.o ?_;unfold YF.v;refine nw (cs:=[.int .i64 0,.int .i64 0]) λv E e a=>?_;have j:=h.cut.bO e;refine⟨λu=>bK v u,Ext.refl _ _,aG ⟨some L.lm,λu B=>by rw[add_lit,((j.bO B).hd).cell];rfl,?_⟩⟩;refine GR j x hx9 λD e1=>⟨e1,?_⟩;have s:=j.bO e1;obtain⟨y,d⟩:=s.qY;refine⟨L.lm,_,rfl,s.mD,λi o2 m=>?_⟩;obtain⟨e2,z⟩:=d i _ o2 m;have g:bY i U.size [.int .i64 0,.int .i64 0]:=Ws o2 (e1.bT a id) (by have:=y.2;omega);refine g.s1 aA λv3 o3 A=>A.s1 aA λv4 o4 w=>w.rI rfl (w.rI rfl (hR v4 ?_ ?_))
 ·exact(((bK.to (e.trans e1)).trans (e2.sub λb a=>a.1)).only o3 (.inr (zD _))).only o4 (.inr (zD _))
 ·have r:Ext (· = U.size) i v4:=o3.ext.trans o4.ext;have C:=h.uX z r (λb a=>O) (λb _ a G=>by have:=a.2;omega);exact C.mono (λb _ a=>a.1) h.o h.o2
theorem Gr (h:HH U F L H)(ht:t<H.bQ.length)(k:Nat){s:Sl}{xs:List Int}{X:Rg}(hs:cX s 1 (Wo xs) U X)(hc:s.len<=s.cap)(hxs:xs≠[])(hX:∀b,b<U.size->X b->¬F b)(oX:iS X)(oX2:¬X 1)(hlen:∀g,H.bQ[t]?=some g->g.bP.length<=1000){R:aP}
 (hR:∀σ' ts',Ext F U σ'->HH σ' (λb=>Grow F U b\/X b) {L with ts:=ts'} (Qz H t k xs)->R σ'):Yi.c (aW L.p) (t:Int) (k:Int) s U R:=by
 refine Yi.o ?_;unfold Yi.v;obtain⟨x,g,r,W⟩:=h.th ht;have htl:=Hh h.s.ts;have hrl:=h.lG;have hlen:=hlen g W;obtain⟨G,D,hG,P,hd,hB,hr,⟨E,hE1,hE2,hhd⟩,Z⟩:=h.cut.re r W (λb=>U.size<=b\/b<U.size/\X b) (λb m hf hn=>by
  rcases hn with hn|hn
  ·omega
  ·exact hX b m hn.2 hf.1) (λb m=>m.elim (h.lY.1 b) λm=>oX b m.2) (λm=>m.elim h.lY.2 λm=>oX2 m.2)
 obtain⟨ps,Dn,A,K,J,hj,aa⟩:=hB;have B:∀u,Ext G U u->bY u L.p (xW L H.cf):=λu z=>((iq.loc _ _).bR hhd z λb _ m r=>hE1 b m r).2;have ac:∀u,Ext G U u->bS L.cN 3 (gR L.ts H.bQ) u D:=λu z=>aI.bR hr z λb _ m r=>hd b r m;refine⟨λu=>Ext G U u,Ext.refl _ _,aG ⟨L.cN,λu z=>by rw[add_lit,(B u z).cell];rfl,aG ⟨L.cN,λu z=>by rw[add_lit,(B u z).cell];rfl,?_⟩⟩⟩;refine BQ (bS.gY hr) h.s.ts r W (d:=1) O rfl λb o ha _=>⟨x.h,λu z=>?_,?_⟩
 ·obtain⟨b',o',V,hc'⟩:=G9 (bS.gY (ac u z)) r W (d:=1) O rfl;rw[ha]at V;cases V;rw[add_lit,show o+3*t+1=o+(3*t+1) by omega];exact hc'
 refine nw (cs:=[.int .i64 (k:Int),.slice s.a s.len s.cap]) λv hz e m=>⟨bK.to e,?_⟩;have M:=(dI.loc _ _ _).bO ((dI.loc _ _ _).cut A) e;have ab:=(ka.loc _ _).bO ((ka.loc _ _).cut K) e;have hs1:=aH.bO (aH.cut hs) e;have hpl:x.h.len=ps.length:=by have:=A.1;rw[Kt]at this;omega
 have hpg:ps.length=g.bP.length:=K.1;refine M.app (ys:=nv (k,s)) rfl rfl ?_ (λv hv=>UK (l:=[(k,s)]) v (by simpa[fE]using hv)) ?_ ?_ mG λs' v2 hl2 e2 hr2=>?_
 ·intro j u z;rw[add_lit,zH,m.cell];exact z
 ·simp only;have:(x.h.len+1)*32<=1001*32:=lR O O;omega
 ·simp only;omega
 have hs2:=e2.1;have eG:Ext G U v2:=(bK.to e).trans (e2.sub λb m=>m.1.1);refine⟨eG,?_⟩;obtain⟨b0,Y⟩:∃b,L.cN.a=some ⟨b,0,none⟩:=by
  rcases hr.2 with⟨h0,_⟩|⟨b,_,_,ha,_⟩
  ·omega
  ·exact⟨b,ha⟩
 rw[Y];refine ix O O ?_;refine(ac v2 eG).st (j:=3*t+1) O (λb' Q=>by rw[Y]at Q;cases Q;rw[add_lit,add_lit];congr 1;omega) λσ' S hr3=>?_;have hs3:=S.1;have e03:Ext (λb=>G b\/D b) U σ':=(eG.sub λb m=>.inl m).trans (S.sub λb m=>.inr m);have hr4:=(dI.loc _ _ _).bR ((dI.loc _ _ _).cut hr2) S λb _ m r=>by
  rcases m.1 with h1|h1
  ·exact hd b h1.1.1 r
  ·have:=(P b r).2;omega
 have hB4:=(ka.loc _ _).bR ((ka.loc _ _).bR ab e2 λb _ m r=>r.1.2 m.1) S λb _ m r=>hd b (J b m.1) r;have hs4:=aH.bR (aH.bR hs1 e2 λb m r w=>hX b r.2 r.1 (hG b w.1.1).1) S λb _ r w=>hX b r.2 r.1 (P b w).1;have hBt:ik s' (g.bP++[(k,xs)]) σ' (λb=>G b/\b<U.size\/b<U.size/\X b\/v.size<=b/\b<v2.size):=by
  refine⟨ps++[(k,s)],λb=>Dn b/\b<U.size\/b<U.size/\X b,?_,⟨by simp[hpg],λi p y C w=>?_⟩,λb m=>?_,hj.snoc K aa hs hxs (λb m r w=>hX b m w (hG b (J b r)).1) k,λy w=>?_⟩
  ·rw[UF];have:fE [(k,s)]=nv (k,s):=by simp[fE]
   rw[this];refine(dI.loc _ _ _).mono hr4 λq _ N=>?_;rcases N.1 with h1|h1
   ·exact⟨.inl ⟨h1.1.1,h1.2⟩,λr=>by
     rcases r with r|r
     ·exact h1.1.2 r.1
     ·exact hX q r.1 r.2 (hG q h1.1.1).1⟩
   ·exact⟨.inr (.inr ⟨h1,N.2⟩),λr=>by
     rcases r with r|r<;>omega⟩
  ·rcases ku i ps.length with hi|hi
   ·rw[zh hi]at C;rw[zh O]at w;obtain⟨a1,a2,a3⟩:=hB4.2 i p y C w;exact⟨a1,aH.mono a2 λq _ N=>.inl N,a3⟩
   ·rw[zp hi]at C;rw[zp O]at w;have hi0:i-ps.length=0:=by
     have:=(cW.1 C).1;simp at this;omega
    rw[hi0]at C;rw[show i-g.bP.length=0 by omega]at w;simp at C w;subst C;subst w;exact⟨rfl,aH.mono hs4 λq _ N=>.inr ⟨N.2,N.1⟩,hc⟩
  ·rcases m with m|m
   ·exact .inl ⟨J b m.1,m.2⟩
   ·exact .inr (.inl m)
  ·rcases zK.1 w with h1|h1
   ·exact aa y h1
   ·rw[zN]at h1;subst h1;exact hxs
 obtain⟨eF,h4⟩:=Z σ' s' (g.bP++[(k,xs)]) (λb=>G b/\b<U.size\/b<U.size/\X b\/v.size<=b/\b<v2.size) D e03 (λb m=>by
  rcases m with m|m|m
  ·exact .inl (.inl m.1)
  ·exact .inr (.inr m)
  ·exact .inr (.inl O)) (λb m=>.inl (.inr m)) (λb m r=>by
  have:=(P b r).2;rcases m with m|m|m
  ·exact hd b m.1 r
  ·exact hX b m.1 m.2 (P b r).1
  ·omega) hBt hr3
 refine hR σ' (L.ts.set t {x with h:=s'}) (eF.sub λb m=>m.1) ?_;have e5:Qz H t k xs = {H with bQ:=H.bQ.set t {g with bP:=g.bP++[(k,xs)]}}:=by
  unfold Qz Hw.dS
  congr 1
  exact KI W
 rw[e5];refine h4.mono (λb _ m=>?_) (λb (m:Grow F U b\/X b)=>m.elim (h.oG b) (oX b)) λ(m:Grow F U _\/X _)=>m.elim h.qA oX2;rcases m with m | (m|m|m)|m
 ·exact .inl (.inl m.1.1)
 ·exact .inl (.inl (hG b m.1).1)
 ·exact .inr m.2
 ·exact .inl (.inr O)
 ·exact .inl (.inl (P b m).1)
end Go.Ar
namespace Go.Ar
open Go Go.Vc Go.Proofs
variable {U u u':Hp}{F B P:Rg}{L:dH}{H H':Hw}{t k n:Nat}{A:AR}{Y:Lay}{x:eJ}{g:Th}{c:bZ}{l:Li}{cs:List Value}
structure HK (F:Rg) (U:Hp) (B:Rg) (u:Hp) (P:Rg) (L:dH) (H:Hw):Prop where
 h:HH u P L H
 e:Ext F U u
 p:∀b,P b->(F b/\b<U.size\/U.size<=b)/\¬B b/\b<u.size
 b:∀b,B b->U.size<=b/\b<u.size
 o:iS (λb=>U.size<=b)/\¬U.size<=1
theorem HK.start (h:HH U F L H):HK F U (λ_=>False) U (Cut F U) L H:=⟨h.cut,Ext.refl _ _,λb a=>⟨.inl ⟨a.1,a.2⟩,id,a.2⟩,λb a=>a.elim,h.lY⟩
theorem HK.box (K:HK F U B u P L H)(e:bK u u')(hz:u'.size=u.size+1):HK F U (λb=>B b\/b=u.size) u' P L H:=
 ⟨K.h.bO e,K.e.trans (bK.to e),λb a=>⟨(K.p b a).1,λd=>d.elim (K.p b a).2.1 λg=>by have:=(K.p b a).2.2;omega,by have:=(K.p b a).2.2;omega⟩,λb a=>by
  have:=K.e.1;rcases a with a|a
  ·have:=K.b b a;omega
  ·omega,K.o⟩
theorem HK.fr (K:HK F U B u P L H)(e:bK u u'):HK F U B u' P L H:=
 ⟨K.h.bO e,K.e.trans (bK.to e),λb a=>⟨(K.p b a).1,(K.p b a).2.1,by have:=(K.p b a).2.2;have:=e.1;omega⟩,λb a=>by have:=K.b b a;have:=e.1;omega,K.o⟩
theorem HK.own (K:HK F U B u P L H)(o:Qk u u' n)(hn:B n):HK F U B u' P L H:=by
 have s:=K.b n hn;have r:=o.1;have e:Ext (· = n) u u':=o.ext;have m:∀b,b<u.size->P b->¬(b=n):=λb _ a g=>(K.p b a).2.1 (g▸hn);have d:iS (λb=>b=n)/\¬(1=n):=⟨K.o.1.sub λb j=>O,λj=>K.o.2 O⟩;exact⟨K.h.bR e m d.1 d.2,K.e.dV e λb (i:b=n)=>.inr O,λb a=>⟨(K.p b a).1,(K.p b a).2.1,by have:=(K.p b a).2.2;omega⟩,λb a=>by have:=K.b b a;omega,K.o⟩
theorem HK.cT (K:HK F U B u P L H)(e:Ext P u u')(hb:bY u n cs)(hn:B n):bY u' n cs:=e.bT hb λa=>(K.p n a).2.1 hn
theorem HK.sZ (K:HK F U B u P L H){Q:Rg}{L':dH}(e:Ext P u u')(h:HH u' Q L' H')(hq:∀b,b<u'.size->Q b->P b\/u.size<=b\/(F b/\b<U.size\/U.size<=b)/\¬B b):HK F U B u' (Cut Q u') L' H':=by
 have i:=e.1;have g:=K.e.1;refine⟨h.cut,K.e.dV e λb a=>(K.p b a).1.imp (λh=>h.1) id,λb a=>⟨?_,λd=>?_,a.2⟩,λb a=>by have:=K.b b a;omega,K.o⟩
 ·rcases hq b a.2 a.1 with h1|h1|h1
  ·exact(K.p b h1).1
  ·exact .inr O
  ·exact h1.1
 ·rcases hq b a.2 a.1 with h1|h1|h1
  ·exact(K.p b h1).2.1 d
  ·have:=K.b b d;omega
  ·exact h1.2 d
theorem HK.to (K:HK F U B u P L H){Q:Rg}{L':dH}(e:Ext P u u')(h:HH u' Q L' H')(hq:∀b,b<u'.size->Q b->P b\/u.size<=b):HK F U B u' (Cut Q u') L' H':=K.sZ e h λb a d=>(hq b a d).imp id .inl
theorem HK.fin (K:HK F U B u P L H){L0:dH}{H0:Hw}(h0:HH U F L0 H0):HH u (Grow F U) L H:=h0.grown K.h λb _ a=>(K.p b a).1.imp (λh=>h.1) id
def Fr (A' A:AR):Prop:=A'.tb=A.tb/\A'.room=A.room/\A'.cM=A.cM
theorem Fr.cK {A' A:AR}(h:Fr A' A)(Y:Lay):Go.Ar.cK A' Y=Go.Ar.cK A Y:=by
 funext k;unfold Go.Ar.cK;rw[h.1,h.2.1,h.2.2]
theorem Dq (A:AR)(k m:Int):Fr (Yu A k m) A:=by
 unfold Yu;split<;>exact⟨rfl,rfl,rfl⟩
theorem C8 (A:AR)(k:Int)(xs:List Int):Fr (Zr A k xs) A:=⟨(VV A k xs).1,(VV A k xs).2.1,(VV A k xs).2.2.1⟩
theorem EV (A:AR)(sp:Sp)(m a no:Nat):Fr (cZ A sp m a no).2.1 A:=⟨(HJ A sp m a no).1,(HJ A sp m a no).2.2.2.1,(HJ A sp m a no).2.2.1⟩
theorem Ee (A:AR)(x:Int):Fr (Qo A x) A:=by
 unfold Qo;split<;>exact⟨rfl,rfl,rfl⟩
theorem Fl (A:AR)(sp:Sp)(k:Int):Fr (cL A sp k).1 A:=by
 unfold cL;split
 ·split
  ·rename_i c ss h1 h2;have h:=EV A sp c.aF 1 (k.toNat+1);generalize cZ A sp c.aF 1 (k.toNat+1)=r at h;obtain⟨o,A',a⟩:=r;cases o with
   | none=>exact h
   | some x=>
    simp only;split<;>exact h
  ·exact⟨rfl,rfl,rfl⟩
 ·exact⟨rfl,rfl,rfl⟩
theorem Es (A:AR)(sp:Sp)(m a:Int):Fr (cA A sp m a).1 A:=by
 unfold cA;split
 ·have h:=EV A sp m.toNat a.toNat 41;generalize cZ A sp m.toNat a.toNat 41=r at h;obtain⟨o,A',b⟩:=r;cases o<;>exact h
 ·exact⟨rfl,rfl,rfl⟩
theorem Iu (A:AR)(k:Int):(Zt A k).tb=A.tb:=by unfold Zt;split<;>rfl
theorem OB (A:AR)(k:Int)(xs:List Int):(QR A k xs).tb=A.tb:=by unfold QR;split<;>rfl
theorem HH.mq (h:HH U F L H)(hk:H.bX[k]?=some A)(hy:L.ys[k]?=some Y):∃G:Rg,(∀b,G b->F b)/\dG U G Y A (cK A Y)/\∀(σ':Hp) (A':AR) (Q:Rg),A'.tb=A.tb->Ext G U σ'->(∀b,Q b->G b\/U.size<=b)->dG σ' (λb=>Grow G U b/\¬Q b) Y A' (cK A' Y) →
 Ext F U σ'/\HH σ' (λb=>Grow F U b/\¬Q b) L (H.cC k A'):=by
 obtain⟨Y',G,g,_,j,u,d⟩:=h.vW hk;rw[hy]at g;cases g;refine⟨G,j,u,λσ' A' Q i e r p=>?_⟩;obtain⟨e1,m⟩:=d σ' A' _ i e (λb a=>a.1) p;refine⟨e1,m.mono (λb _ a=>?_) (h.oG.sub λb a=>a.1) λa=>h.qA a.1⟩;rcases a with a|a
 ·exact⟨.inl a.1,λs=>by
   rcases r b s with h2|h2
   ·exact a.2.2 h2
   ·have:=a.2.1;omega⟩
 ·exact⟨a.1.imp (j b) id,a.2⟩
theorem dG.vI {T:Nat->Hp->Rg->Prop}{G Q:Rg}(h:dG U G Y A T)(hq:∀b,¬Q b):dG U (λb=>G b/\¬Q b) Y A T:=h.mono λb _ a=>⟨a,hq b⟩
theorem HH.l7 (h:HH U F L H)(hk:H.bX[k]?=some A)(hy:L.ys[k]?=some Y):∃G:Rg,(∀b,G b->F b)/\dG U G Y A (cK A Y)/\∀(σ':Hp) (A':AR),A'.tb=A.tb->Ext G U σ'->dG σ' (Grow G U) Y A' (cK A' Y) →
 Ext F U σ'/\HH σ' (Grow F U) L (H.cC k A'):=by
 obtain⟨G,i,p,a⟩:=h.mq hk hy;refine⟨G,i,p,λσ' A' d e m=>?_⟩;obtain⟨e1,j⟩:=a σ' A' (λ_=>False) d e (λb g=>g.elim) (m.vI λ_=>id);exact⟨e1,j.mono (λb _ g=>g.1) h.oG h.qA⟩
theorem HZ (h:HH U F L H)(hk:H.bX[k]?=some A)(hy:L.ys[k]?=some Y)(c:Int){R:Sl->Int->Hp->Prop}
 (hR:∀s σ' (Q:Rg),Ext F U σ'->(∀b,Q b->F b)->cX s 1 (Wo (Ys A c)) σ' Q->s.len<=s.cap->HH σ' (λb=>Grow F U b/\¬Q b) L (H.cC k (Zt A c))->R s (ZV A c) σ') :
 Wz.c (aW Y.p) c U R:=by
 obtain⟨G,j,w,g⟩:=h.mq hk hy;refine HY w c λs σ' e i r d u=>?_;obtain⟨e1,m⟩:=g σ' (Zt A c) (ky s) (Iu A c) e (λb a=>.inl (i b a)) (u.mono λb _ a=>⟨.inl a.1,a.2⟩);exact hR s σ' (ky s) e1 (λb a=>j b (i b a)) r d m
theorem GO (h:HH U F L H)(hk:H.bX[k]?=some A)(hy:L.ys[k]?=some Y)(c m:Int){R:Sl->Int->Hp->Prop}
 (hR:∀s σ' (Q:Rg),Ext F U σ'->(∀b,Q b->U.size<=b)->bS s 1 (ints (Yc A c m)) σ' Q->HH σ' (λb=>Grow F U b/\¬Q b) L (H.cC k (Yu A c m))->R s (Qp A c m) σ') :
 WB.c (aW Y.p) c m U R:=by
 obtain⟨G,w,u,d⟩:=h.mq hk hy;refine Ia u c m λs σ' e j r=>?_;have g:cK (Yu A c m) Y=cK A Y:=(Dq A c m).cK Y;obtain⟨e1,i⟩:=d σ' (Yu A c m) (λb=>U.size<=b) (Dq A c m).1 e (λb a=>.inr a) (by rw[g];exact r.mono λb _ a=>⟨.inl a.1,by have:=a.2;omega⟩);exact hR s σ' _ e1 (λb a=>a) j i
theorem Na (h:HH U F L H)(hk:H.bX[k]?=some A)(hy:L.ys[k]?=some Y)(c:Int){sl:Sl}{xs:List Int}{X:Rg}(hs:cX sl 1 (Wo xs) U X)(hi:∀x∈xs,iC x){R:Bool->Int->Hp->Prop}
 (hR:∀σ',Ext F U σ'->HH σ' (Grow F U) L (H.cC k (QR A c xs))->R (KU A c xs) (UT A c xs) σ'):WE.c (aW Y.p) c sl U R:=by
 obtain⟨G,i,g,a⟩:=h.l7 hk hy;refine M7 g c hs hi λσ' e d=>?_;obtain⟨e1,b⟩:=a σ' _ (OB A c xs) e d;exact hR σ' e1 b
theorem Ik (h:HH U F L H)(hk:H.bX[k]?=some A)(hy:L.ys[k]?=some Y)(c:Int){sl:Sl}{xs:List Int}{X:Rg}(hs:cX sl 1 (Wo xs) U X)(hX:∀b,b<U.size->X b->¬F b)(hi:∀x∈xs,iC x)(hl:xs.length<=1000000)(hcap:sl.len<=sl.cap){R:aN}
 (hR:∀σ',Ext F U σ'->HH σ' (Grow F U) L (H.cC k (Zr A c xs))->R (QG A c xs) σ'):WM.c (aW Y.p) c sl U R:=by
 obtain⟨G,g,s,a⟩:=h.l7 hk hy;refine Ou s c hi hl hcap (.inl ⟨X,hs,λb u m j=>hX b u m (g b j)⟩) λσ' e r=>?_;have d:cK (Zr A c xs) Y=cK A Y:=(C8 A c xs).cK Y;obtain⟨e1,i⟩:=a σ' _ (C8 A c xs).1 e (by rw[d];exact r);exact hR σ' e1 i
theorem Ng (h:HH U F L H)(hk:H.bX[k]?=some A)(hy:L.ys[k]?=some Y)(x:Int)(hf:∀r∈A.runs,r.1<=1000000){R:aN}
 (hR:∀σ',Ext F U σ'->HH σ' (Grow F U) L (H.cC k (Qo A x))->R (KG A x) σ'):WK.c (aW Y.p) x U R:=by
 obtain⟨G,j,i,a⟩:=h.l7 hk hy;refine R9 i x hf λσ' e g=>?_;have b:cK (Qo A x) Y=cK A Y:=(Ee A x).cK Y;obtain⟨e1,d⟩:=a σ' _ (Ee A x).1 e (by rw[b];exact g);exact hR σ' e1 d
theorem ME (h:HH U F L H)(hk:H.bX[k]?=some A)(hy:L.ys[k]?=some Y)(c:Int){R:aN}
 (hR:∀σ',Ext F U σ'->HH σ' (Grow F U) L {H.cC k (cL A H.sp c).1 with sp:=(cL A H.sp c).2}->R (KD A H.sp c) σ'):X5.c (aW Y.p) c U R:=by
 obtain⟨Y',G,D,a,_,i,b⟩:=h.oC hk;rw[hy]at a;cases a;refine IJ i c λσ' G' D' m e j=>?_;have d:cK (cL A H.sp c).1 Y=cK A Y:=(Fl A H.sp c).cK Y;obtain⟨e1,g⟩:=b σ' _ _ G' D' (Fl A H.sp c).1 e m (by rw[d];exact j);exact hR σ' e1 g
theorem LB (h:HH U F L H)(hk:H.bX[k]?=some A)(hy:L.ys[k]?=some Y)(m a:Int){R:Int->Int->Hp->Prop}
 (hR:∀σ',Ext F U σ'->HH σ' (Grow F U) L {H.cC k (cA A H.sp m a).1 with sp:=(cA A H.sp m a).2}->R ((ZT A H.sp m a:Nat):Int) (Qg A H.sp m a) σ'):WJ.c (aW Y.p) m a U R:=by
 obtain⟨Y',G,D,b,_,j,d⟩:=h.oC hk;rw[hy]at b;cases b;refine IP j m a λσ' G' D' s e r=>?_;have g:cK (cA A H.sp m a).1 Y=cK A Y:=(Es A H.sp m a).cK Y;obtain⟨e1,i⟩:=d σ' _ _ G' D' (Es A H.sp m a).1 e s (by rw[g];exact r);exact hR σ' e1 i
def Hw.dR (H:Hw)(t:Nat)(g:Th)(ls:List Li):Hw:={H with bQ:=H.bQ.set t {g with ls:=ls}}
theorem HH.kK (h:HH U F L H)(hx:L.ts[t]?=some x)(hg:H.bQ[t]?=some g):∃G:Rg,(∀b,G b->F b)/\eB U G x.c H.tb H.cf.dA g.ls/\∀(σ':Hp) (ls:List Li) (Y':gK) (Q:Rg),Y'.p=x.c.p->Ext G U σ'->(∀b,Q b->U.size<=b)->eB σ' (λb=>Grow G U b/\¬Q b) Y' H.tb H.cf.dA ls →
 Ext F U σ'/\HH σ' (λb=>Grow F U b/\¬Q b) {L with ts:=L.ts.set t {x with c:=Y'}} (H.dR t g ls):=by
 obtain⟨G,i,w,d⟩:=h.nS hx hg;refine⟨G,i,w,λσ' ls Y' Q m e s r=>?_⟩;obtain⟨e1,j⟩:=d σ' ls Y' _ m e (λb a=>a.1) r;refine⟨e1,j.mono (λb _ a=>?_) (h.oG.sub λb a=>a.1) λa=>h.qA a.1⟩;rcases a with a|a
 ·exact⟨.inl a.1,λu=>by have:=a.2.1;have:=s b u;omega⟩
 ·exact⟨a.1.imp (i b) id,a.2⟩
theorem HH.kH (h:HH U F L H)(hx:L.ts[t]?=some x)(hg:H.bQ[t]?=some g):∃G:Rg,(∀b,G b->F b)/\eB U G x.c H.tb H.cf.dA g.ls/\∀(σ':Hp) (ls:List Li) (Y':gK),Y'.p=x.c.p->Ext G U σ'->eB σ' (Grow G U) Y' H.tb H.cf.dA ls →
 Ext F U σ'/\HH σ' (Grow F U) {L with ts:=L.ts.set t {x with c:=Y'}} (H.dR t g ls):=by
 obtain⟨G,i,s,d⟩:=h.kK hx hg;refine⟨G,i,s,λσ' ls Y' m e r=>?_⟩;obtain⟨e1,j⟩:=d σ' ls Y' (λ_=>False) m e (λb a=>a.elim) (r.mono λb _ a=>⟨a,id⟩);exact⟨e1,j.mono (λb _ a=>a.1) h.oG h.qA⟩
theorem Jw (h:HH U F L H)(hx:L.ts[t]?=some x)(hg:H.bQ[t]?=some g)(hc:H.tb[k]?=some c)(hl:g.ls[k]?=some l){R:Int->Int->Hp->Prop}
 (hR:∀σ' ts',Ext F U σ'->HH σ' (Grow F U) {L with ts:=ts'} (H.dR t g (g.ls.set k (QX c l).2))->R ((QX c l).1.getD 0) (if(QX c l).1.isSome then 0 else 4) σ'):X4.c (aW x.c.p) (k:Int) U R:=by
 obtain⟨G,m,j,a⟩:=h.kH hx hg;refine kO j hc hl λσ' Y' e d i=>?_;obtain⟨e1,b⟩:=a σ' _ Y' d e i;exact hR σ' _ e1 b
theorem IM (h:HH U F L H)(hx:L.ts[t]?=some x)(hg:H.bQ[t]?=some g)(hc:H.tb[k]?=some c)(hl:g.ls[k]?=some l){R:Int->Int->Hp->Prop}
 (hR:∀σ' ts',Ext F U σ'->HH σ' (Grow F U) {L with ts:=ts'} H->R ((nY c l:Nat):Int) 0 σ'):Yb.c (aW x.c.p) (k:Int) U R:=by
 obtain⟨G,m,j,a⟩:=h.kH hx hg;refine IU j hc hl λσ' Y' e d i=>?_;obtain⟨e1,b⟩:=a σ' _ Y' d e i;have e2:H.dR t g g.ls=H:=by
  unfold Hw.dR;rw[Z4 hg]
 rw[e2]at b;exact hR σ' _ e1 b
theorem Rs (h:HH U F L H)(hx:L.ts[t]?=some x)(hg:H.bQ[t]?=some g)(hc:H.tb[k]?=some c)(hl:g.ls[k]?=some l){sl:Sl}{xs:List Int}{X:Rg}(hs:cX sl 1 (Wo xs) U X)(hX:∀q,X q->¬F q)(hfit:l.os.length+xs.length<=256){R:aN}
 (hR:∀σ' ts',Ext F U σ'->HH σ' (Grow F U) {L with ts:=ts'} (H.dR t g (g.ls.set k (eD xs.reverse l)))->R 0 σ'):XZ.c (aW x.c.p) (k:Int) sl U R:=by
 obtain⟨G,b,r,a⟩:=h.kH hx hg;refine Pq r hc hl hs (λq m hg=>hX q m (b q hg)) hfit λσ' Y' e i j=>?_;obtain⟨e1,d⟩:=a σ' _ Y' i e j;exact hR σ' _ e1 d
theorem Jz (h:HH U F L H)(hx:L.ts[t]?=some x)(hg:H.bQ[t]?=some g)(hc:H.tb[k]?=some c)(hl:g.ls[k]?=some l)(y:Int){R:Sl->Int->Hp->Prop}
 (hR:∀σ' ts' s e (Q:Rg),Ext F U σ'->(∀q,Q q->U.size<=q)->bS s 1 (Wo (dJ c y l).1) σ' Q->HH σ' (λb=>Grow F U b/\¬Q b) {L with ts:=ts'} (H.dR t g (g.ls.set k (dJ c y l).2))->R s e σ'):Yw.c (aW x.c.p) (k:Int) y U R:=by
 obtain⟨G,z,u,a⟩:=h.kK hx hg;refine ON u hc hl y λσ' Y' s w Q e j _ d m r=>?_;obtain⟨e1,i⟩:=a σ' _ Y' Q j e d r;exact hR σ' _ s w Q e1 d m i
theorem M5 (h:HH U F L H)(hx:L.ts[t]?=some x)(hg:H.bQ[t]?=some g){R:aO}(hR:∀σ',bK U σ'->R (decide (H.cf.dA<QN H.tb g.ls)) σ'):X6.c (aW x.c.p) U R:=by
 obtain⟨G,d,b,a⟩:=h.kH hx hg;exact J0 b hR
theorem F6 (hso:H4)(h:HH U F L H)(hx:L.ts[t]?=some x)(hg:H.bQ[t]?=some g){R:Sl->Hp->Prop}
 (hR:∀σ' s (Q:Rg),Ext F U σ'->(∀q,Q q->U.size<=q)->ik s (QW ZC H.tb g.ls) σ' Q->HH σ' (λb=>Grow F U b/\¬Q b) L (H.dR t g (QS ZC H.tb g.ls))->R s σ'):XH.c (aW x.c.p) U R:=by
 obtain⟨G,u,r,a⟩:=h.kK hx hg;refine Sg hso r λσ' s Q e i m j=>?_;obtain⟨e1,d⟩:=a σ' _ x.c Q rfl e i m;rw[show L.ts.set t {x with c:=x.c}=L.ts from Z4 hx]at d;exact hR σ' s Q e1 i j d
theorem RK (hso:H4)(h:HH U F L H)(hx:L.ts[t]?=some x)(hg:H.bQ[t]?=some g){R:Sl->Hp->Prop}
 (hR:∀σ' s (Q:Rg),Ext F U σ'->(∀q,Q q->U.size<=q)->ik s (QW KC H.tb g.ls) σ' Q->HH σ' (λb=>Grow F U b/\¬Q b) L (H.dR t g (QS KC H.tb g.ls))->R s σ'):WY.c (aW x.c.p) U R:=by
 obtain⟨G,u,r,a⟩:=h.kK hx hg;refine On hso r λσ' s Q e i m j=>?_;obtain⟨e1,d⟩:=a σ' _ x.c Q rfl e i m;rw[show L.ts.set t {x with c:=x.c}=L.ts from Z4 hx]at d;exact hR σ' s Q e1 i j d
def mC (S:aP)(L:dH)(tb:List bZ):Prop:=∀m,S m->∃(P:Rg) (ts:List eJ) (H:Hw),HH m P {L with ts:=ts} H/\H.tb=tb
theorem mC.dC {S:aP}{tb:List bZ}(hS:mC S L tb){K:Sl->Prop}(hK:K L.dC):gD S .s (Addr.add ⟨L.p,0,none⟩ 0) K:=⟨L.dC,λm a=>by obtain⟨_,_,_,h,_⟩:=hS m a;rw[add_lit,h.hd.cell];rfl,hK⟩
theorem mC.fO {S:aP}{tb:List bZ}(hS:mC S L tb){K:Sl->Prop}(hK:K L.fO):gD S .s (Addr.add ⟨L.p,0,none⟩ 7) K:=⟨L.fO,λm a=>by obtain⟨_,_,_,h,_⟩:=hS m a;rw[add_lit,h.hd.cell];rfl,hK⟩
theorem mC.rA {S:aP}{tb:List bZ}(hS:mC S L tb)(h:HH U F L H)(hy:L.ys[k]?=some Y){K:Option Addr->Prop}(hK:K (some ⟨Y.p,0,none⟩)):Ix L.fO.a L.fO.len (k:Int) 1 λa=>gD S .p a K:=by
 have i:(fM (L.ys.map (·.p)))[k]?=some (.pointer (some ⟨Y.p,0,none⟩)):=by simp[fM,hy]
 obtain⟨b,o,j,_⟩:=h.mM.cell i;have w:=(cW.1 hy).1;have r:=h.mB;have:=h.s.ys;rw[j];refine ix O O ⟨_,λm u=>?_,hK⟩;obtain⟨_,_,_,g,_⟩:=hS m u;obtain⟨y,x,d,e⟩:=g.mM.cell i;rw[j]at d;cases d;rw[add_lit,show o+(k:Int).toNat*1=o+k by omega];exact e
theorem mC.rC {S:aP}(hS:mC S L H.tb)(h:HH U F L H)(hc:H.tb[k]?=some c){K:Int->Prop}(hK:K (c.size:Int)):Ix L.dC.a L.dC.len (k:Int) 3 λa=>gD S bN (a.add 0) K:=by
 have e:(fZ H.tb)[3*k+0]?=some (.int .i64 (c.size:Int)):=(Gq hc).1;obtain⟨b,o,r,_⟩:=h.ju.cell e;have w:=(cW.1 hc).1;have s:=h.oI;rw[r];refine ix O O ⟨_,λm u=>?_,hK⟩;obtain⟨_,_,_,p,j⟩:=hS m u;rw[←j]at e;obtain⟨y,x,d,g⟩:=p.ju.cell e;have d:L.dC.a=_:=d;rw[r]at d;cases d;rw[add_lit,add_lit,show o+(k:Int).toNat*3+0=o+(3*k+0) by omega];exact g
end Go.Ar
namespace Go.Ar
open Go Go.Vc Go.Proofs
variable {U u u':Hp}{F B P Q:Rg}{L:dH}{H H':Hw}{t k n pb:Nat}{A:AR}{Y:Lay}{x:eJ}{g:Th}{c:bZ}{l:Li}{cs:List Value}{parts:List (List Int)}{xs:List Int}
theorem HK.BF (K:HK F U B u P L H)(e:Ext B u u'){B':Rg}(hB:∀b,B' b->B b\/u.size<=b/\b<u'.size):HK F U B' u' P L H:=by
 have r:=e.1;have m:=K.e.1;have i:iS B/\¬B 1:=⟨K.o.1.sub λb g=>(K.b b g).1,λg=>K.o.2 (K.b _ g).1⟩;refine⟨K.h.bR e (λb _ a d=>(K.p b a).2.1 d) i.1 i.2,K.e.dV e λb j=>.inr (K.b b j).1,λb a=>⟨(K.p b a).1,λg=>?_,by have:=(K.p b a).2.2;omega⟩,λb a=>?_,K.o⟩
 ·rcases hB b g with d|d
  ·exact(K.p b a).2.1 d
  ·have:=(K.p b a).2.2;omega
 ·rcases hB b a with d|d
  ·have:=K.b b d;omega
  ·omega
def sV (s:Sl):Value:=.slice s.a s.len s.cap
def l5 (pb:Nat)(parts:List (List Int)):Hp->Rg->Prop:=λu Q=>∃(ps:List Sl) (Qs:Nat->Rg),ps.length=parts.length/\Q pb/\bY u pb (ps.map sV)/\(∀j b,Qs j b->Q b/\b≠pb)/\(∀j j' b,Qs j b->Qs j' b->j=j') ∧
 ∀j s xs,ps[j]?=some s->parts[j]?=some xs->dI s 1 (Wo xs) u (Qs j)
theorem l5.loc (pb:Nat)(parts:List (List Int)):dM (l5 pb parts):=by
 rintro U H F G ⟨B,Qs,u,w,p,i,A,C⟩ x g;have m:=g pb p.lt w;obtain⟨e,y⟩:=p;refine⟨B,λj b=>Qs j b/\b<U.size,u,m.1,⟨e,m.2.trans y⟩,λj b d=>⟨(g b d.2 (i j b d.1).1).1,(i j b d.1).2⟩,λj D b a E=>A j D b a.1 E.1,λj s z a b=>(dI.loc _ _ _) _ _ _ _ (C j s z a b) x λb d r=>⟨⟨r,d⟩,(g b d (i j b r).1).2⟩⟩
theorem l5.add (h:l5 pb parts u Q){a m e1 e2:Nat}(hm:m=parts.length)(ha:parts[a]?=some xs)(y:Int)(hl:xs.length<=1000000){K:aP}(hK:∀u',Ext Q u u'->l5 pb (parts.set a (xs++[y])) u' (Grow Q u)->K u') :
 Ix (some ⟨pb,0,none⟩) m (a:Int) 1 λa1=>jq a1 u λt35=>Nw (.cells #[.int .i64 y] e1 (0,0)) u λn37 v4=>App t35 1 8 e2 [.int .i64 0] ⟨some n37,1,1⟩ v4 λt38 v5=>Ix (some ⟨pb,0,none⟩) m (a:Int) 1 λa39=>dX a39 (.slice t38.a t38.len t38.cap) v5 λv6=>K v6:=by
 obtain⟨B,Qs,U,N,L,A,S,R⟩:=h;have H:=(cW.1 ha).1;have r:B[a]?=some (B[a]' O):=cV _;generalize (B[a]' O)=s at r;have i:=R a s xs r ha;have Y:s.len=xs.length:=by have:=i.1;simp[Wo]at this;omega
 refine ix O O ?_;rw[add_lit,show 0+(a:Int).toNat*1=a by omega];refine L.tx (a:=s.a) (n:=s.len) (c:=s.cap) (by simp[r,sV]) ?_;refine nw (cs:=[.int .i64 y]) λv4 hz e d=>?_;have p:=(dI.loc _ _ _).bO ((dI.loc _ _ _).cut i) e;have G:=e.bT L id;refine p.app (x:=⟨some ⟨u.size,0,none⟩,1,1⟩) (ys:=[.int .i64 y]) rfl rfl ?_ (by simp[dQ]) ?_ ?_ mG λs' v5 V C M=>?_
 ·intro j w hw;rw[add_lit,zH,d.cell];exact hw
 ·simp only;omega
 ·simp only;omega
 have hz5:=C.1;have J:bY v5 pb (B.map sV):=C.bT G λz=>(A a pb z.1).2 rfl;refine ix O O ?_;rw[add_lit,show 0+(a:Int).toNat*1=a by omega];refine J.s0 aE λu' P g=>?_;have Z:=P.1;have F:Ext (· = pb) v5 u':=P.ext;have eQ:Ext Q u u':=((bK.to e).trans (C.sub λb d=>(A a b d.1).1)).trans (F.sub λb d=>by rw[d];exact N);have aa:=L.lt;refine hK u' eQ ⟨B.set a s',λj b=>Qs j b/\b<u.size\/j=a/\v4.size<=b/\b<v5.size,by simp[U],.inl N,?_,λj b d=>?_,λj X b d g=>?_,λj s2 ys E D=>?_⟩
 ·rw[vz];exact g
 ·rcases d with d|d
  ·exact⟨.inl (A j b d.1).1,(A j b d.1).2⟩
  ·exact⟨.inr O,O⟩
 ·rcases d with d|d<;>rcases g with g|g
  ·exact S j X b d.1 g.1
  ·omega
  ·omega
  ·omega
 ·by_cases hja:j=a
  ·subst hja;rw[zL O]at E;rw[zL H]at D;cases E;cases D;have:=(dI.loc _ _ _).bR ((dI.loc _ _ _).cut M) F λb _ d z=>by
    rcases d.1 with h7|h7
    ·exact(A j b h7.1).2 z
    ·omega
   have W:Wo (xs++[y])=Wo xs++[.int .i64 y]:=by simp[Wo]
   rw[W];refine(dI.loc _ _ _).mono this λb _ d=>?_;rcases d.1 with h7|h7
   ·exact .inl h7
   ·exact .inr ⟨rfl,h7,d.2⟩
  ·rw[zk (Ne.symm hja)]at E D;have:=(dI.loc _ _ _).cut (R j s2 ys E D);have:=(dI.loc _ _ _).bR ((dI.loc _ _ _).bR ((dI.loc _ _ _).bO this e) C λb _ d z=>hja (S j a b d.1 z.1)) F λb _ d z=>(A j b d.1).2 z;exact(dI.loc _ _ _).mono this λb _ d=>.inl d
theorem l5.get (h:l5 pb parts u Q){a m:Nat}(hm:m=parts.length)(ha:parts[a]?=some xs){K:Sl->Prop}(hK:∀s,dI s 1 (Wo xs) u Q->s.len=xs.length->K s):Ix (some ⟨pb,0,none⟩) m (a:Int) 1 λa1=>jq a1 u K:=by
 obtain⟨g,Qs,x,y,p,j,z,r⟩:=h;have i:=(cW.1 ha).1;have e:g[a]?=some (g[a]' O):=cV _;generalize (g[a]' O)=s at e;have d:=r a s xs e ha;refine ix O O ?_;rw[add_lit,show 0+(a:Int).toNat*1=a by omega];refine p.tx (a:=s.a) (n:=s.len) (c:=s.cap) (by simp[e,sV]) (hK s ((dI.loc _ _ _).mono d λb _ w=>(j a b w).1) ?_);have:=d.1;simp[Wo]at this;omega
theorem yD {bX:List AR}{x:Int}(h:0<=XP bX x):(XP bX x).toNat<bX.length/\XP bX x=((XP bX x).toNat:Int):=by
 refine⟨?_,O⟩;unfold XP at *;split at h
 ·omega
 ·rename_i hx;rw[zB hx];split at h
  ·rename_i i hi;have:=(List.findIdx?_eq_some_iff_findIdx_eq.1 hi).1;simp only[dE];exact this
  ·omega
theorem RO {bX:List AR}{x:Int}{xs:List Int}(h:0<=XP bX x):((List.range bX.length).map (ZB bX xs)).set (XP bX x).toNat (ZB bX xs (XP bX x).toNat++[x])=(List.range bX.length).map (ZB bX (xs++[x])):=by
 have a:=yD h;apply zo;intro j;by_cases hj:j<bX.length
 ·by_cases e:(XP bX x).toNat=j
  ·subst e;rw[zL (by simpa using hj)];simp only[zg,nj hj,zX,ZB,tT]
   congr 2
   rw[tE (by rw[←a.2];simp)];rfl
  ·rw[zk e];simp only[zg,nj hj,zX,ZB,tT];have:List.filter (λy=>XP bX y==(j:Int)) [x]=[]:=by
    rw[uq (by simp only[zS];omega)];rfl
   rw[this,kX]
 ·rw[zV aE,zV aE]
theorem Q8 {K:aO}{body:(Bool->Hp->Prop)->Prop}(P:aO)(h1:∀r w,P r w->K r w)(h2:∀J:Bool->Hp->Prop,(∀r w,P r w->J r w)->body J):bV K body:=bV.intro (h2 K h1)
theorem xB {K:eR [.b]}{body:eR [.b]->Prop}(P:aO)(h1:∀r w,P r w->K r w)(h2:∀J:eR [.b],(∀r w,P r w->J r w)->body J):Jn [.b] K body:=Jn.intro (h2 K h1)
theorem ui {K:eR []}{body:eR []->Prop}(P:aP)(h1:∀w,P w->K w)(h2:∀J:eR [],(∀w,P w->J w)->body J):Jn [] K body:=Jn.intro (h2 K h1)
theorem KO {H:Hw}{k:Nat}{part:Nat->List Int}(j:Nat):KM H k part (List.range (j+1))=(match (KM H k part (List.range j)).bX[j]? with
 | some A=>if part j=[]then KM H k part (List.range j)else(KM H k part (List.range j)).cC j (Zr A (k:Int) (part j))
 | none=>KM H k part (List.range j)):=by
 unfold KM;rw[qm,uO];rfl
theorem Ls {H:Hw}{k:Nat}{part:Nat->List Int}(j:Nat):(KM H k part (List.range j)).bX.length=H.bX.length:=by
 induction j with
 | zero=>rfl
 | succ j ih=>
  rw[KO];split
  ·split
   ·exact ih
   ·simp[Hw.cC,ih]
  ·exact ih
theorem Sm {H:Hw}{k:Nat}{part:Nat->List Int}(j:Nat):(KM H k part (List.range j)).bQ=H.bQ:=by
 induction j with
 | zero=>rfl
 | succ j ih=>
  rw[KO];split
  ·split<;>exact ih
  ·exact ih
theorem Bq (H:Hw)(own k:Nat)(xs:List Int):(Hx H own k xs).bQ=H.bQ:=by
 unfold Hx;split
 ·split
  ·rfl
  ·rw[Sm];split<;>rfl
 ·rfl
def Bj (F:Rg)(U:Hp)(L:dH)(H:Hw)(pb:Nat)(parts:List (List Int))(cs:List Value)(w:Hp):Prop:=∃Q P:Rg,HK F U (λb=>b=U.size\/Q b) w P L H/\l5 pb parts w Q/\bY w U.size cs/\∀b,Q b->b≠U.size
theorem Pb (h:HH U F L H){own:Nat}(ho:own<H.bX.length)(k:Nat){sl:Sl}{xs:List Int}{X:Rg}(hs:cX sl 1 (Wo xs) U X)(hX:∀b,b<U.size->X b->¬F b)(hcap:sl.len<=sl.cap)(hx:∀x∈xs,iC x/\0<=XP H.bX x)(hl:xs.length<=1000000){R:aP}
 (hR:∀σ',Ext F U σ'->HH σ' (Grow F U) L (Hx H own k xs)->R σ'):Zk.c (aW L.p) (own:Int) (k:Int) sl U R:=by
 refine Zk.o ?_;unfold Zk.v;have hsl:sl.len=xs.length:=by have:=hs.1;simp[Wo]at this;omega
 have ha2:=h.s.a2;have hal:=h.mB;have hs1:∀u,Ext F U u->cX sl 1 (Wo xs) u (λb=>X b/\b<U.size):=λu eu=>aH.bR (aH.cut hs) eu λb _ hx hf=>hX b hx.2 hx.1 hf;refine nw (cs:=[.int .i64 (k:Int),.slice sl.a sl.len sl.cap]) λv hz e d=>?_;have K1:=(HK.start h).box e hz;refine aG (K1.h.hd.rS rfl ?_);simp only;refine mk (n:=L.fO.len) O O λv1 hz1 e1 hb1=>?_;have K2:=K1.box e1 hz1;have hb2:=e1.bT d id;have N:l5 v.size ((List.range H.bX.length).map (ZB H.bX [])) v1 (λb=>b=v.size):=by
  refine⟨List.replicate H.bX.length ⟨none,0,0⟩,λ_ _=>False,by simp,rfl,?_,λj b d=>d.elim,λj j' b d=>d.elim,λj s ys g h2=>?_⟩
  ·have:(List.replicate L.fO.len [Value.slice none 0 0]).flatten=(List.replicate H.bX.length (⟨none,0,0⟩:Sl)).map sV:=by
    rw[hal];simp[sV]
   rw[←this];exact hb1
  ·simp only[zg,ot]at h2;obtain⟨a,_,rfl⟩:=h2;simp only[lX]at g;split at g
   ·cases g;exact dI.nil _ _ _ _
   ·cases g
 have hpl:∀ys:List Int,L.fO.len=((List.range H.bX.length).map (ZB H.bX ys)).length:=λys=>by simp[hal]
 refine hb2.rS rfl ?_;refine ZS (a:=bN) (λ(z:Int) w=>∃i:Nat,z=(i:Int)/\i<=xs.length/\Bj F U L H v.size ((List.range H.bX.length).map (ZB H.bX (xs.take i))) [.int .i64 (k:Int),.slice sl.a sl.len sl.cap] w) (λz _=>xs.length-z.toNat)
  ⟨0,rfl,O,λb=>b=v.size,_,⟨K2.h,K2.e,λb d=>⟨(K2.p b d).1,λhx=>(K2.p b d).2.1 (hx.imp .inr id),(K2.p b d).2.2⟩,λb d=>K2.b b (d.imp .inr id),K2.o⟩,N,hb2,λb d=>O⟩ ?_
 rintro z w ⟨i,rfl,hi,Q,P,K,N,C,hQ⟩;refine cQ (λD=>?_) λhge=>?_
 ·simp only at D;have hi':i<xs.length:=by omega
  have Z:xs[i]?=some xs[i]:=cV hi';generalize xs[i]=y at Z;have hy:=hx y (zG Z);refine(hs1 w K.e).nr Z (GR K.h y hy.1 λw1 e1=>?_);have D:=yD hy.2;rw[D.2];have hP1:l5 v.size _ w1 (λb=>Q b/\b<w.size):=(l5.loc _ _).bO ((l5.loc _ _).cut N) e1;have hpart:((List.range H.bX.length).map (ZB H.bX (xs.take i)))[(XP H.bX y).toNat]?=some (ZB H.bX (xs.take i) (XP H.bX y).toNat):=by
   simp only[zg,nj D.1,zX]
  have hpl1:(ZB H.bX (xs.take i) (XP H.bX y).toNat).length<=1000000:=by
   have:=qe (λx=>XP H.bX x==(((XP H.bX y).toNat:Nat):Int)) (xs.take i);simp only[ZB];rw[zZ]at this;omega
  refine hP1.add (hpl _) hpart y hpl1 λw2 e2 hP2=>?_;rw[RO hy.2]at hP2;have ht:xs.take i++[y]=xs.take (i+1):=by rw[lI,Z];rfl
  rw[ht]at hP2;have hz1:=e1.1;have hz2:=e2.1;refine cP (m:=i+1) O O ⟨⟨i+1,rfl,O,λb=>(Q b/\b<w.size)\/w1.size<=b/\b<w2.size,P,(K.fr e1).BF (e2.sub λb d=>.inr d.1) λb d=>?_,(l5.loc _ _).mono hP2 λb d W=>?_,?_,λb d=>?_⟩,O⟩
  ·rcases d with d|d|d
   ·exact .inl (.inl d)
   ·exact .inl (.inr d.1)
   ·exact .inr d
  ·rcases W with W|W
   ·exact .inl W
   ·exact .inr ⟨W,d⟩
  ·exact e2.bT (e1.bT C id) λhx=>hQ _ hx.1 rfl
  ·have:=(K.b U.size (.inl rfl)).2;rcases d with d|d
   ·exact hQ b d.1
   ·omega
 ·have hii:i=xs.length:=by simp only at hge;omega
  subst hii;rw[m7]at N;obtain⟨A,hA⟩:∃A,H.bX[own]?=some A:=⟨_,cV ho⟩;obtain⟨Y,hY,_,_⟩:=h.ar hA;have G:Hx H own k xs=(if(ZB H.bX xs own).length=xs.length/\KU A (k:Int) xs=true then H.cC own (QR A (k:Int) xs)
   else KM (if(ZB H.bX xs own).length=xs.length then H.cC own (QR A (k:Int) xs)else H) k (ZB H.bX xs) (List.range H.bX.length)):=by
   unfold Hx;rw[hA]
  have hown:((List.range H.bX.length).map (ZB H.bX xs))[own]?=some (ZB H.bX xs own):=by
   simp only[zg,nj ho,zX]
  refine ui (λw=>¬((ZB H.bX xs own).length=xs.length/\KU A (k:Int) xs=true)/\Bj F U L (if(ZB H.bX xs own).length=xs.length then H.cC own (QR A (k:Int) xs)else H) v.size ((List.range H.bX.length).map (ZB H.bX xs)) [.int .i64 (k:Int),.slice sl.a sl.len sl.cap] w) (λw hw=>?_) λJ hJ=>?_
  ·obtain⟨hno,hw⟩:=hw;rw[zB hno]at G;generalize hH1:(if(ZB H.bX xs own).length=xs.length then H.cC own (QR A (k:Int) xs)else H)=H1 at hw G
   have hH1l:H1.bX.length=H.bX.length:=by
    rw[←hH1];split
    ·simp[Hw.cC]
    ·rfl
   refine ZS (a:=bN) (λ(z:Int) w=>∃j:Nat,z=(j:Int)/\j<=H.bX.length/\Bj F U L (KM H1 k (ZB H.bX xs) (List.range j)) v.size ((List.range H.bX.length).map (ZB H.bX xs)) [.int .i64 (k:Int),.slice sl.a sl.len sl.cap] w) (λz _=>H.bX.length-z.toNat) ⟨0,rfl,O,hw⟩ ?_;rintro z w ⟨j,rfl,hj,Q,P,K,N,C,hQ⟩;refine cQ (λD=>?_) λhge=>?_
   ·simp only at D;have hj':j<H.bX.length:=by omega
    have hpj:((List.range H.bX.length).map (ZB H.bX xs))[j]?=some (ZB H.bX xs j):=by
     simp only[zg,nj hj',zX]
    refine N.get (hpl _) hpj λs S M=>?_;have hfl:=Ls (H:=H1) (k:=k) (part:=ZB H.bX xs) j;obtain⟨B,hB⟩:∃B,(KM H1 k (ZB H.bX xs) (List.range j)).bX[j]?=some B:=⟨_,cV O⟩;have E:=KO (H:=H1) (k:=k) (part:=ZB H.bX xs) j;rw[hB]at E;simp only at E;refine cQ (λhpos=>?_) λhz0=>?_
    ·have V:ZB H.bX xs j≠[]:=λe=>by rw[e]at M;simp at M;omega
     rw[zB V]at E;obtain⟨Y,hY,_,_⟩:=K.h.ar hB;refine aG (K.h.hd.rS rfl (K.h.rA hY (C.rI rfl ?_)));refine Ik K.h hB hY (k:Int) (dI.gY S) (λb _ W hp=>(K.p b hp).2.1 (.inr W)) (λx hx'=>(hx x (zI.1 hx').1).1) ?_ (dI.cap S) λw1 e1 g=>?_
     ·have:=qe (λx=>XP H.bX x==(j:Int)) xs;simp only[ZB];omega
     ·have hz1:=e1.1;rw[←E]at g;refine cP (m:=j+1) O O ⟨⟨j+1,rfl,O,Q,_,K.to e1 g λb _ d=>d,(l5.loc _ _).bR N e1 λb _ W hp=>(K.p b hp).2.1 (.inr W),K.cT e1 C (.inl rfl),hQ⟩,O⟩
    ·have V:ZB H.bX xs j=[]:=AS O;rw[zC V]at E;refine cP (m:=j+1) O O ⟨⟨j+1,rfl,O,Q,P,by rw[E];exact K,N,C,hQ⟩,O⟩
   ·have hjj:j=H.bX.length:=by simp only at hge;omega
    subst hjj;rw[G]at hR;exact hR w K.e (K.fin h)
  ·refine N.get (hpl _) hown λs S M=>C.rS rfl ?_;refine cO (λheq=>?_) λV=>?_
   ·have heq':(ZB H.bX xs own).length=xs.length:=by simp only[zS]at heq;omega
    rw[zC heq']at G hJ;have hS:mC (λu=>(∃P' H',HH u P' L H'/\H'.tb=H.tb)/\bY u U.size [.int .i64 (k:Int),.slice sl.a sl.len sl.cap]) L H.tb:=λm hm=>by
     obtain⟨⟨P',H',g,h2⟩,_⟩:=hm;exact⟨P',L.ts,H',g,h2⟩
    refine⟨λu=>(∃P' H',HH u P' L H'/\H'.tb=H.tb)/\bY u U.size [.int .i64 (k:Int),.slice sl.a sl.len sl.cap],⟨⟨_,_,K.h,rfl⟩,C⟩,aG (hS.fO (hS.rA K.h hY ?_))⟩;refine⟨(k:Int),λm hm=>by rw[add_lit,hm.2.cell];rfl,⟨sl,λm hm=>by rw[add_lit,hm.2.cell];rfl,?_⟩⟩;refine Na K.h hA hY (k:Int) (hs1 w K.e) (λx hx'=>(hx x hx').1) λw1 e1 g=>?_;have K1:=K.to e1 g λb _ d=>d;refine⟨⟨⟨_,_,g,rfl⟩,K.cT e1 C (.inl rfl)⟩,?_⟩;have fin:∀r,r=KU A (k:Int) xs->((r=true->R w1)/\(r=false->J w1)):=λr hr=>by
     refine⟨λhr1=>?_,λhr1=>hJ w1 ⟨λhx=>Bool.noConfusion ((hr1.symm.trans hr).trans hx.2),Q,_,K1,(l5.loc _ _).bR N e1 λb _ W hp=>(K.p b hp).2.1 (.inr W),K.cT e1 C (.inl rfl),hQ⟩⟩;rw[zC ⟨heq',by rw[←hr,hr1]⟩]at G;rw[G]at hR;exact hR w1 K1.e (K1.fin h)
    refine Q8 (λr w=>w=w1/\r=KU A (k:Int) xs) (λr w' ⟨hw,hr⟩=>?_) λJ3 hJ3=>?_
    ·subst hw;exact cO (λg=>(fin r hr).1 g) λg=>(fin r hr).2 g
    ·refine cO (λg=>hJ3 _ _ ⟨rfl,?_⟩) λg=>hJ3 _ _ ⟨rfl,g.symm⟩;have:UT A (k:Int) xs=0:=by
      unfold KU at g;simp only[zF,zU]at g;exact g.1
     rw[this,g];rfl
   ·have hne':¬(ZB H.bX xs own).length=xs.length:=by
     simp only[mf]at V;omega
    rw[zB hne']at hJ;exact hJ w ⟨λhx=>hne' hx.1,Q,P,K,N,C,hQ⟩
theorem gF {w:Hp}(K:HK F U B w P L H)(hB:B n){p q:Int}(hb:bY w n [.int .i64 p,.int .i64 q]){x y:Int}{K':Int->Int->Hp->Prop}(hK:∀w',HK F U B w' P L H->K' x y w') :
 dX (Addr.add ⟨n,0,none⟩ 0) (.int .i64 x) w λv3=>dX (Addr.add ⟨n,0,none⟩ 1) (.int .i64 y) v3 λv4=>gA .i64 (Addr.add ⟨n,0,none⟩ 0) v4 λres=>gA .i64 (Addr.add ⟨n,0,none⟩ 1) v4 λoT=>K' res oT v4:=
 hb.s1 aA λv3 o3 b=>b.s1 aA λv4 o4 a=>a.rI rfl (a.rI rfl (hK v4 ((K.own o3 hB).own o4 hB)))
theorem RB (h:HH U F L H)(ht:t<H.bQ.length)(x:Int)(hx:iC x)(hr:bW H.live x=none->∀A∈H.bX,iI A)(hlen:∀g,H.bQ[t]?=some g->g.bP.length<=1000)(h0:∀b,bW H.live x=some b->0<=x){R:Value->Int->Int->Hp->Prop}
 (hR:∀σ' ts',Ext F U σ'->HH σ' (Grow F U) {L with ts:=ts'} (UA H t x).1->R (mK (UA H t x).2.1) (UA H t x).2.2.1 (UA H t x).2.2.2 σ'):Zf.c (aW L.p) (t:Int) x U R:=by
 refine Zf.o ?_;unfold Zf.v;refine nw (cs:=[.int .i64 0,.int .i64 0]) λv hz e hb=>?_;have K1:=(HK.start h).box e hz;refine aG (K1.h.hd.rM rfl ⟨_,K1.h.mD,?_⟩);refine nw (cs:=[.int .i64 0,.int .i64 0,.int .i64 0,.int .i64 0]) λv1 hz1 e1 hb1=>?_;have K2:=K1.box e1 hz1;have hbv:=e1.bT hb id;have s:U.size≠v.size:=by omega
 refine hb1.s1 aA λv2 o2 b2=>b2.s1 aA λv3 o3 b3=>b3.s1 aA λv4 o4 b4=>b4.s1 aA λv5 o5 b5=>?_;have K5:=(((K2.own o2 (.inr rfl)).own o3 (.inr rfl)).own o4 (.inr rfl)).own o5 (.inr rfl);have z:=Ws o5 (Ws o4 (Ws o3 (Ws o2 hbv s) s) s) s;have hL:L = {L with ts:=L.ts}:=rfl;cases hm:bW H.live x with
 | none=>
  have hno:UA H t x=(H,none,0,lM H x):=by unfold UA;rw[hm]
  rw[hno]at hR;simp only at hR;refine cD rfl ?_;refine ui (λw=>lM H x=8/\bK v5 w) (λw ⟨h8,ew⟩=>?_) λJ hJ=>?_
  ·rw[h8]at hR;exact gF (n:=U.size) (K5.fr ew) (.inl (.inr rfl)) (ew.bT z id) λD K'=>hR D L.ts K'.e (K'.fin h)
  ·refine GR K5.h x hx λv9 e9=>?_;have K9:=K5.fr e9;have hb9:=e9.bT z id;refine cQ (λN=>?_) λhlt=>hJ v9 ⟨zB O,e9⟩;have Z:=yD N;obtain⟨A,hA⟩:∃A,H.bX[(XP H.bX x).toNat]?=some A:=⟨_,cV Z.1⟩;obtain⟨Y,hY,_,hAY⟩:=K9.h.ar hA;have a:lM H x=(match UB A x with
    | some (k,y)=>if 0<=k/\(y:Int)=x then(9:Int)else 8
    | none=>8):=by unfold lM;rw[zC N,hA];rfl
   rw[Z.2];refine aG (K9.h.hd.rS rfl (K9.h.rA hY ?_));refine RS hAY (hr hm A (zG hA)) x hx (λB k y i hf=>?_) λB i hf=>?_
   ·rw[hf]at a;simp only at a;rw[a]at hR hJ;have K10:=K9.fr i;have P:=i.bT hb9 id;refine Q8 (λr w=>w=B/\r=decide (0<=k)) (λr w ⟨M,d⟩=>?_) λJ1 G=>?_
    ·subst M;subst d;refine Q8 (λr w2=>w2=w/\r=decide (0<=k/\(y:Int)=x)) (λr w2 ⟨M,d⟩=>?_) λJ2 aa=>?_
     ·subst d;rw[M];refine cQ (λC=>?_) λC=>?_
      ·rw[zC C]at hR;exact gF (n:=U.size) K10 (.inl (.inr rfl)) P λD K'=>hR D L.ts K'.e (K'.fin h)
      ·exact hJ w ⟨zB C,e9.trans i⟩
     ·refine cQ (λC=>aa _ _ ⟨rfl,?_⟩) λC=>aa _ _ ⟨rfl,?_⟩
      ·by_cases hyx:(y:Int)=x
       ·rw[zJ (⟨C,hyx⟩:0<=k/\(y:Int)=x),zS.2 hyx]
       ·rw[zM (λhx=>hyx hx.2),mf.2 hyx]
      ·rw[zM (λhx=>C hx.1)]
    ·exact cD rfl (G _ _ ⟨rfl,rfl⟩)
   ·rw[hf]at a;simp only at a;rw[a]at hJ;refine Q8 (λr w=>w=B/\r=false) (λr w ⟨M,d⟩=>?_) λJ1 G=>cB rfl (G _ _ ⟨rfl,rfl⟩);subst M;subst d;exact bV.intro (cB rfl (cB rfl (hJ w ⟨rfl,e9.trans i⟩)))
 | some b=>
  have hb0:=h0 b hm;have hfd:UA H t x=(if b.2.2.1<0 then({H with live:=cS H.live x},some (.dD (x/256) b.2.2.2),0,0)
   else(Qz {H with live:=cS H.live x} t b.2.2.1.toNat [x],some (.put b.2.2.1.toNat x),0,0)):=by unfold UA;rw[hm]
  rw[hfd]at hR;have hgb:(bW H.live x).getD ((0,0,0,0):Bk)=b:=by rw[hm];rfl
  rw[hgb]at b5;refine cB rfl ?_;refine aG (K5.h.hd.rM rfl ?_);obtain⟨hF,S⟩:=K5.h.qY;refine⟨_,K5.h.mD,λv6 o6 _ hm6=>?_⟩;obtain⟨e6,h6⟩:=S v6 _ (o6 _ rfl) hm6;have K6:=K5.to e6 h6 λb _ hb=>.inl hb;have X:=K5.cT e6 z (.inl (.inr rfl));have m:=K5.cT e6 b5 (.inr rfl);refine m.rI rfl (cQ (λW=>?_) λhnn=>?_)
  ·have E:b.2.2.1<0:=W;rw[zC E]at hR;refine nz aB (ar (by rw[Xs O];omega) (by rw[Xs O];unfold iC at hx;omega) (m.rI rfl ?_));rw[Xs O];exact gF (n:=U.size) K6 (.inl (.inr rfl)) X λD K'=>hR D L.ts K'.e (K'.fin h)
  ·have Q:¬b.2.2.1<0:=hnn;rw[zB Q]at hR;refine m.rI rfl (nw (cs:=[.int .i64 x]) λv7 hz7 e7 hb7=>?_);have K7:=K6.box e7 hz7;have K:=e7.bT X id;have hc7:=e7.bT m id;have V:b.2.2.1=((b.2.2.1.toNat:Nat):Int):=by omega
   have hs7:cX ⟨some ⟨v6.size,0,none⟩,1,1⟩ 1 (Wo [x]) v7 (· = v6.size):=hb7.gY (o:=0) rfl rfl λj hj=>by rw[zH];rfl
   have hz6:=K6.e.1;rw[V];refine Gr K7.h (t:=t) ht b.2.2.1.toNat hs7 (zD _) aA (λq _ u hp=>(K7.p q hp).2.1 (.inr u)) (K7.o.1.sub λq u=>O) (λu=>K7.o.2 O) hlen λv8 ts8 e8 h8=>?_;have K8:=(K6.fr e7).sZ e8 h8 λq hql u=>by
    rcases u with u|u
    ·exact u.imp id .inl
    ·refine .inr (.inr ⟨.inr O,λhB=>?_⟩);have:=(K6.b q hB).2;omega
   have hb8:=K7.cT e8 K (.inl (.inl (.inr rfl)));have hc8:=K7.cT e8 hc7 (.inl (.inr rfl));refine hc8.rI (x:=((b.2.2.1.toNat:Nat):Int)) (by rw[←V];rfl) ?_;exact gF (n:=U.size) K8 (.inl (.inr rfl)) hb8 λD K'=>hR D ts8 K'.e (K'.fin h)
end Go.Ar
namespace Go.Ar
open Go Go.Vc Go.Proofs
variable {U u u':Hp}{F B P Q:Rg}{L:dH}{H H':Hw}{t k n pb:Nat}{A:AR}{Y:Lay}{x:eJ}{g:Th}{c:bZ}{l:Li}{cs:List Value}
theorem rp {t' t:TypeId}{w:Value}{A B:Prop}(hne:t'≠t)(h:B):∃is:Bool,j5 (.iface t' w) t [] [] is/\If is A B:=⟨false,⟨rfl,.inr ⟨_,_,rfl,hne⟩⟩,cB rfl h⟩
theorem kV {t' t:TypeId}{w:Value}{A B:Int->Prop}(hne:t'≠t)(h:B 0):∃x:Int,∃is:Bool,j5 (.iface t' w) t [.int .i64 x] [.int .i64 0] is/\If is (A x) (B x):=⟨0,false,⟨rfl,.inr ⟨_,_,rfl,hne⟩⟩,cB rfl h⟩
theorem jb {t' t:TypeId}{w:Value}{A B:Int->Int->Prop}(hne:t'≠t)(h:B 0 0):∃x:Int,∃y:Int,∃is:Bool,j5 (.iface t' w) t [.int .i64 x,.int .i64 y] [.int .i64 0,.int .i64 0] is/\If is (A x y) (B x y):=⟨0,0,false,⟨rfl,.inr ⟨_,_,rfl,hne⟩⟩,cB rfl h⟩
theorem yB {t:TypeId}{A B:Prop}(h:A):∃is:Bool,j5 (.iface t (.agg #[])) t [] [] is/\If is A B:=⟨true,rfl,cD rfl h⟩
theorem AB {t:TypeId}{a:Int}{A B:Int->Prop}(h:A a):∃x:Int,∃is:Bool,j5 (.iface t (.agg #[.int .i64 a])) t [.int .i64 x] [.int .i64 0] is/\If is (A x) (B x):=⟨a,true,rfl,cD rfl h⟩
theorem vM {t:TypeId}{a b:Int}{A B:Int->Int->Prop}(h:A a b):∃x:Int,∃y:Int,∃is:Bool,j5 (.iface t (.agg #[.int .i64 a,.int .i64 b])) t [.int .i64 x,.int .i64 y] [.int .i64 0,.int .i64 0] is/\If is (A x y) (B x y):=⟨a,b,true,rfl,cD rfl h⟩
theorem HH.tc (h:HH u P L H)(hx:L.ts[t]?=some x)(hg:H.bQ[t]?=some g){b o:Nat}(ha:L.cN.a=some ⟨b,o,none⟩){d:Nat}(hd:d<3){v:Value}(hv:(jt (x,g))[d]?=some v):cell u (Addr.add ⟨b,o+3*t,none⟩ d)=some v:=by
 obtain⟨j,m,e,i⟩:=G9 h.mu hx hg hd hv;rw[ha]at e;cases e;rw[add_lit,show o+3*t+d=o+(3*t+d) by omega];exact i
theorem HH.vY (h:HH u P L H)(hP:∀b,P b->b<u.size)(hx:L.ts[t]?=some x)(hg:H.bQ[t]?=some g)(N:Rg)(hN:∀b,b<u.size->P b->¬N b)(oN:iS N)(oN2:¬N 1) :
 ∃G D:Rg,(∀b,G b->P b)/\(∀b,D b->P b)/\(∀b,G b->¬D b)/\ik x.h g.bP u G/\(∀u1,Ext G u u1->cX L.cN 3 (gR L.ts H.bQ) u1 D) ∧
 ∀(u1:Hp) (s:Sl) (bs:List Bt) (G':Rg),Ext G u u1->(∀b,G' b->G b\/N b)->ik s bs u1 G'->∀{b o:Nat} (ha:L.cN.a=some ⟨b,o,none⟩) {K:aP},
  (∀u2,Ext D u1 u2->HH u2 (λb=>P b/\¬G b\/G' b/\b<u1.size) {L with ts:=L.ts.set t {x with h:=s}} {H with bQ:=H.bQ.set t {g with bP:=bs}}->K u2) →
  dX (Addr.add ⟨b,o+3*t,none⟩ 1) (.slice s.a s.len s.cap) u1 K:=by
 have V:=h.lG;have F:=Hh h.s.ts;have Q:=(cW.1 hg).1;obtain⟨G,D,B,y,hd,U,E,_,r⟩:=h.re hx hg N hN oN oN2;have w:∀u1,Ext G u u1->bS L.cN 3 (gR L.ts H.bQ) u1 D:=λu1 e=>aI.bR E e λb _ d hx=>hd b hx d;refine⟨G,D,B,y,hd,U,λu1 e=>bS.gY (w u1 e),λu1 s bs G' e i C b o ha K M=>?_⟩;have J:o=0:=by
  rcases E.2 with⟨h0,_⟩|⟨S,_,_,ha',_⟩
  ·omega
  ·rw[ha]at ha';cases ha';rfl
 subst J;have m:∀b,G' b->¬D b:=λb d hx=>by
  rcases i b d with h1|h1
  ·exact hd b h1 hx
  ·exact hN b (hP b (y b hx)) (y b hx) h1
 refine(w u1 e).st (j:=3*t+1) O (λS p=>by rw[ha]at p;cases p;rw[add_lit];congr 1;omega) λu2 e2 A=>?_;have z:=(ik.loc _ _).bR ((ik.loc _ _).cut C) e2 λb _ d hx=>m b d.1 hx;obtain⟨W,R⟩:=r u2 s bs (Cut G' u1) D ((e.sub λb d=>.inl d).trans (e2.sub λb d=>.inr d)) (λb d=>(i b d.1).imp .inl id) (λb d=>.inl (.inr d)) (λb d=>m b d.1) z A;refine M u2 e2 (R.mono (λb _ d=>?_) (λb (d:P b/\¬G b\/G' b/\b<u1.size)=>?_) λ(d:P _/\¬G _\/G' _/\_<u1.size)=>?_)
 ·rcases d with d|d|d
  ·exact .inl ⟨d.1,λhx=>d.2.2 (.inl hx)⟩
  ·exact .inr d
  ·exact .inl ⟨y b d,λhx=>hd b hx d⟩
 ·rcases d with d|d
  ·exact h.o b d.1
  ·exact(i b d.1).elim (λhx=>h.o b (B b hx)) (oN b)
 ·rcases d with d|d
  ·exact h.o2 d.1
  ·exact(i _ d.1).elim (λhx=>h.o2 (B _ hx)) oN2
theorem ik.l9 {s:Sl}{G:Rg}{xs:List Int}{r:List Bt}(h:ik s ((k,xs)::r) u G):∃(so:Sl) (ps:List (Nat×Sl)) (D:Rg),dI s 2 (fE ((k,so)::ps)) u (λb=>G b/\¬D b)/\cX so 1 (Wo xs) u (λb=>D b/\ky so b)/\so.len<=so.cap/\ka ps r u (λb=>D b/\¬ky so b)/\(∀b,D b->G b)/\tQ ps/\(∀x∈r,x.2≠[])/\xs≠[]:=by
 obtain⟨ps,D,d,j,B,C,g⟩:=h;cases ps with
 | nil=>have:=j.1;simp at this
 | cons p ps=>
  obtain⟨E,so⟩:=p;obtain⟨e1,z,y⟩:=j.2 0 (E,so) (k,xs) rfl rfl;simp only at e1 z y;subst e1;have e:=rD.1 C;refine⟨so,ps,D,d,z.lp,y,⟨by have:=j.1;simpa using this,λi p x w m=>?_⟩,B,e.2,λx m=>g x (np _ m),g _ pG⟩;obtain⟨M,F,J⟩:=j.2 (i+1) p x (by simpa using w) (by simpa using m);refine⟨M,aH.mono F.lp λb _ A=>⟨A.1,?_⟩,J⟩;rintro⟨a,h1,h2⟩;obtain⟨K,H,L⟩:=A.2;exact e.1 p (zG w) a K h1 H (h2.trans L.symm)
theorem ik.lF {s:Sl}{G:Rg}{b:Bt}{r:List Bt}(h:ik s (b::r) u G):ik ⟨if s.cap=1 then s.a else s.a.map (·.add (1*2)),s.len-1,s.cap-1⟩ r u G:=by
 have j:=h.len;obtain⟨k,y⟩:=b;obtain⟨x,m,D,d,A,z,w,g,i,e,B⟩:=h.l9;exact⟨m,D,d.from (lo:=1) (by simp at j;omega),(ka.loc _ _).mono w λb _ p=>p.1,g,i,e⟩
theorem EH {s so:Sl}{ps:List (Nat×Sl)}{G:Rg}(h:cX s 2 (fE ((k,so)::ps)) u G){K:Addr->Prop}(hK:∀a,cell u (Addr.add a 0)=some (.int .i64 (k:Int))->cell u (Addr.add a 1)=some (.slice so.a so.len so.cap)->K a):Ix s.a s.len 0 2 K:=by
 obtain⟨b,o,i,m⟩:=h.cell (j:=0) (v:=.int .i64 (k:Int)) rfl;obtain⟨r,p,d,e⟩:=h.cell (j:=1) (v:=.slice so.a so.len so.cap) rfl;have g:=h.1;rw[Kt]at g;simp only[zY]at g;rw[i]at d;cases d;rw[i];refine ix O O ?_;rw[add_lit];exact hK _ (by rw[add_lit];exact m) (by rw[add_lit];exact e)
theorem ik.app {s s2:Sl}{G Q:Rg}{bs bs2:List Bt}{e:Nat}(h:ik s bs u G)(h2:ik s2 bs2 u Q)(hd:∀b,G b->¬Q b)(hl:bs.length+bs2.length<=1000){K:Sl->Hp->Prop}
 (hK:∀s' u',Ext G u u'->ik s' (bs++bs2) u' (λb=>G b\/Q b\/u.size<=b)->K s' u'):App s 2 32 e [.int .i64 0,.slice none 0 0] s2 u K:=by
 have l1:=h.len;have l2:=h2.len;obtain⟨Z,D,w,F,P,H,z⟩:=h;obtain⟨E,D2,A,m,r,R,y⟩:=h2;by_cases h0:s2.len=0
 ·have S:bs2=[]:=AS O;subst S;refine w.sq h0 (by
   have:s.len*32<=1000*32:=lR (by simp at hl;omega) O;omega) (by simp at hl;omega) λN=>hK _ u (Ext.refl _ _) ?_
  rw[kX];exact⟨Z,D,(dI.loc _ _ _).mono N λb _ d=>⟨.inl d.1,d.2⟩,F,λb d=>.inl (P b d),H,z⟩
 ·have e1:(s.len+s2.len)*32<=1000*32:=lR O O;refine((dI.loc _ _ _).cut w).app (ys:=fE E) rfl (by rw[Kt];have:=m.1;omega) A.gY.rd UK O O O λs' u' _ L N=>hK s' u' (L.sub λb d=>d.1.1) ?_;have hz:=L.1;have M:=F.1;refine⟨Z++E,λb=>D b/\b<u.size\/D2 b/\b<u.size,?_,⟨by simp[F.1,m.1],λi p x B g=>?_⟩,λb d=>?_,px.2 ⟨H,R,λp B q hq a a' U Y e3=>?_⟩,λx g=>(zK.1 g).elim (z x) (y x)⟩
  ·rw[UF];refine(dI.loc _ _ _).mono N λb _ d=>?_;rcases d with d|d
   ·exact⟨.inl d.1.1,λg=>g.elim (λg=>d.1.2 g.1) λg=>hd b d.1.1 (r b g.1)⟩
   ·exact⟨.inr (.inr d),λg=>by rcases g with g|g<;>omega⟩
  ·rcases ku i Z.length with C|C
   ·rw[zh C]at B;rw[zh O]at g;obtain⟨W,X,V⟩:=F.2 i p x B g;exact⟨W,aH.mono (aH.bR (aH.cut X) L λb _ d g=>g.1.2 d.1) λb _ d=>.inl d,V⟩
   ·rw[zp C]at B;rw[zp O,←M]at g;obtain⟨W,X,V⟩:=m.2 _ p x B g;exact⟨W,aH.mono (aH.bR (aH.cut X) L λb _ d g=>hd b g.1.1 (r b d.1)) λb _ d=>.inr d,V⟩
  ·rcases d with d|d
   ·exact .inl (P b d.1)
   ·exact .inr (.inl (r b d.1))
  ·obtain⟨i,C⟩:=zQ B;obtain⟨j,H⟩:=zQ hq;have hil:=(cW.1 C).1;have hjl:=(cW.1 H).1;have hy:bs[i]?=some (bs[i]' O):=cV _;have J:bs2[j]?=some (bs2[j]'(by have:=m.1;omega)):=cV _;have b1:=(F.2 i p _ C hy).2.1.bT (by simpa[Wo]using z _ (zG hy)) ⟨a,U,rfl⟩;have b2:=(m.2 j q _ H J).2.1.bT (by simpa[Wo]using y _ (zG J)) ⟨a',Y,rfl⟩;rw[e3]at b1;exact hd _ (P _ b1.1) (r _ b2.1)
theorem HK.wb (K:HK F U B u P L H){B':Rg}(h1:∀b,B' b->U.size<=b/\b<u.size/\¬P b):HK F U (λb=>B b\/B' b) u P L H:=
 ⟨K.h,K.e,λb a=>⟨(K.p b a).1,λg=>g.elim (K.p b a).2.1 λd=>(h1 b d).2.2 a,(K.p b a).2.2⟩,λb a=>a.elim (K.b b) λd=>⟨(h1 b d).1,(h1 b d).2.1⟩,K.o⟩
theorem Zp (hg:H.bQ[t]?=some g)(f:Th->Th):H.dS t f = {H with bQ:=H.bQ.set t (f g)}:=by
 unfold Hw.dS;rw[KI hg]
theorem HT (hg:H.bQ[t]?=some g):H.jK t=g:=by unfold Hw.jK;rw[zO,hg];rfl
theorem VQ (hc:H.tb[k]?=some c):H.cls k=c:=by unfold Hw.cls;rw[zO,hc];rfl
theorem wY (hl:g.ls[k]?=some l):g.li k=l:=by unfold Th.li;rw[zO,hl];rfl
theorem BU (ha:H.bX[H.own t]?=some A):H.eA t=A:=by unfold Hw.eA;rw[zO,ha];rfl
theorem jU (h:HS L H)(t:Nat):H.own t<H.bX.length:=tZ _ (by have:=h.a1;omega)
theorem HH.yQ (h:HH u P L H)(hx:L.ts[t]?=some x)(hg:H.bQ[t]?=some g):g.ls.length=H.tb.length:=by
 obtain⟨G,_,a,_⟩:=h.nS hx hg;exact a.len
theorem Cj (ha:H.bX[k]?=some A):H.cC k A=H:=by unfold Hw.cC;rw[Z4 ha]
theorem Oc (l:List Nat):ints l=Wo (l.map λ(x:Nat)=>(x:Int)):=by simp[ints,Wo]
theorem A0 (f:bZ->Li->List Int×Li)(tb:List bZ)(ls:List Li):(QW f tb ls).length<=tb.length:=by
 unfold QW;exact ze (List.length_filterMap_le _ _) aA
theorem HH.pS (h:HH u P L H):H.tb.length<=40:=by
 obtain⟨x,g,b,a⟩:=h.th (t:=0) h.s.t1;obtain⟨G,_,d,_⟩:=h.nS b a;exact d.nk
theorem JJ {s:Sl}{b o:Nat}(ha:s.a=some ⟨b,o,none⟩)(hl:0<s.len){K:Addr->Prop}(hK:K ⟨b,o+0,none⟩):Ix s.a s.len 0 1 K:=by
 rw[ha];exact ix (uI _) O (by rw[add_lit];exact hK)
theorem Pj {s:Sl}{ps:List (Nat×Sl)}{G:Rg}(h:cX s 2 (fE ps) U G)(hl:s.len<=1000000){R:Sl->Hp->Prop}(hR:∀s' σ',s'.len=s.len->bK U σ'->bS s' 2 (fE ps) σ' (λb=>U.size<=b)->R s' σ'):Wq.c s U R:=by
 refine Wq.o ?_;unfold Wq.v;exact Dk h O rfl UK O hl hR
def uj (H:Hw)(t:Nat):Ph->Prop
 | .take k=>k<H.tb.length/\∀y l,QX (H.cls k) ((H.jK t).li k)=(some y,l)->iC y
 | .cH k _=>k<H.tb.length/\(ZV (H.eA t) (k:Int)=0->Ys (H.eA t) (k:Int)≠[])
 | .cJ _ _=>True
 | .grow _ _=>True
 | .fill=>∃k x xs r,(H.jK t).bP=(k,x::xs)::r/\k<H.tb.length/\iC x/\((H.jK t).li k).os.length+xs.length<=256
 | .eI m=>ZT (H.eA t) H.sp (m:Int) 1<=1000000
 | .find x=>iC x/\(bW H.live x=none->∀A∈H.bX,iI A)/\∀b,bW H.live x=some b->0<=x
 | .put k _=>k<H.tb.length/\(H.jK t).bP≠[]
 | .back=>∃k xs r,(H.jK t).bP=(k,xs)::r/\(∀x∈xs,iC x/\0<=XP H.bX x)/\xs.length<=1000000
 | .dD _ a=>0<=a/\a.toNat<H.bX.length/\∀A∈H.bX,∀r∈A.runs,r.1<=1000000
 | .drain=>True
def No (U:Hp)(F:Rg)(L:dH)(o:se)(R:Value->Int->Int->Hp->Prop):Prop:=∀σ' ts',Ext F U σ'->HH σ' (Grow F U) {L with ts:=ts'} o.1->R (mK o.2.1) o.2.2.1 o.2.2.2 σ'
set_option maxRecDepth 8000 in
theorem Nh (hso:H4)(h:HH U F L H)(ht:t<H.bQ.length)(p:Ph)(hp:uj H t p)(hlen:∀g,H.bQ[t]?=some g->g.bP.length<=900){R:Value->Int->Int->Hp->Prop}(hR:No U F L (Wt H t p) R) :
 Zj.c (aW L.p) (t:Int) (mK (some p)) U R:=by
 refine Zj.o ?_;unfold Zj.v;have hlen':∀g,H.bQ[t]?=some g->g.bP.length<=1000:=λg hg=>by have:=hlen g hg;omega
 refine nw (cs:=[.int .i64 0,.int .i64 0]) λv hz e i=>?_;have K1:=(HK.start h).box e hz;obtain⟨x,g,E,hg⟩:=h.th ht;have hlen:=hlen g hg;have htg:=HT hg;have hol:=jU h.s t;obtain⟨A,hA⟩:∃A,H.bX[H.own t]?=some A:=⟨_,cV hol⟩;have hAe:=BU hA;obtain⟨Y,hY,_,_⟩:=h.ar hA;refine aG (K1.h.hd.rS rfl ?_);refine BQ K1.h.mu K1.h.s.ts E hg (d:=0) O rfl λtb0 to0 ha _=>?_;have hS1:mC (λu=>u=v) L H.tb:=λm hm=>by cases hm;exact⟨_,L.ts,H,K1.h,rfl⟩
 refine⟨λu=>u=v,rfl,aG (hS1.fO (Fi K1.h t ⟨rfl,K1.h.rA hY ⟨rfl,?_⟩⟩))⟩;refine ui (λw=>∃P ts',HK F U (λb=>False\/b=U.size) w P {L with ts:=ts'} (Wt H t p).1/\bY w U.size [.int .i64 0,.int .i64 0]/\(Wt H t p).2=(none,0,0)) (λw ⟨P,ts',K,hbw,X⟩=>?_) λJ hJ=>?_
 ·refine gF (n:=U.size) K (.inr rfl) hbw λw' K'=>?_;have:=hR w' ts' K'.e (K'.fin h);rw[X]at this;exact this
 cases p with
 | take k=>
  obtain⟨hk,hy9⟩:k<H.tb.length/\∀y l,QX (H.cls k) ((H.jK t).li k)=(some y,l)->iC y:=hp;obtain⟨c,hc⟩:∃c,H.tb[k]?=some c:=⟨_,cV hk⟩;have hll:=h.yQ E hg;obtain⟨l,hl⟩:∃l,g.ls[k]?=some l:=⟨_,cV (by rw[hll];exact hk)⟩;have hce:=VQ hc;have hle:=wY hl;rw[hce,htg,hle]at hy9;refine AB (nw (cs:=[.int .i64 0]) λv5 M Z N=>?_);have K5:=K1.box Z M;refine N.s0 aA λv6 o6 hb6=>?_;have K6:=K5.own o6 (.inr rfl);have C:=Ws o6 (Z.bT i id) O;refine⟨λu=>u=v6,rfl,aG ⟨some ⟨x.c.p,0,none⟩,λu V=>by cases V;exact K6.h.tc E hg ha O rfl,⟨(k:Int),λu V=>by cases V;rw[add_lit,hb6.cell];rfl,?_⟩⟩⟩;refine Jw K6.h E hg hc hl λv7 ts7 W h7=>?_;have K7:=K6.to W h7 λb _ i=>i;have hb7:=K6.cT W hb6 (.inr rfl);have B:=K6.cT W C (.inl (.inr rfl));cases htk:QX c l with
  | mk o l'=>
  rw[htk]at h7 K7;cases o with
  | some y=>
   have X:Wt H t (.take k)=(Vk (H.dR t g (g.ls.set k l')) y (c.size:Int) (k:Int),none,y,0):=by
    simp only[Wt,hce,htg,hle,htk,Zp hg];rfl
   rw[X]at hR;have hS2:mC (λu=>(∃P ts H',HH u P {L with ts:=ts} H'/\H'.tb=H.tb)/\bY u v.size [.int .i64 (k:Int)]) L H.tb:=λm hm=>hm.1;refine cD rfl ⟨λu=>(∃P ts H',HH u P {L with ts:=ts} H'/\H'.tb=H.tb)/\bY u v.size [.int .i64 (k:Int)],⟨⟨_,_,_,K7.h,rfl⟩,hb7⟩,aG (hS2.dC ⟨(k:Int),λu V=>by rw[add_lit,V.2.cell];rfl,?_⟩)⟩;refine mC.rC (L:={L with ts:=ts7}) (H:=H.dR t g (g.ls.set k l')) hS2 K7.h hc ⟨(k:Int),λu V=>by rw[add_lit,V.2.cell];rfl,?_⟩;refine BD K7.h y (c.size:Int) (k:Int) (hy9 y l' htk) λv8 e8 h8=>?_;have K8:=K7.to e8 h8 λb _ i=>.inl i;refine⟨⟨⟨_,_,_,h8,rfl⟩,K7.cT e8 hb7 (.inr rfl)⟩,?_⟩;exact gF (n:=U.size) K8 (.inl (.inr rfl)) (K7.cT e8 B (.inl (.inr rfl))) λw' K'=>hR w' ts7 K'.e (K'.fin h)
  | none=>
   have X:Wt H t (.take k)=(H.dR t g (g.ls.set k l'),some (.cH k (nY c l')),0,0):=by
    simp only[Wt,hce,htg,hle,htk,Zp hg];rfl
   rw[X]at hR;have htlt:=(cW.1 hg).1;have hklt:=(cW.1 hl).1;have hg7:(H.dR t g (g.ls.set k l')).bQ[t]?=some {g with ls:=g.ls.set k l'}:=by simp[Hw.dR,htlt]
   obtain⟨x7,g7,hx7,_⟩:=K7.h.th (t:=t) (by simp[Hw.dR,htlt]);have hl7:({g with ls:=g.ls.set k l'}:Th).ls[k]?=some l':=by simp[hklt]
   refine cB rfl ⟨λu=>u=v7,rfl,aG ⟨some ⟨x7.c.p,0,none⟩,λu V=>by cases V;exact K7.h.tc hx7 hg7 ha O rfl,⟨(k:Int),λu V=>by cases V;rw[add_lit,hb7.cell];rfl,?_⟩⟩⟩;refine IM K7.h hx7 hg7 hc hl7 λv8 ts8 e8 h8=>?_;have K8:=K7.to e8 h8 λb _ i=>i;refine(K7.cT e8 hb7 (.inr rfl)).rI rfl ?_;exact gF (n:=U.size) K8 (.inl (.inr rfl)) (K7.cT e8 B (.inl (.inr rfl))) λw' K'=>hR w' ts8 K'.e (K'.fin h)
 | cH k w=>
  obtain⟨hk,hne0⟩:k<H.tb.length/\(ZV (H.eA t) (k:Int)=0->Ys (H.eA t) (k:Int)≠[]):=hp;rw[hAe]at hne0;obtain⟨c,hc⟩:∃c,H.tb[k]?=some c:=⟨_,cV hk⟩;have hce:=VQ hc;refine kV aB (vM (nw (cs:=[.int .i64 0,.int .i64 0]) λv5 M Z N=>?_));have K5:=K1.box Z M;refine N.s1 aA λv5b o5 b5=>b5.s1 aA λv6 o6 b6=>?_;have K6:=(K5.own o5 (.inr rfl)).own o6 (.inr rfl);have S:U.size≠v.size:=by omega
  have C:=Ws o6 (Ws o5 (Z.bT i id) S) S;refine ui (λu=>(∃P',HK F U (λb=>(False\/b=U.size)\/b=v.size) u P' L H)/\bY u U.size [.int .i64 0,.int .i64 0]/\bY u v.size [.int .i64 (k:Int),.int .i64 (w:Int)]/\Wt H t (.cH k w)=(H,some (.cJ k w),0,0)) (λu ⟨⟨P',K⟩,hbw,hbx,X⟩=>?_) λJ1 hJ1=>?_
  ·rw[X]at hR;exact hbx.rI rfl (hbx.rI rfl (gF (n:=U.size) K (.inl (.inr rfl)) hbw λw' K'=>hR w' L.ts K'.e (K'.fin h)))
  ·refine b6.rI rfl (aG (K6.h.hd.rS rfl (b6.rI rfl (sj K6.h.ju hc (d:=2) O ?_))));simp only[zB (show ¬(2=0) by omega),zB (show ¬(2=1) by omega)];refine cO (λheq=>b6.rI rfl ?_) λhne'=>hJ1 v6 ⟨⟨_,K6⟩,C,b6,?_⟩
   ·have heq':w=c.batch:=by simp only[zS]at heq;omega
    refine HZ K6.h hA hY (k:Int) λs v7 Q W hQ hs7 hcap h7=>?_;have K7:=K6.to W h7 λb _ i=>i.1;have b7:=K6.cT W b6 (.inr rfl);have B:=K6.cT W C (.inl (.inr rfl));refine cO (λh0=>b7.rI rfl ?_) λhn0=>?_
    ·have h0':ZV A (k:Int)=0:=by simpa using h0
     have X:Wt H t (.cH k w)=(Qz (H.cC (H.own t) (Zt A (k:Int))) t k (Ys A (k:Int)),some .fill,0,0):=by
      simp only[Wt,hce,hAe,heq',h0',zR]
     rw[X]at hR;refine Gr K7.h (t:=t) ht k hs7 hcap (hne0 h0') (λb _ z E=>E.1.2 z) (K6.h.o.sub hQ) (λz=>K6.h.o2 (hQ _ z)) hlen' λv8 ts8 e8 h8=>?_;have K8:=K7.sZ e8 h8 λb i z=>by
      rcases z with z|z
      ·exact z.imp id .inl
      ·exact .inr (.inr ⟨(K6.p b (hQ b z)).1,(K6.p b (hQ b z)).2.1⟩)
     exact gF (n:=U.size) K8 (.inl (.inr rfl)) (K7.cT e8 B (.inl (.inr rfl))) λw' K'=>hR w' ts8 K'.e (K'.fin h)
    ·have hn0':ZV A (k:Int)≠0:=by simpa using hn0
     have hsame:Zt A (k:Int)=A:=by unfold Zt;rw[zB hn0']
     rw[hsame,Cj hA]at K7;refine hJ1 v7 ⟨⟨_,K7⟩,B,b7,?_⟩;simp only[Wt,hce,hAe,heq',zB hn0',zR]
   ·have hne2:w≠c.batch:=λe=>by rw[e]at hne';simp at hne'
    simp only[Wt,hce,zB hne2]
 | cJ k w=>
  refine kV aB (jb aB (vM (nw (cs:=[.int .i64 0,.int .i64 0]) λv5 M Z N=>?_)));have K5:=K1.box Z M;refine N.s1 aA λv5b o5 b5=>b5.s1 aA λv6 o6 b6=>?_;have K6:=(K5.own o5 (.inr rfl)).own o6 (.inr rfl);have S:U.size≠v.size:=by omega
  have C:=Ws o6 (Ws o5 (Z.bT i id) S) S;refine b6.rI rfl (b6.rI rfl (GO K6.h hA hY (k:Int) (w:Int) λs v7 Q W hQ hs7 h7=>?_));have K7:=K6.to W h7 λb _ i=>i.1;have b7:=K6.cT W b6 (.inr rfl);have B:=K6.cT W C (.inl (.inr rfl));have hsl:s.len=(Yc A (k:Int) (w:Int)).length:=by have:=hs7.1;simp[ints]at this;omega
  by_cases hemp:Yc A (k:Int) (w:Int)=[]
  ·have X:Wt H t (.cJ k w)=(H.cC (H.own t) (Yu A (k:Int) (w:Int)),some (.grow k w),0,0):=by
    simp only[Wt,hAe,zC hemp]
   rw[X]at hR;refine fS (by rw[hsl,hemp];simp) (b7.rI rfl (b7.rI rfl ?_));exact gF (n:=U.size) K7 (.inl (.inr rfl)) B λw' K'=>hR w' L.ts K'.e (K'.fin h)
  ·have X:Wt H t (.cJ k w)=(Qz (H.cC (H.own t) (Yu A (k:Int) (w:Int))) t k ((Yc A (k:Int) (w:Int)).map λ(x:Nat)=>(x:Int)),some .fill,0,0):=by
    simp only[Wt,hAe,zB hemp]
   rw[X]at hR;have hpos:=pf.2 hemp;refine lB (by rw[hsl];omega) (b7.rI rfl ?_);have hs7':=bS.gY hs7;rw[Oc]at hs7';have hz6:=K6.e.1;refine Gr K7.h (t:=t) ht k hs7' (bS.pW hs7) (by simpa using hemp) (λb _ z E=>E.1.2 z) (K6.o.1.sub λb i=>by have:=hQ b i;omega) (λz=>K6.o.2 (by have:=hQ _ z;omega)) hlen' λv8 ts8 e8 h8=>?_;have K8:=K7.sZ e8 h8 λb i z=>by
    rcases z with z|z
    ·exact z.imp id .inl
    ·have:=hQ b z;exact .inr (.inr ⟨.inr O,λhB=>by have:=(K6.b b hB).2;omega⟩)
   exact gF (n:=U.size) K8 (.inl (.inr rfl)) (K7.cT e8 B (.inl (.inr rfl))) λw' K'=>hR w' ts8 K'.e (K'.fin h)
 | grow k w=>
  refine kV aB (jb aB (jb aB (vM (nw (cs:=[.int .i64 0,.int .i64 0]) λv5 M Z N=>?_))));have K5:=K1.box Z M;refine N.s1 aA λv5b o5 b5=>b5.s1 aA λv6 o6 b6=>?_;have K6:=(K5.own o5 (.inr rfl)).own o6 (.inr rfl);have S:U.size≠v.size:=by omega
  have C:=Ws o6 (Ws o5 (Z.bT i id) S) S;refine b6.rI rfl (ME K6.h hA hY (k:Int) λv7 W h7=>?_);have K7:=K6.to W h7 λb _ i=>i;have b7:=K6.cT W b6 (.inr rfl);have B:=K6.cT W C (.inl (.inr rfl));refine cO (λhn0=>?_) λh0=>?_
  ·have hn0':KD A H.sp (k:Int)≠0:=by simpa using hn0
   have X:Wt H t (.grow k w)=({H.cC (H.own t) (cL A H.sp (k:Int)).1 with sp:=(cL A H.sp (k:Int)).2},none,0,KD A H.sp (k:Int)):=by
    simp only[Wt,hAe,zB hn0']
   rw[X]at hR;exact gF (n:=U.size) K7 (.inl (.inr rfl)) B λw' K'=>hR w' L.ts K'.e (K'.fin h)
  ·have h0':KD A H.sp (k:Int)=0:=by simpa using h0
   have X:Wt H t (.grow k w)=({H.cC (H.own t) (cL A H.sp (k:Int)).1 with sp:=(cL A H.sp (k:Int)).2},some (.cJ k w),0,0):=by
    simp only[Wt,hAe,zC h0']
   rw[X]at hR;refine b7.rI rfl (b7.rI rfl ?_);exact gF (n:=U.size) K7 (.inl (.inr rfl)) B λw' K'=>hR w' L.ts K'.e (K'.fin h)
 | fill=>
  obtain⟨k,y,ys,r,hh,hk,hy9,hfit⟩:∃k x xs r,(H.jK t).bP=(k,x::xs)::r/\k<H.tb.length/\iC x/\((H.jK t).li k).os.length+xs.length<=256:=hp;rw[htg]at hh hfit;obtain⟨c,hc⟩:∃c,H.tb[k]?=some c:=⟨_,cV hk⟩;have hll:=h.yQ E hg;obtain⟨l,hl⟩:∃l,g.ls[k]?=some l:=⟨_,cV (by rw[hll];exact hk)⟩;have hce:=VQ hc;have hle:=wY hl;rw[hle]at hfit;refine kV aB (jb aB (jb aB (jb aB (yB (nw (cs:=[]) λv5 M Z N=>?_)))));have K5:=K1.box Z M;have hbv5:=Z.bT i id;obtain⟨G,D,hG,hD,hd,aa,hr,hput⟩:=K5.h.vY (λb i=>(K5.p b i).2.2) E hg (λ_=>False) (λb _ _ z=>z) (K5.o.1.sub λb i=>i.elim) (λz=>z);rw[hh]at aa;obtain⟨so,ps,Dn,hrow,hso1,hcap,hBr,hDn,hj,S,hxne⟩:=aa.l9;have hz5':=K5.e.1;have hsol:so.len=ys.length+1:=by have:=hso1.1;simp[Wo]at this;omega
  refine aG (nq (K5.h.tc E hg ha (d:=1) O rfl) (EH (dI.gY hrow) λa ha0 ha1=>ns ha0 (nq ha1 ?_)));refine nw (cs:=[.int .i64 0,.slice none 0 0]) λv43 hz43 e43 hb43=>hb43.s1 aA λv44 o44 b44=>b44.s1 aA λv45 o45 b45=>?_;have e45:bK v5 v45:=(e43.only o44 (.inr (zD _))).only o45 (.inr (zD _));have hz45:v5.size<v45.size:=b45.lt;refine aG (hput v45 ⟨none,0,0⟩ [] (λ_=>False) (bK.to e45) (λb i=>i.elim) (ik.nil _ _ _) ha λv46 e46 h46=>?_);have hz46:=e46.1;have e546:Ext _ v5 v46:=(bK.to e45).trans (e46.sub hD);have K46:=K5.to e546 h46 λb _ z=>by
   rcases z with z|z
   ·exact .inl z.1
   ·exact z.1.elim
  have hbv46:=K5.cT e546 hbv5 (.inl (.inr rfl));have b46:bY v46 v5.size _:=e46.bT b45 λE=>by have:=(K5.p _ (hD _ E)).2.2;omega
  have K46b:=K46.wb (B':=λb=>b=v5.size) λb i=>⟨O,O,λE=>by
   subst i;rcases E.1 with h1|h1
   ·have:=(K5.p _ h1.1).2.2;omega
   ·exact h1.1⟩
  have hso46:=aH.bR (aH.bO (aH.cut hso1) e45) e46 λb _ i E=>hd b (hDn b i.1.1) E;have hXn:∀b,(Dn b/\ky so b)/\b<v5.size->¬Cut (λb=>(Cut F U b/\¬G b)\/False/\b<v45.size) v46 b:=λb i E=>by
   rcases E.1 with h1|h1
   ·exact h1.2 (hDn b i.1.1)
   ·exact h1.1
  have hg46:({H with bQ:=H.bQ.set t {g with bP:=[]}}:Hw).bQ[t]?=some {g with bP:=[]}:=by simp[ht]
  have hx46:(L.ts.set t {x with h:=⟨none,0,0⟩})[t]?=some {x with h:=⟨none,0,0⟩}:=zL (cW.1 E).1;refine aG (uz (K46b.h.tc hx46 hg46 ha (d:=0) O rfl) (b46.rI rfl (b46.rS (a:=so.a) (n:=so.len) (c:=so.cap) rfl (iU (lo:=1) (by show 1<=so.len;omega) hcap (zD _) ?_))));have hsub:=cX.sub hso46 (lo:=1) (hi:=so.len) (mx:=so.cap) O (zD _) hcap;have hsx:((Wo (y::ys)).drop (1*1)).take ((so.len-1)*1)=Wo ys:=by
   rw[mN (by simp[Wo];omega)];rfl
  rw[hsx]at hsub;have hl46:({g with bP:=[]}:Th).ls[k]?=some l:=hl;refine Rs K46b.h hx46 hg46 hc hl46 hsub hXn hfit λv47 ts47 e47 h47=>?_;have K47:=K46b.to e47 h47 λb _ i=>i;have hso47:=aH.bR hso46 e47 λb _ i E=>hXn b i E;have b47:=K46b.cT e47 b46 (.inr rfl);have hbv47:=K46b.cT e47 hbv46 (.inl (.inl (.inr rfl)));have X:Wt H t .fill=(Vk {H with bQ:=H.bQ.set t {g with ls:=g.ls.set k (eD ys.reverse l),bP:=[]}} y (c.size:Int) (k:Int),none,y,0):=by
   simp only[Wt,htg,hh,Zp hg,hle,hce]
  rw[X]at hR;obtain⟨b0,o0,ha0',hc0⟩:=hso47.cell (j:=0) (v:=.int .i64 y) rfl;have hS4:mC (λu=>((∃P ts H',HH u P {L with ts:=ts} H'/\H'.tb=H.tb)/\bY u v5.size [.int .i64 (k:Int),.slice so.a so.len so.cap])/\cell u ⟨b0,o0+0,none⟩=some (.int .i64 y)) L H.tb:=λm hm=>hm.1.1;refine⟨λu=>((∃P ts H',HH u P {L with ts:=ts} H'/\H'.tb=H.tb)/\bY u v5.size [.int .i64 (k:Int),.slice so.a so.len so.cap])/\cell u ⟨b0,o0+0,none⟩=some (.int .i64 y),⟨⟨⟨_,_,_,K47.h,rfl⟩,b47⟩,hc0⟩,⟨so,λu V=>by rw[add_lit,V.1.2.cell];rfl,?_⟩⟩;refine JJ ha0' O ⟨y,λu V=>V.2,aG (hS4.dC ⟨(k:Int),λu V=>by rw[add_lit,V.1.2.cell];rfl,?_⟩)⟩;refine mC.rC (L:={L with ts:=ts47}) (H:=Hw.dR {H with bQ:=H.bQ.set t {g with bP:=[]}} t {g with bP:=[]} (g.ls.set k (eD ys.reverse l))) hS4 K47.h hc ⟨(k:Int),λu V=>by rw[add_lit,V.1.2.cell];rfl,?_⟩;refine BD K47.h y (c.size:Int) (k:Int) hy9 λv48 e48 h48=>?_;have K48:=K47.to e48 h48 λb _ i=>.inl i;have hz4747:=e47.1;have hso48:=aH.bR hso47 e48 λb _ i E=>by
   rcases E.1 with h1|h1
   ·exact hXn b i h1
   ·have:=i.2;omega
  refine⟨⟨⟨⟨_,_,_,h48,rfl⟩,K47.cT e48 b47 (.inr rfl)⟩,?_⟩,?_⟩
  ·obtain⟨b1,o1,ha1',hc1⟩:=hso48.cell (j:=0) (v:=.int .i64 y) rfl;rw[ha0']at ha1';cases ha1';exact hc1
  ·have K49:=K48;simp only[Hw.dR,ni]at K49;exact gF (n:=U.size) K49 (.inl (.inl (.inr rfl))) (K47.cT e48 hbv47 (.inl (.inl (.inr rfl)))) λw' K'=>hR w' ts47 K'.e (K'.fin h)
 | eI m=>
  have hp:ZT (H.eA t) H.sp (m:Int) 1<=1000000:=hp;rw[hAe]at hp;refine kV aB (jb aB (jb aB (jb aB (rp aB (AB (nw (cs:=[.int .i64 0]) λv5 M Z N=>?_))))));have K5:=K1.box Z M;refine N.s0 aA λv6 o6 b6=>?_;have K6:=K5.own o6 (.inr rfl);have C:=Ws o6 (Z.bT i id) O;refine b6.rI rfl (LB K6.h hA hY (m:Int) 1 λv7 W h7=>?_);have K7:=K6.to W h7 λb _ i=>i;have b7:=K6.cT W b6 (.inr rfl);have B:=K6.cT W C (.inl (.inr rfl));refine cO (λhn0=>?_) λh0=>?_
  ·have hn0':Qg A H.sp (m:Int) 1≠0:=by simpa using hn0
   have X:Wt H t (.eI m)=({H.cC (H.own t) (cA A H.sp (m:Int) 1).1 with sp:=(cA A H.sp (m:Int) 1).2},none,0,Qg A H.sp (m:Int) 1):=by
    simp only[Wt,hAe,zB hn0']
   rw[X]at hR;exact gF (n:=U.size) K7 (.inl (.inr rfl)) B λw' K'=>hR w' L.ts K'.e (K'.fin h)
  ·have h0':Qg A H.sp (m:Int) 1=0:=by simpa using h0
   have hm:m<=64:=by
    unfold Qg at h0';split at h0'
    ·rename_i hpo;simp only[Q5,zF,zU]at hpo;omega
    ·omega
   have X:Wt H t (.eI m)=(Vk {H.cC (H.own t) (cA A H.sp (m:Int) 1).1 with sp:=(cA A H.sp (m:Int) 1).2} ((ZT A H.sp (m:Int) 1*256:Nat):Int) ((m*256:Nat):Int) (-1),none,((ZT A H.sp (m:Int) 1*256:Nat):Int),0):=by
    simp only[Wt,hAe,zC h0']
   rw[X]at hR;refine cP (m:=ZT A H.sp (m:Int) 1*256) O O (b7.rI rfl (cP (m:=m*256) O O ?_));refine BD K7.h _ _ _ O λv8 e8 h8=>?_;have K8:=K7.to e8 h8 λb _ i=>.inl i;exact gF (n:=U.size) K8 (.inl (.inr rfl)) (K7.cT e8 B (.inl (.inr rfl))) λw' K'=>hR w' L.ts K'.e (K'.fin h)
 | find x=>
  obtain⟨hx9,hro,hlv⟩:iC x/\(bW H.live x=none->∀A∈H.bX,iI A)/\∀b,bW H.live x=some b->0<=x:=hp;refine kV aB (jb aB (jb aB (jb aB (rp aB (kV aB (AB (nw (cs:=[.int .i64 0]) λv5 M Z N=>?_)))))));have K5:=K1.box Z M;refine N.s0 aA λv6 o6 b6=>?_;have K6:=K5.own o6 (.inr rfl);have C:=Ws o6 (Z.bT i id) O;refine b6.rI rfl (RB K6.h ht x hx9 hro hlen' hlv λv7 ts7 W h7=>?_);have K7:=K6.to W h7 λb _ i=>i;have B:=K6.cT W C (.inl (.inr rfl));exact gF (n:=U.size) K7 (.inl (.inr rfl)) B λw' K'=>hR w' ts7 K'.e (K'.fin h)
 | put k y=>
  obtain⟨hk,hne0⟩:k<H.tb.length/\(H.jK t).bP≠[]:=hp;rw[htg]at hne0;obtain⟨c,hc⟩:∃c,H.tb[k]?=some c:=⟨_,cV hk⟩;have hll:=h.yQ E hg;obtain⟨l,hl⟩:∃l,g.ls[k]?=some l:=⟨_,cV (by rw[hll];exact hk)⟩;have hce:=VQ hc;have hle:=wY hl;refine kV aB (jb aB (jb aB (jb aB (rp aB (kV aB (kV aB (vM (nw (cs:=[.int .i64 0,.int .i64 0]) λv5 M Z N=>?_))))))));have K5:=K1.box Z M;refine N.s1 aA λv5b o5 b5=>b5.s1 aA λv6 o6 b6=>?_;have K6:=(K5.own o5 (.inr rfl)).own o6 (.inr rfl);have S:U.size≠v.size:=by omega
  have C:=Ws o6 (Ws o5 (Z.bT i id) S) S;generalize hgg:(if(dJ c y l).1=[]then({g with ls:=g.ls.set k (dJ c y l).2}:Th)else{g with ls:=g.ls.set k (dJ c y l).2,bP:=g.bP++[(k,(dJ c y l).1)]})=g2
  have hg2n:g2.bP≠[]/\g2.bP.length<=901:=by
   rw[←hgg];split
   ·exact⟨hne0,by simp;omega⟩
   ·exact⟨by simp,by simp;omega⟩
  refine ui (λw=>∃P ts',HK F U (λb=>(False\/b=U.size)\/b=v.size) w P {L with ts:=ts'} {H with bQ:=H.bQ.set t g2}/\bY w U.size [.int .i64 0,.int .i64 0]) (λw ⟨P,ts2,K,hbw⟩=>?_) λJ2 hJ2=>?_
  ·have hg3:({H with bQ:=H.bQ.set t g2}:Hw).bQ[t]?=some g2:=by simp[ht]
   obtain⟨x2,_,hx2,_⟩:=K.h.th (t:=t) (by simpa using ht);obtain⟨G,D,hG,hD,hd,aa,hr,hput⟩:=K.h.vY (λb i=>(K.p b i).2.2) hx2 hg3 (λ_=>False) (λb _ _ z=>z) (K.o.1.sub λb i=>i.elim) (λz=>z);have hbl:=aa.len;have hbc:=aa.cap;obtain⟨b0,r0,hbr⟩:∃b r,g2.bP=b::r:=by
    cases hh:g2.bP with
    | nil=>exact absurd hh hg2n.1
    | cons b r=>exact⟨b,r,rfl⟩
   have ta:g2.bP.drop 1=r0:=by rw[hbr];rfl
   rw[hbr]at aa;have hpos:1<=x2.h.len:=by rw[hbl,hbr];simp
   refine aG (nq (K.h.tc hx2 hg3 ha (d:=1) O rfl) ?_);refine iU (lo:=1) hpos hbc (zD _) ?_;refine aG (hput w _ _ G (Ext.refl _ _) (λb i=>.inl i) aa.lF ha λw1 e1 h1=>?_);have e1':=e1.sub hD;have K1b:=K.to e1' h1 λb _ z=>by
    rcases z with z|z
    ·exact .inl z.1
    ·exact .inl (hG b z.1)
   have hbw1:=K.cT e1' hbw (.inl (.inr rfl));have K3:=K1b;simp only[ni]at K3;generalize hg3':({g2 with bP:=r0}:Th)=g3 at K3;have hl3:g3.bP=r0/\g3.ls=g2.ls:=by rw[←hg3'];exact⟨rfl,rfl⟩
   have hr0:r0.length<=900:=by have:=hg2n.2;rw[hbr]at this;simp at this;omega
   have hg3e:({H with bQ:=H.bQ.set t g3}:Hw).bQ[t]?=some g3:=by simp[ht]
   have hpe:il H t k y=(if H.cf.dA<QN H.tb g3.ls then{H with bQ:=H.bQ.set t {g3 with ls:=QS KC H.tb g3.ls,bP:=g3.bP++QW KC H.tb g3.ls}}else{H with bQ:=H.bQ.set t g3}):=by
    have e2:(if(dJ c y l).1=[]then H.dS t λh=>h.gI k (dJ c y l).2 else Qz (H.dS t λh=>h.gI k (dJ c y l).2) t k (dJ c y l).1) = {H with bQ:=H.bQ.set t g2}:=by
     rw[←hgg];split
     ·rw[Zp hg];rfl
     ·rw[Zp hg];unfold Qz Hw.dS;simp only;rw[KI (t:=g.gI k (dJ c y l).2) (by simp[ht]),ni];rfl
    have e3:({H with bQ:=H.bQ.set t g2}:Hw).dS t (λh=>{h with bP:=h.bP.drop 1}) = {H with bQ:=H.bQ.set t g3}:=by
     rw[Zp hg3];simp only[ni,ta,hg3']
    unfold il;simp only[hce,htg,hle,e2,e3,HT hg3e,Zp hg3e,ni]
   have hx3:(ts2.set t {x2 with h:=⟨if x2.h.cap=1 then x2.h.a else x2.h.a.map (·.add (1*2)),x2.h.len-1,x2.h.cap-1⟩})[t]?=some {x2 with h:=⟨if x2.h.cap=1 then x2.h.a else x2.h.a.map (·.add (1*2)),x2.h.len-1,x2.h.cap-1⟩}:=zL (cW.1 hx2).1
   generalize hx3':({x2 with h:=⟨if x2.h.cap=1 then x2.h.a else x2.h.a.map (·.add (1*2)),x2.h.len-1,x2.h.cap-1⟩}:eJ)=x3 at hx3 K3
   generalize ts2.set t x3=ts3 at hx3 K3;refine ui (λw=>∃P ts',HK F U (λb=>(False\/b=U.size)\/b=v.size) w P {L with ts:=ts'} (il H t k y)/\bY w U.size [.int .i64 0,.int .i64 0]) (λw ⟨P,ts',K,hbw⟩=>?_) λJ3 hJ3=>?_
   ·have X:Wt H t (.put k y)=(il H t k y,jO (il H t k y) t,0,0):=rfl;rw[X]at hR;refine Vz K.h (t:=t) ?_ ?_
    ·rw[hpe];split<;>simpa using ht
    ·exact gF (n:=U.size) K (.inl (.inr rfl)) hbw λw' K'=>hR w' ts' K'.e (K'.fin h)
   ·refine aG (uz (K3.h.tc hx3 hg3e ha (d:=0) O rfl) ?_);refine M5 K3.h hx3 hg3e λv10 e10=>?_;have K10:=K3.fr e10;have hbw10:=e10.bT hbw1 id;refine cQ (λhov=>?_) λhno=>hJ3 v10 ⟨_,ts3,by rw[hpe,zB hno];exact K10,hbw10⟩;refine⟨λu=>cell u (Addr.add ⟨tb0,to0+3*t,none⟩ 1)=some (.slice x3.h.a x3.h.len x3.h.cap)/\cell u (Addr.add ⟨tb0,to0+3*t,none⟩ 0)=some (.pointer (some ⟨x3.c.p,0,none⟩)),⟨K10.h.tc hx3 hg3e ha (d:=1) O rfl,K10.h.tc hx3 hg3e ha (d:=0) O rfl⟩,aG ⟨x3.h,λu V=>V.1,aG ⟨some ⟨x3.c.p,0,none⟩,λu V=>V.2,?_⟩⟩⟩;refine RK hso K10.h hx3 hg3e λv11 s Q e11 hQ hB h11=>?_;have K11:=K10.to e11 h11 λb _ i=>i.1;have hbw11:=K10.cT e11 hbw10 (.inl (.inr rfl));have hg11:(Hw.dR {H with bQ:=H.bQ.set t g3} t g3 (QS KC H.tb g3.ls)).bQ[t]?=some {g3 with ls:=QS KC H.tb g3.ls}:=by simp[Hw.dR,ht]
    refine⟨⟨K11.h.tc hx3 hg11 ha (d:=1) O rfl,K11.h.tc hx3 hg11 ha (d:=0) O rfl⟩,?_⟩;have hz0:=K10.e.1;obtain⟨G,D,hG,hD,hd,aa,hr,hput⟩:=K11.h.vY (λb i=>i.2) hx3 hg11 (λb=>Q b\/v11.size<=b) (λb i hP z=>z.elim (λz=>hP.1.2 z) λz=>O) (K10.o.1.sub λb i=>i.elim (λi=>by have:=hQ b i;omega) λi=>by have:=K11.e.1;omega) (λz=>K10.o.2 (z.elim (λi=>by have:=hQ _ i;omega) λi=>by have:=K11.e.1;omega));refine ik.app aa hB (λb hg z=>(hG b hg).1.2 z) ?_ λs' v12 e12 hB12=>?_
    ·have:=A0 KC H.tb g3.ls;have:H.tb.length<=40:=K3.h.pS;simp only[hl3.1];omega
    have hcell:∀{d:Nat} {w:Value},d<3->(jt (x3,({g3 with ls:=QS KC H.tb g3.ls}:Th)))[d]?=some w->cell v12 (Addr.add ⟨tb0,to0+3*t,none⟩ d)=some w:=λhd3 hv=>by
     obtain⟨b',o',ha',hc'⟩:=G9 (hr v12 e12) hx3 hg11 hd3 hv;rw[ha]at ha';cases ha';rw[add_lit,vE];exact hc'
    refine⟨⟨hcell (d:=1) O rfl,hcell (d:=0) O rfl⟩,aG (hput v12 s' _ _ e12 (λb i=>i.imp id id) hB12 ha λv13 e13 h13=>?_)⟩;have e13':=(e12.sub hG).trans (e13.sub hD);have K13:=K11.sZ e13' h13 λb i z=>by
     rcases z with z|z
     ·exact .inl z.1
     ·rcases z.1 with h1|h1|h1
      ·exact .inl (hG b h1)
      ·have:=hQ b h1;exact .inr (.inr ⟨.inr O,λhB=>by have:=(K10.b b hB).2;omega⟩)
      ·exact .inr (.inl h1)
    have hbw13:=K11.cT e13' hbw11 (.inl (.inr rfl));have K14:=K13;simp only[Hw.dR,ni]at K14;have hpe':=hpe;rw[zC hov]at hpe';rw[hpe']at hJ3;exact hJ3 v13 ⟨_,_,K14,hbw13⟩
  ·refine⟨λu=>u=v6,rfl,aG ⟨some ⟨x.c.p,0,none⟩,λu V=>by cases V;exact K6.h.tc E hg ha (d:=0) O rfl,⟨(k:Int),λu V=>by cases V;rw[add_lit,b6.cell];rfl,⟨y,λu V=>by cases V;rw[add_lit,b6.cell];rfl,?_⟩⟩⟩⟩;refine Jz K6.h E hg hc hl y λv7 ts7 s ee Q W hQ hs7 h7=>?_;have K7:=K6.to W h7 λb _ i=>i.1;have b7:=K6.cT W b6 (.inr rfl);have B:=K6.cT W C (.inl (.inr rfl));have hsl:s.len=(dJ c y l).1.length:=by have:=hs7.1;simp[Wo]at this;omega
   by_cases hemp:(dJ c y l).1=[]
   ·rw[zC hemp]at hgg;rw[←hgg]at hJ2;exact fS (by rw[hsl,hemp];simp) (hJ2 v7 ⟨_,ts7,K7,B⟩)
   ·rw[zB hemp]at hgg;have hpos:=pf.2 hemp;have hz6:=K6.e.1;refine lB (by rw[hsl];omega) (b7.rI rfl ?_);refine Gr K7.h (t:=t) (by simpa[Hw.dR]using ht) k (bS.gY hs7) (bS.pW hs7) hemp (λb _ z E=>E.1.2 z) (K6.o.1.sub λb i=>by have:=hQ b i;omega) (λz=>K6.o.2 (by have:=hQ _ z;omega)) (λg' hg'=>?_) λv8 ts8 e8 h8=>?_
    ·have:(H.dR t g (g.ls.set k (dJ c y l).2)).bQ[t]?=some {g with ls:=g.ls.set k (dJ c y l).2}:=by simp[Hw.dR,ht]
     rw[this]at hg';cases hg';simp only;omega
    ·have K8:=K7.sZ e8 h8 λb i z=>by
      rcases z with z|z
      ·exact z.imp id .inl
      ·have:=hQ b z;exact .inr (.inr ⟨.inr O,λhB=>by have:=(K6.b b hB).2;omega⟩)
     have e9:Qz (H.dR t g (g.ls.set k (dJ c y l).2)) t k (dJ c y l).1 = {H with bQ:=H.bQ.set t g2}:=by
      rw[←hgg];unfold Qz Hw.dS Hw.dR;simp only;rw[KI (t:={g with ls:=g.ls.set k (dJ c y l).2}) (by simp[ht]),ni]
     rw[e9]at K8;exact hJ2 v8 ⟨_,ts8,K8,K7.cT e8 B (.inl (.inr rfl))⟩
 | back=>
  obtain⟨k,xs,r,hh,hxs,hxl⟩:∃k xs r,(H.jK t).bP=(k,xs)::r/\(∀x∈xs,iC x/\0<=XP H.bX x)/\xs.length<=1000000:=hp;rw[htg]at hh;refine kV aB (jb aB (jb aB (jb aB (rp aB (kV aB (kV aB (jb aB (yB (nw (cs:=[]) λv5 M Z N=>?_)))))))));have K5:=K1.box Z M;have hbv5:=Z.bT i id;obtain⟨G,D,hG,hD,hd,aa,hr,hput⟩:=K5.h.vY (λb i=>(K5.p b i).2.2) E hg (λb=>v5.size<=b) (λb i _ z=>O) K5.h.lY.1 K5.h.lY.2;have hbl:=aa.len;have hbc:=aa.cap;rw[hh]at aa;obtain⟨so,ps,Dn,hrow,hso1,hcap,hBr,hDn,hj,S,hxne⟩:=aa.l9;have hz5':=K5.e.1;refine aG (nq (K5.h.tc E hg ha (d:=1) O rfl) (EH (dI.gY hrow) λa ha0 ha1=>ns ha0 (nq ha1 ?_)));refine nw (cs:=[.int .i64 0,.slice none 0 0]) λv81 hz81 e81 hb81=>hb81.s1 aA λv82 o82 b82=>b82.s1 aA λv83 o83 b83=>?_;have e83:bK v5 v83:=(e81.only o82 (.inr (zD _))).only o83 (.inr (zD _));have hz83:v5.size<v83.size:=b83.lt;have hcell:∀{u1:Hp},Ext G v5 u1->∀{d:Nat} {w:Value},d<3->(jt (x,g))[d]?=some w->cell u1 (Addr.add ⟨tb0,to0+3*t,none⟩ d)=some w:=λhe _ _ hd3 hv=>by
   obtain⟨b',o',ha',hc'⟩:=G9 (hr _ he) E hg hd3 hv;rw[ha]at ha';cases ha';rw[add_lit,vE];exact hc'
  refine aG (nq (hcell (bK.to e83) (d:=1) (w:=.slice x.h.a x.h.len x.h.cap) O rfl) ?_);have hpos:1<=x.h.len:=by rw[hbl,hh];simp
  refine iU (lo:=1) hpos hbc (zD _) ?_;have hrow':=aH.bO (aH.cut (dI.gY (hrow.from (lo:=1) hpos))) e83;have ta:(fE ((k,so)::ps)).drop (1*2)=fE ps:=rfl;rw[ta]at hrow';refine Pj hrow' aC λs' v84 hs'l e84 hs'=>?_;have hBt':ik s' r v84 (λb=>Dn b/\¬ky so b/\b<v5.size\/v83.size<=b):=by
   refine⟨ps,λb=>Dn b/\¬ky so b/\b<v5.size,(dI.loc _ _ _).mono hs'.o λb _ i=>⟨.inr i,λE=>O⟩,(ka.loc _ _).bO ((ka.loc _ _).bO ((ka.loc _ _).mono ((ka.loc _ _).cut hBr) λb _ i=>⟨i.1.1,i.1.2,i.2⟩) e83) e84,λb i=>.inl i,hj,S⟩
  have e584:bK v5 v84:=e83.trans e84;refine aG (hput v84 s' r _ (bK.to e584) (λb i=>i.elim (λi=>.inl (hDn b i.1)) λi=>.inr O) hBt' ha λv85 e85 h85=>?_);have hz84:=e84.1;have hz85:=e85.1;have e585:Ext _ v5 v85:=(bK.to e584).trans (e85.sub hD);have K85:=K5.to e585 h85 λb _ z=>by
   rcases z with z|z
   ·exact .inl z.1
   ·rcases z.1 with h1|h1
    ·exact .inl (hG b (hDn b h1.1))
    ·exact .inr O
  have hbv85:=K5.cT e585 hbv5 (.inl (.inr rfl));have b85:bY v85 v5.size _:=e85.bT (e84.bT b83 id) λE=>by have:=(K5.p _ (hD _ E)).2.2;omega
  have K85b:=K85.wb (B':=λb=>b=v5.size) λb i=>⟨O,O,λE=>by
   subst i;rcases E.1 with h1|h1
   ·have:=(K5.p _ h1.1).2.2;omega
   ·rcases h1.1 with h2|h2<;>omega⟩
  have hso5:=aH.bR (aH.bO (aH.cut hso1) e584) e85 λb _ i E=>hd b (hDn b i.1.1) E;have X:Wt H t .back=(Hx {H with bQ:=H.bQ.set t {g with bP:=r}} (H.own t) k xs,jO (Hx {H with bQ:=H.bQ.set t {g with bP:=r}} (H.own t) k xs) t,0,0):=by
   simp only[Wt,htg,hh,Zp hg]
  rw[X]at hR;refine⟨λu=>u=v85,rfl,⟨(k:Int),λu V=>by cases V;rw[add_lit,b85.cell];rfl,⟨so,λu V=>by cases V;rw[add_lit,b85.cell];rfl,?_⟩⟩⟩;refine Fi K85b.h t ⟨rfl,Pb K85b.h hol k hso5 (λb _ i E=>?_) hcap hxs hxl λv87 e87 h87=>?_⟩
  ·rcases E.1 with h1|h1
   ·exact h1.2 (hDn b i.1.1)
   ·rcases h1.1 with h2|h2
    ·exact h2.2.1 i.1.2
    ·have:=i.2;omega
  have K87:=K85b.to e87 h87 λb _ i=>i;have hbl7:(Hx {H with bQ:=H.bQ.set t {g with bP:=r}} (H.own t) k xs).bQ.length=H.bQ.length:=by
   rw[Bq];simp
  refine Vz K87.h (t:=t) (by rw[hbl7];exact ht) ?_;exact gF (n:=U.size) K87 (.inl (.inl (.inr rfl))) (K85b.cT e87 hbv85 (.inl (.inl (.inr rfl)))) λw' K'=>hR w' _ K'.e (K'.fin h)
 | dD s a=>
  obtain⟨ha0,hal,hru⟩:0<=a/\a.toNat<H.bX.length/\∀A∈H.bX,∀r∈A.runs,r.1<=1000000:=hp;obtain⟨A2,hA2⟩:∃A,H.bX[a.toNat]?=some A:=⟨_,cV hal⟩;have hae:a=((a.toNat:Nat):Int):=by omega
  refine kV aB (jb aB (jb aB (jb aB (rp aB (kV aB (kV aB (jb aB (rp aB (vM (nw (cs:=[.int .i64 0,.int .i64 0]) λv5 M Z N=>?_))))))))));have K5:=K1.box Z M;refine N.s1 aA λv5b o5 b5=>b5.s1 aA λv6 o6 b6=>?_;have K6:=(K5.own o5 (.inr rfl)).own o6 (.inr rfl);have S:U.size≠v.size:=by omega
  have C:=Ws o6 (Ws o5 (Z.bT i id) S) S;obtain⟨Y2,hY2,_,_⟩:=K6.h.ar hA2;refine aG (K6.h.hd.rS rfl (b6.rI (x:=((a.toNat:Nat):Int)) (by rw[←hae];rfl) (K6.h.rA hY2 (b6.rI rfl ?_))));refine Ng K6.h hA2 hY2 s (hru A2 (zG hA2)) λv7 W h7=>?_;have K7:=K6.to W h7 λb _ i=>i;have B:=K6.cT W C (.inl (.inr rfl));have X:Wt H t (.dD s a)=(H.cC a.toNat (Qo A2 s),none,0,0):=by
   simp only[Wt,hA2]
  refine hJ v7 ⟨_,L.ts,⟨?_,K7.e,λb i=>⟨(K7.p b i).1,λE=>(K7.p b i).2.1 (.inl E),(K7.p b i).2.2⟩,λb i=>K7.b b (.inl i),K7.o⟩,B,by rw[X]⟩;rw[X];exact K7.h
 | drain=>
  refine kV aB (jb aB (jb aB (jb aB (rp aB (kV aB (kV aB (jb aB (rp aB (jb aB (yB (nw (cs:=[]) λv5 M Z N=>?_)))))))))));have K5:=K1.box Z M;have hbv5:=Z.bT i id;refine aG (uz (K5.h.tc E hg ha (d:=0) O rfl) ?_);refine F6 hso K5.h E hg λv7 s Q W hQ hB h7=>?_;have K7:=K5.to W h7 λb _ i=>i.1;have B:=K5.cT W hbv5 (.inl (.inr rfl));have hz0:=K5.e.1;have hg7:(H.dR t g (QS ZC H.tb g.ls)).bQ[t]?=some {g with ls:=QS ZC H.tb g.ls}:=by simp[Hw.dR,ht]
  obtain⟨G,D,hG,hD,hd,aa,hr,hput⟩:=K7.h.vY (λb i=>i.2) E hg7 Q (λb _ i z=>i.1.2 z) (K5.o.1.sub λb i=>by have:=hQ b i;omega) (λz=>K5.o.2 (by have:=hQ _ z;omega));refine aG (hput v7 s _ Q (Ext.refl _ _) (λb i=>.inr i) hB ha λv8 e8 h8=>?_);have e8':=e8.sub hD;have K8:=K7.sZ e8' h8 λb _ z=>by
   rcases z with z|z
   ·exact .inl z.1
   ·have:=hQ b z.1;exact .inr (.inr ⟨.inr O,λhB=>by have:=(K5.b b hB).2;omega⟩)
  have hbv8:=K7.cT e8' B (.inl (.inr rfl));have X:Wt H t .drain=({H with bQ:=H.bQ.set t {g with ls:=QS ZC H.tb g.ls,bP:=QW ZC H.tb g.ls}},jO {H with bQ:=H.bQ.set t {g with ls:=QS ZC H.tb g.ls,bP:=QW ZC H.tb g.ls}} t,0,0):=by
   simp only[Wt,Zp hg]
  have K9:=K8;simp only[Hw.dR,ni]at K9;rw[X]at hR;refine Vz K9.h (t:=t) (by simpa using ht) ?_;exact gF (n:=U.size) K9 (.inl (.inr rfl)) hbv8 λw' K'=>hR w' _ K'.e (K'.fin h)
def eN (H:Hw)(t:Nat)(p:Option Ph):Hw:=H.dS t λh=>{h with ph:=p}
theorem Vg (H:Hw)(t:Nat)(f:Th->Th):(H.dS t f).bQ.length=H.bQ.length:=by simp[Hw.dS]
theorem JA (H:Hw)(t k:Nat)(x:Int):(il H t k x).bQ.length=H.bQ.length:=by
 unfold il;simp only;split<;>split<;>simp[Vg,Qz]
theorem Ey (H:Hw)(t:Nat)(p:Ph):(Wt H t p).1.bQ.length=H.bQ.length:=by
 cases p with
 | take k=>simp only[Wt];split<;>simp[Vk,Vg]
 | cH k w=>
  simp only[Wt];split
  ·split<;>simp[Qz,Vg,Hw.cC]
  ·rfl
 | cJ k w=>simp only[Wt];split<;>simp[Qz,Vg,Hw.cC]
 | grow k w=>simp only[Wt];split<;>simp[Hw.cC]
 | fill=>simp only[Wt];split<;>simp[Vk,Vg]
 | eI m=>simp only[Wt];split<;>simp[Vk,Hw.cC]
 | find x=>
  simp only[Wt,UA];split
  ·rfl
  ·split<;>simp[Qz,Vg]
 | put k x=>exact JA H t k x
 | back=>simp only[Wt];split<;>simp[Bq,Vg]
 | dD s a=>simp only[Wt];split<;>simp[Hw.cC]
 | drain=>simp[Wt,Vg]
def tP (H:Hw)(t:Nat)(p:Ph):Prop:=uj H t p/\∀g,H.bQ[t]?=some g->g.bP.length<=900
def Qq (H:Hw)(t:Nat)(p:Ph):Hw:=eN (Wt H t p).1 t (Wt H t p).2.1
theorem Pp (hso:H4)(h:HH U F L H)(hg:H.bQ[t]?=some g){p:Ph}(hp:g.ph=some p)(hok:tP H t p){R:Bool->Int->Int->Int->Hp->Prop}
 (hR:∀σ' ts',Ext F U σ'->HH σ' (Grow F U) {L with ts:=ts'} (Qq H t p)->R (Wt H t p).2.1.isNone (Wt H t p).2.2.1 (Wt H t p).2.2.2 0 σ'):Y1.c (aW L.p) (t:Int) U R:=by
 refine Y1.o ?_;unfold Y1.v;have E:=(cW.1 hg).1;refine nw (cs:=[.int .i64 0,.int .i64 0]) λv hz e B=>?_;have K1:=(HK.start h).box e hz;obtain⟨x,g',P,y⟩:=h.th E;rw[hg]at y;cases y;refine Uf K1.h (cB rfl (yS K1.h (t:Int) (cB (by rw[zJ O];rfl) ?_)));refine aG (K1.h.hd.rS rfl (K1.h.tR P hg ?_));rw[hp];refine⟨uA _,cB (by rw[G8];rfl) (aG (K1.h.hd.rS rfl (K1.h.tR P hg ?_)))⟩;rw[hp];refine Nh hso K1.h E p hok.1 hok.2 λv9 D Q S=>?_;have K9:=K1.to Q S λb _ B=>B;have w:=K1.cT Q B (.inr rfl);refine nw (cs:=[.int .i64 0,.int .i64 0]) λV z u j=>?_;have K10:=K9.box u z;refine j.s1 aA λY m G=>G.s1 aA λZ s C=>?_;have K12:=(K10.own m (.inr rfl)).own s (.inr rfl);have r:U.size≠v9.size:=by have:=(K9.b U.size (.inr rfl)).2;omega
 have i:=Ws s (Ws m (u.bT w id) r) r;have N:t<(Wt H t p).1.bQ.length:=by rw[Ey];exact E
 obtain⟨x9,W,K,A⟩:=K12.h.th N;have J:Qq H t p = {(Wt H t p).1 with bQ:=(Wt H t p).1.bQ.set t {W with ph:=(Wt H t p).2.1}}:=Zp A _;refine aG (K12.h.hd.rS rfl (K12.h.rq K A (Wt H t p).2.1 λaa d M=>?_));have K13:=K12.to d M λb _ B=>.inl B;have a:=K12.cT d C (.inr rfl);rw[←J]at K13;refine⟨uA _,a.rI rfl (a.rI rfl ?_)⟩;refine gF (n:=U.size) K13 (.inl (.inr rfl)) (K12.cT d i (.inl (.inr rfl))) λX K'=>?_;rw[G8];exact hR X D K'.e (K'.fin h)
theorem yF {p:Nat->Prop}(h:∃n,p n):∃n,p n/\∀m,p m->n<=m:=by
 obtain⟨n,d⟩:=h
 induction n using Nat.strongRecOn with
 | _ n ih=>
  by_cases hm:∃m,m<n/\p m
  ·obtain⟨m,b,a⟩:=hm;exact ih m b a
  ·exact⟨n,d,λm a=>Nat.le_of_not_lt λb=>hm ⟨m,b,a⟩⟩
theorem JN {start:eR []->Prop}{round:eR []->eR []}(Inv:Nat->Hp->Prop)(h0:start λh=>∃n,Inv n h)(hr:∀n h,Inv n h->∀J:Hp->Prop,(∀m h',m<n->Inv m h'->J h')->round J h):Yp [] start round:=by
 classical
 refine Cb (λh=>∃n,Inv n h) (λh=>if hx:∃n,Inv n h then(yF hx).choose else 0) h0 λh d=>?_
 have g:=(yF d).choose_spec;refine hr _ h g.1 _ λm h' e b=>⟨⟨m,b⟩,?_⟩;have a:∃n,Inv n h':=⟨m,b⟩;rw[dif_pos a,dif_pos d];exact yI ((yF a).choose_spec.2 m b) e
inductive iy:Nat->Hw->Nat->Ph->Hw->Int->Int->Prop
 | done {H:Hw} {t:Nat} {p:Ph}:tP H t p->(Wt H t p).2.1=none->iy 1 H t p (Qq H t p) (Wt H t p).2.2.1 (Wt H t p).2.2.2
 | next {n:Nat} {H:Hw} {t:Nat} {p p':Ph} {H':Hw} {a e:Int}:tP H t p->(Wt H t p).2.1=some p'->iy n (Qq H t p) t p' H' a e->iy (n+1) H t p H' a e
theorem DI {p:Ph}(ht:t<H.bQ.length):∃g,(Qq H t p).bQ[t]?=some g/\g.ph=(Wt H t p).2.1:=by
 have a:t<(Wt H t p).1.bQ.length:=by rw[Ey];exact ht
 exact⟨{(Wt H t p).1.bQ[t]with ph:=(Wt H t p).2.1},by simp[Qq,eN,Hw.dS,r8,cV a],rfl⟩
end Go.Ar
namespace Go.Ar
open Go Go.Vc Go.Proofs
open Go.Bu (eU)
variable {U:Hp}{F:Rg}
def Us (size align:Int):Bool:=decide (1<=size)&&(decide (1<=align)&&(decide (align<=256)&&eU align))
def gJ (tb:List bZ)(size align:Int):Option Nat:=tb.findIdx? λc=>decide (size<=(c.size:Int))&&((c.size:Int)%align==0)
theorem MP (n:Int)(h1:1<=n)(h2:n<=256){R:aN}(hR:∀p:Int,(p != n) = !eU n->R p U):Z3.c n U R:=by
 refine Z3.o ?_;unfold Z3.v;refine UO (a:=bN) (bb:=bN) (λ(p q:Int) w=>w=U/\(p=0/\q=1\/∃k:Nat,k<=8/\p=((2^k:Nat):Int)/\q=((2^(k+1):Nat):Int)/\p<=n)) (λp q _=>1000-q.toNat) ⟨rfl,.inl ⟨rfl,rfl⟩⟩ ?_;rintro(p:Int) (q:Int) w ⟨rfl,hpq⟩;refine cQ (λb=>?_) λg=>?_
 ·rcases hpq with⟨rfl,rfl⟩|⟨k,hk,rfl,rfl,hp⟩
  ·exact cP (m:=2) O O ⟨⟨rfl,.inr ⟨0,O,by simp,by simp,O⟩⟩,by simp⟩
  ·have r:k<=7:=by
    apply Classical.byContradiction;intro hc;have:2^9<=2^(k+1):=oe aB O;omega
   have s:=kF (k+1);exact cP (m:=2^(k+1+1)) (by rw[lW 2 (k+1)];omega) (by rw[lW 2 (k+1)];omega) ⟨⟨rfl,.inr ⟨k+1,O,rfl,rfl,b⟩⟩,by rw[lW 2 (k+1)];omega⟩
 ·rcases hpq with⟨rfl,rfl⟩|⟨k,hk,rfl,rfl,hp⟩
  ·omega
  ·refine hR _ ?_;by_cases e:((2^k:Nat):Int)=n
   ·have:eU n=true:=by
     unfold eU;rw[j9];exact⟨k,zc.2 O,by simp[←e]⟩
    rw[this,e];simp
   ·have:eU n=false:=by
     unfold eU;rw[mh];intro j hj he;have d:n=((2^j:Nat):Int):=by simpa using he
     rcases oZ j k with h3|h3|h3
     ·have:2^(j+1)<=2^k:=oe aB h3;rw[lW]at this;have:=kF j;omega
     ·subst h3;exact e d.symm
     ·have:2^(k+1)<=2^j:=oe aB h3;omega
    rw[this];simpa using e
theorem J8 {s:Sl}{xs:List (Int×Int×Int)}(ha:ic U s xs)(hv:Qd xs=true)(size align:Int){R:Int->Int->Hp->Prop}
 (hR:∀σ',bK U σ'->R (if Us size align then((gJ (xs.map ZY) size align).getD 0:Nat)else 0) (if Us size align then(if(gJ (xs.map ZY) size align).isSome then 0 else 4)else 1) σ'):Z1.c s size align U R:=by
 refine Z1.o ?_;unfold Z1.v;refine nw (cs:=[.int .i64 size]) λv hz e hb=>nw (cs:=[.int .i64 align]) λv1 W e1 X=>?_;have P:=e1.bT hb id;refine Gj (ZN ha (e.trans e1)) λu e2=>?_;rw[hv];have C:=e2.bT P id;have y:=e2.bT X id;have x:=(e.trans e1).trans e2;refine cB rfl ?_;have key:∀r,r = !Us size align->(If r (R 0 1 u) (Wl.c s ⟨203,#[],#[.pointer (some ⟨U.size,0,none⟩),.pointer (some ⟨v.size,0,none⟩)]⟩ u λk v4=>If (decide (k<0)) (R 0 4 v4) (R k 0 v4))):=by
  intro r b;cases hok:Us size align with
  | false=>
   rw[hok]at b;have:=hR u x;rw[hok]at this;exact cD (by rw[b];rfl) this
  | true=>
   rw[hok]at b;refine cB (by rw[b];rfl) ?_;have D:=hok;simp only[Us,zF,zU]at D;refine Wl.o ?_;unfold Wl.v;have hlen:=ha.1;have hxl:=((Z8 xs).1 hv).2.1;refine ZS (a:=bN) (λ(z:Int) w=>∃i:Nat,z=(i:Int)/\i<=xs.length/\bK u w/\∀j c,j<i->(xs.map ZY)[j]?=some c->(decide (size<=(c.size:Int))&&((c.size:Int)%align==0))=false) (λz _=>xs.length-z.toNat) ⟨0,rfl,O,Ext.refl _ _,λj c h=>O⟩ ?_;rintro(z:Int) w ⟨i,rfl,hi,ew,hno⟩;refine cQ (λhlt=>?_) λZ=>?_
   ·have S:i<xs.length:=by omega
    have B:(xs.map ZY)[i]?=some (ZY xs[i]):=by simp[S]
    generalize ZY xs[i]=c at B;have K:=ZN ha (x.trans ew);obtain⟨hx,hcok⟩:=US K hv B;refine wU K hx ?_;refine pd (all := #[.agg #[.int .i64 (c.size:Int),.int .i64 (c.aF:Int),.int .i64 (c.batch:Int)],.pointer (some ⟨U.size,0,none⟩),.pointer (some ⟨v.size,0,none⟩)]) (by kernel_rfl) aA ?_;refine ZG.o ?_;unfold ZG.v;refine nw (cs:=[.int .i64 (c.size:Int),.int .i64 (c.aF:Int),.int .i64 (c.batch:Int)]) λL W e1 E=>?_;have N:=e1.bT (ew.bT C id) id;have hs2:=e1.bT (ew.bT y id) id;have G:=ew.trans e1;have go:∀r,r=(decide (size<=(c.size:Int))&&((c.size:Int)%align==0))->If r (If (decide ((i:Int)<0)) (R 0 4 L) (R (i:Int) 0 L)) (Ar .i64 ((i:Int)+1) λF=>(∃i:Nat,F=(i:Int)/\i<=xs.length/\bK u L/\∀j c,j<i->(xs.map ZY)[j]?=some c->(decide (size<=(c.size:Int))&&((c.size:Int)%align==0))=false)/\xs.length-F.toNat<xs.length-(i:Int).toNat):=by
     intro r b;refine cO (λM=>fS O ?_) λh0=>?_
     ·have Q:gJ (xs.map ZY) size align=some i:=by
       obtain⟨aa,rfl⟩:=cW.1 B;exact m5.2 ⟨aa,by rw[←b];exact M,λj H=>by rw[hno j _ H (cV O)];simp⟩
      have:=hR L (x.trans G);rw[hok,Q]at this;exact this
     ·exact cP (m:=i+1) O O ⟨⟨i+1,rfl,O,G,λj d H hd=>by
       by_cases e:j=i
       ·subst e;rw[B]at hd;cases hd;rw[←b];exact h0
       ·exact hno j d O hd⟩,O⟩
    refine E.rI rfl (N.ud rfl ?_);refine Q8 (λr w=>w=L/\r=(decide (size<=(c.size:Int))&&((c.size:Int)%align==0))) (λr w ⟨Y,b⟩=>by subst Y;exact go r b) λJ A=>?_;refine cQ (λZ=>E.rI rfl (hs2.ud rfl (nz O (A _ _ ⟨rfl,?_⟩)))) λhlt2=>A _ _ ⟨rfl,?_⟩
    ·rw[Qm O,zJ (by omega:size<=(c.size:Int)),pV]
    ·rw[zM O,uC]
   ·have Q:gJ (xs.map ZY) size align=none:=by
     unfold gJ;rw[ub];intro c B;obtain⟨j,H⟩:=zQ B;have:=(cW.1 H).1;simp at this;exact hno j c O H
    have:=hR w (x.trans ew);rw[hok,Q]at this;exact lB aB this
 refine xB (λr w=>w=u/\r = !Us size align) (λr w ⟨Y,b⟩=>by subst Y;exact key r b) λJ A=>?_;have V:∀m,m=u->cell m ⟨U.size,0,none⟩=some (.int .i64 size):=λm hm=>by rw[hm,C.cell];rfl
 have g:∀m,m=u->cell m ⟨v.size,0,none⟩=some (.int .i64 align):=λm hm=>by rw[hm,y.cell];rfl
 refine⟨λm=>m=u,rfl,⟨size,V,?_⟩⟩;refine cQ (λM=>A _ _ ⟨rfl,?_⟩) λM=>⟨align,g,cQ (λh2=>A _ _ ⟨rfl,?_⟩) λh2=>⟨align,g,cQ (λh3=>A _ _ ⟨rfl,?_⟩) λh3=>⟨align,g,⟨align,g,?_⟩⟩⟩⟩
 ·simp only[Us,zM (by omega:¬1<=size),uC,wL]
 ·simp only[Us,zM (by omega:¬1<=align),uC,tu,wL]
 ·simp only[Us,zM (by omega:¬align<=256),uC,tu,wL]
 ·refine MP align O O λp hp=>⟨rfl,A _ _ ⟨rfl,?_⟩⟩;rw[hp];simp only[Us,zJ (by omega:1<=size),zJ (by omega:1<=align),zJ (by omega:align<=256),pV]
end Go.Ar
namespace Go.Ar
open Go Go.Vc Go.Proofs
variable {U u u':Hp}{F B P Q:Rg}{L:dH}{H H':Hw}{t k n pb:Nat}{A:AR}{Y:Lay}{x:eJ}{g:Th}{c:bZ}{l:Li}{cs:List Value}
def mi (c:bZ):Int×Int×Int:=((c.size:Int),(c.aF:Int),(c.batch:Int))
theorem Jd (tb:List bZ):(tb.map mi).map ZY=tb:=by
 rw[k8]
 conv=>rhs;rw[←uY tb]
 apply ko;intro c _;rfl
theorem NQ {s:Sl}{tb:List bZ}(h:cX s 3 (fZ tb) U F):ic U s (tb.map mi):=by
 have w:=h.1;rw[VD]at w;refine⟨by simp;omega,λi x y z g=>?_⟩;rw[zg,ot]at g;obtain⟨c,u,e⟩:=g;obtain⟨r,B,C⟩:=Gq u;simp only[mi,Prod.mk.injEq]at e;obtain⟨rfl,rfl,rfl⟩:=e;obtain⟨b,o,d,j⟩:=h.cell r;obtain⟨D,A,a,m⟩:=h.cell B;rw[d]at a;cases a;obtain⟨D,A,a,p⟩:=h.cell C;rw[d]at a;cases a;exact⟨b,o,d,Ka j,by rw[show o+i*3=o+3*i by omega];exact j,by rw[show o+i*3+1=o+(3*i+1) by omega];exact m,by rw[show o+i*3+2=o+(3*i+2) by omega];exact p⟩
def mc (tb:List bZ):Prop:=Qd (tb.map mi)=true
def iG (tb:List bZ)(kind size align addr:Int):Option Ph:=
 if kind=0 then(if 1<=size/\size<=16384 then(if Us size align then(match gJ tb size align with
  | some k=>some (.take k)
  | none=>some (.eI ((size+255).toNat/256)))else none)else none)
 else if kind=1 then some (.find addr)else if kind=2 then some .drain else none
theorem Mw (h:HH U F L H)(hv:mc H.tb)(kind size align addr:Int){R:Value->Hp->Prop}(hR:∀σ',bK U σ'->R (mK (iG H.tb kind size align addr)) σ'):Yg.c (aW L.p) kind size align addr U R:=by
 refine Yg.o ?_;unfold Yg.v;refine nw (cs:=[.int .i64 kind,.int .i64 size,.int .i64 align,.int .i64 addr]) λv M e u=>u.rI rfl ?_;have B:=h.bO e;have a:=hR v e;refine cO (λA=>?_) λA=>?_
 ·have i:kind=0:=by simpa using A
  have K:iG H.tb kind size align addr=(if 1<=size/\size<=16384 then(if Us size align then(match gJ H.tb size align with
   | some k=>some (.take k)
   | none=>some (.eI ((size+255).toNat/256)))else none)else none):=by unfold iG;rw[zC i]
  rw[K]at hR a;refine u.rI rfl (Q8 (λr w=>w=v/\r = !decide (1<=size/\size<=16384)) (λr w ⟨G,y⟩=>?_) λJ C=>?_)
  ·subst G;by_cases hs:1<=size/\size<=16384
   ·rw[zC hs]at hR;rw[zJ hs]at y;refine cB (by rw[y];rfl) ⟨λm=>m=w,rfl,aG ⟨L.dC,λm x=>by rw[x,add_lit,B.hd.cell];rfl,⟨size,λm x=>by rw[x,add_lit,u.cell];rfl,⟨align,λm x=>by rw[x,add_lit,u.cell];rfl,?_⟩⟩⟩⟩;refine J8 (NQ B.ju) hv size align λE e2=>?_;rw[Jd];have z:=e2.bT u id;have b:=hR E (e.trans e2);cases hok:Us size align with
    | false=>
     rw[hok]at b;exact cB rfl (cB rfl b)
    | true=>
     rw[hok]at b;simp only[zR]at b ⊢;cases hcl:gJ H.tb size align with
     | some k=>rw[hcl]at b;exact cD rfl b
     | none=>
      rw[hcl]at b;refine cB rfl (cD rfl (z.rI rfl (ar O O (ar O O (nz aB (ar (by rw[Xs O];omega) (by rw[Xs O];omega) ?_))))));rw[Xs O];have:(size+256-1)/256=(((size+255).toNat/256:Nat):Int):=by omega
      rw[this];exact b
   ·rw[zB hs]at a;rw[zM hs]at y;exact cD (by rw[y];rfl) a
  ·refine cQ (λD=>C _ _ ⟨rfl,?_⟩) λD=>u.rI rfl (C _ _ ⟨rfl,?_⟩)
   ·rw[zM O];rfl
   ·by_cases h2:size>16384
    ·rw[zJ h2,zM O];rfl
    ·rw[zM h2,zJ O];rfl
 ·have i:kind≠0:=by simpa using A
  refine cO (λs=>u.rI rfl ?_) λs=>?_
  ·have d:kind=1:=by simpa using s
   unfold iG at a;rw[zB i,zC d]at a;exact a
  ·have d:kind≠1:=by simpa using s
   refine cO (λj=>?_) λj=>?_
   ·have g:kind=2:=by simpa using j
    unfold iG at a;rw[zB i,zB d,zC g]at a;exact a
   ·have g:kind≠2:=by simpa using j
    unfold iG at a;rw[zB i,zB d,zB g]at a;exact a
def Kc (H:Hw)(thread kind size align addr:Int):Int ⊕ (Nat×Ph):=
 if 0<=thread/\thread<(H.bQ.length:Int)then(match H.bQ[thread.toNat]? with
  | some g=>(if g.ph=none then(match iG H.tb kind size align addr with
   | some p=>.inr (thread.toNat,p)
   | none=>.inl 1)else .inl 5)
  | none=>.inl 1)else .inl 1
theorem Nb (h:HH U F L H)(hv:mc H.tb)(thread kind size align addr:Int){R:aN}(h0:∀e,Kc H thread kind size align addr=.inl e->e≠0->∀σ',Ext F U σ'->HH σ' (Grow F U) L H->R e σ')
 (h1:∀t p,Kc H thread kind size align addr=.inr (t,p)->thread=(t:Int)->t<H.bQ.length->∀σ',Ext F U σ'->HH σ' (Grow F U) L (eN H t (some p))->R 0 σ'):YS.c (aW L.p) thread kind size align addr U R:=by
 refine YS.o ?_;unfold YS.v;refine nw (cs:=[.int .i64 kind,.int .i64 size,.int .i64 align,.int .i64 addr]) λv r e d=>?_;have K1:=(HK.start h).box e r;refine Uf K1.h (cB rfl (yS K1.h thread ?_));by_cases hth:0<=thread/\thread<(H.bQ.length:Int)
 ·obtain⟨t,rfl⟩:∃t:Nat,thread=(t:Int):=⟨thread.toNat,O⟩;have m:t<H.bQ.length:=by omega
  obtain⟨x,g,j,i⟩:=h.th m;have a:Kc H (t:Int) kind size align addr=(if g.ph=none then(match iG H.tb kind size align addr with
   | some p=>.inr (t,p)
   | none=>.inl 1)else .inl 5):=by
   unfold Kc;rw[zC hth,dE,i]
  refine cB (by rw[zJ hth];rfl) (aG (K1.h.hd.rS rfl (K1.h.tR j i ⟨uA _,?_⟩)));cases hp:g.ph with
  | some p=>
   rw[hp,zB aA]at a;exact cD (by rw[G8];rfl) (h0 5 a aB v K1.e (K1.fin h))
  | none=>
   rw[hp,zC rfl]at a;refine cB rfl (d.rI rfl (d.rI rfl (d.rI rfl (d.rI rfl (Mw K1.h hv kind size align addr λv3 z=>⟨uA _,?_⟩)))));have K3:=K1.fr z;rw[G8];cases hq:iG H.tb kind size align addr with
   | none=>
    rw[hq]at a;exact cD rfl (h0 1 a aB v3 K3.e (K3.fin h))
   | some p=>
    rw[hq]at a;refine cB rfl (aG (K3.h.hd.rS rfl (K3.h.rq j i (some p) λy s w=>?_)));have K4:=K3.to s w λb _ d=>.inl d;have u:eN H t (some p) = {H with bQ:=H.bQ.set t {g with ph:=some p}}:=Zp i _;rw[←u]at K4;exact h1 t p a rfl m y K4.e (K4.fin h)
 ·have a:Kc H thread kind size align addr=.inl 1:=by unfold Kc;rw[zB hth]
  exact cD (by rw[zM hth];rfl) (h0 1 a aB v K1.e (K1.fin h))
theorem NU {p:Option Ph}(ht:t<H.bQ.length):∃g,(eN H t p).bQ[t]?=some g/\g.ph=p:=
 ⟨{H.bQ[t]with ph:=p},by simp[eN,Hw.dS,r8,cV ht],rfl⟩
theorem Fc (hso:H4)(h:HH U F L H)(hv:mc H.tb)(thread kind size align addr:Int){R:Int->Int->Hp->Prop}(h0:∀e,Kc H thread kind size align addr=.inl e->e≠0->∀σ',Ext F U σ'->HH σ' (Grow F U) L H->R 0 e σ')
 (h1:∀t p,Kc H thread kind size align addr=.inr (t,p)->∃n H' a e,iy n (eN H t (some p)) t p H' a e/\∀σ' ts',Ext F U σ'->HH σ' (Grow F U) {L with ts:=ts'} H'->R a e σ'):Ya.c (aW L.p) thread kind size align addr U R:=by
 refine Ya.o ?_;unfold Ya.v;refine nw (cs:=[.int .i64 kind,.int .i64 size,.int .i64 align,.int .i64 addr]) λv hz e i=>i.rI rfl (i.rI rfl (i.rI rfl (i.rI rfl ?_)));have K1:=(HK.start h).box e hz;refine Nb K1.h hv thread kind size align addr (λy he C v1 e1 s=>?_) λt p ae ac ht v1 e1 s=>?_
 ·have K2:=K1.to e1 s λb _ i=>i;exact cD (by simpa using C) (h0 y he C v1 K2.e (K2.fin h))
 ·subst ac;have K2:=K1.to e1 s λb _ i=>i;obtain⟨n,Hf,a,y,d,E⟩:=h1 t p ae;refine cB rfl (JN (λn w=>∃(B P:Rg) (ts:List eJ) (H:Hw) (p:Ph),HK F U B w P {L with ts:=ts} H/\(∃g,H.bQ[t]?=some g/\g.ph=some p)/\iy n H t p Hf a y) ⟨n,_,_,L.ts,_,p,K2,NU ht,d⟩ ?_);rintro n w ⟨B,P,ts,H2,r,K,⟨g,hg,af⟩,d⟩ J hJ;have go:tP H2 t r->((Wt H2 t r).2.1.isNone=true->(Wt H2 t r).2.2.1=a/\(Wt H2 t r).2.2.2=y/\Qq H2 t r=Hf)->((Wt H2 t r).2.1.isNone=false->∃m M,m<n/\(Wt H2 t r).2.1=some M/\iy m (Qq H2 t r) t M Hf a y)->Y1.c (aW L.p) (t:Int) w λS G x t223 v3=>Nw (.cells #[.int .i64 0,.int .i64 0] 125 (0,0)) v3 λj v4=>dX (j.add 0) (.int .i64 G) v4 λv5=>dX (j.add 1) (.int .i64 x) v5 λu=>If S (gA .i64 (j.add 0) u λQ=>gA .i64 (j.add 1) u λad=>R Q ad u) (J u):=by
   intro hok hd hn;refine Pp hso K.h hg af hok λv3 A e3 aa=>?_;have K3:=K.to e3 aa λb _ i=>i;refine nw (cs:=[.int .i64 0,.int .i64 0]) λv4 Z e4 ab=>?_;have K4:=K3.box e4 Z;refine ab.s1 aA λv5 o5 b5=>b5.s1 aA λu o6 b6=>?_;have K6:=(K4.own o5 (.inr rfl)).own o6 (.inr rfl);refine cO (λN=>?_) λV=>?_
   ·obtain⟨q1,q2,q3⟩:=hd N;rw[q3]at K6;refine b6.rI rfl (b6.rI rfl ?_);rw[q1,q2];exact E u A K6.e (K6.fin h)
   ·obtain⟨m,M,hm,X,ag⟩:=hn V;have Y:t<H2.bQ.length:=(cW.1 hg).1;obtain⟨g',W,z⟩:=DI (p:=r) Y;exact hJ m u hm ⟨_,_,A,_,M,K6,⟨g',W,by rw[z,X]⟩,ag⟩
  cases d with
  | done hok hnone=>exact go hok (λ_=>⟨rfl,rfl,rfl⟩) λD=>by rw[hnone]at D;cases D
  | next hok hsome hrun'=>exact go hok (λD=>by rw[hsome]at D;cases D) λ_=>⟨_,_,Nat.lt_succ_self _,hsome,hrun'⟩
end Go.Ar
namespace Go.Ar
open Go Go.Vc Go.Proofs
variable {U u w w':Hp}{F B P Q:Rg}{n:Nat}{cs:List Value}{tb:List bZ}{cf:Cf}
def Vy (tb:List bZ)(cf:Cf):Hw:=⟨tb,cf,KY cf.aF,List.replicate cf.gW (fA cf.aF cf.room tb),List.replicate cf.threads ⟨List.replicate tb.length ig,[],none⟩,[]⟩
def rh (p a t b r:Int):Bool:=decide (32<=p)&&decide (p<=1024)&&(p%16==0)&&decide (1<=a)&&decide (a<=4)&&decide (1<=t)&&decide (t<=4)&&decide (0<=b)&&decide (b<=65536)&&decide (0<=r)&&decide (r<=8)
theorem lvl {K:aO}{r:Bool}{a:Addr}{x:Int}{k:IntKind}{f:Int->Bool}(hl:∀{K':Int->Prop},K' x->gA k a w K')(h:K (r&&f x) w):bV K λJ=>If r (gA k a w λt=>J (f t) w) (J false w):=
 bV.intro (cO (λb=>hl (by rw[b]at h;exact h)) λb=>by rw[b]at h;exact h)
theorem NI (p a t b r:Int){R:aO}(hR:∀σ',bK U σ'->R (rh p a t b r) σ'):Qi.c p a t b r U R:=by
 refine Qi.o ?_;unfold Qi.v;refine nw (cs:=[.int .i64 p,.int .i64 a,.int .i64 t,.int .i64 b,.int .i64 r]) λv A e g=>g.rI rfl ?_;have i:=hR v e;unfold rh at i;refine Q8 (λj w=>w=v/\j=(decide (32<=p)&&decide (p<=1024))) (λj w ⟨u,x⟩=>?_) λJ m=>?_
 ·subst u;subst x;refine Q8 (λj y=>y=w/\j=(decide (32<=p)&&decide (p<=1024)&&(p%16==0))) (λj y ⟨u,x⟩=>?_) λJ m=>?_
  ·rw[u];subst x;exact lvl (λd=>g.rI rfl d) (lvl (λd=>g.rI rfl d) (lvl (λd=>g.rI rfl d) (lvl (λd=>g.rI rfl d) (lvl (λd=>g.rI rfl d) (lvl (λd=>g.rI rfl d) (lvl (λd=>g.rI rfl d) (lvl (λd=>g.rI rfl d) i)))))))
  ·refine cO (λs=>g.rI rfl (nz aB (m _ _ ⟨rfl,?_⟩))) λz=>m _ _ ⟨rfl,?_⟩
   ·simp only[zF,zU]at s;rw[Qm O,zJ s.1,zJ s.2];rfl
   ·rw[z];rfl
 ·refine cQ (λs=>g.rI rfl (m _ _ ⟨rfl,?_⟩)) λz=>m _ _ ⟨rfl,?_⟩
  ·rw[zJ (by omega:32<=p)];rfl
  ·rw[zM O];rfl
structure nZ where
 p:Nat
 dC:Sl
 lm:Nat
 hs:Option Nat
 hp:Option Nat
 aw:Sl
 al:List Nat
 ha:Sl
 tw:Sl
 tl:List Value
 ht:Sl
 ys:List Lay
 cs:List gK
def qp (cf:Cf)(N:nZ):List Value:=[.slice N.dC.a N.dC.len N.dC.cap,.int .i64 (cf.aF:Int),.int .i64 (cf.gW:Int),.int .i64 (cf.threads:Int),.int .i64 (cf.dA:Int),.int .i64 (cf.room:Int),
 .pointer (N.hp.map λq=>⟨q,0,none⟩),.slice N.ha.a N.ha.len N.ha.cap,.slice N.ht.a N.ht.len N.ht.cap,.map (some N.lm)]
def ri (n room:Nat)(tb:List bZ)(y:Option Lay):Hp->Rg->Prop:=λU F=>match y with
 | some Y=>dG U F Y (fA n room tb) (cK (fA n room tb) Y)
 | none=>True
def qZ (tb:List bZ)(bud:Nat)(y:Option gK):Hp->Rg->Prop:=λU F=>match y with
 | some Y=>eB U F Y tb bud (List.replicate tb.length ig)
 | none=>True
def xA (n:Nat)(q:Option Nat):Hp->Rg->Prop:=λU F=>match q with
 | some q=>dK U F q (KY n)
 | none=>True
def iJ (tb:List bZ)(cf:Cf)(N:nZ):kz->Hp->Rg->Prop
 | .hd=>iq N.p (qp cf N)
 | .dC=>cX N.dC 3 (fZ tb)
 | .sp=>xA cf.aF N.hs
 | .fO=>bS N.aw 1 (fM N.al)
 | .cN=>bS N.tw 3 N.tl
 | .live=>jA N.lm .i64 (.ag 4) []
 | .ar k=>ri cf.aF cf.room tb N.ys[k]?
 | .ca k=>qZ tb cf.dA N.cs[k]?
 | .hn _=>λ_ _=>True
theorem ri.loc (n room:Nat)(tb:List bZ)(y:Option Lay):dM (ri n room tb y):=by
 intro U σ' F G h hz hs;cases y with
 | some Y=>exact dG.loc _ _ _ _ h hz hs
 | none=>trivial
theorem qZ.loc (tb:List bZ)(bud:Nat)(y:Option gK):dM (qZ tb bud y):=by
 intro U σ' F G h hz hs;cases y with
 | some Y=>exact eB.loc _ _ _ _ h hz hs
 | none=>trivial
theorem xA.loc (n:Nat)(q:Option Nat):dM (xA n q):=by
 intro U σ' F G h hz hs;cases q with
 | some q=>exact dK.loc _ _ _ _ h hz hs
 | none=>trivial
theorem iJ.loc {N:nZ}:∀i,dM (iJ tb cf N i)
 | .hd=>iq.loc _ _
 | .dC=>cX.loc _ _ _
 | .sp=>xA.loc _ _
 | .fO=>bS.loc _ _ _
 | .cN=>bS.loc _ _ _
 | .live=>jA.loc _ _ _ _
 | .ar k=>ri.loc _ _ _ _
 | .ca k=>qZ.loc _ _ _
 | .hn _=>λ_ _ _ _ _ _ _=>trivial
structure NK (U:Hp) (B:Rg) (w:Hp) (P:Rg) (tb:List bZ) (cf:Cf) (N:nZ):Prop where
 sep:Sep (iJ tb cf N) w P
 e:bK U w
 p:∀b,P b->U.size<=b/\¬B b/\b<w.size
 b:∀b,B b->U.size<=b/\b<w.size
variable {N N':nZ}
theorem NK.fr (K:NK U B w P tb cf N)(e:bK w w'):NK U B w' P tb cf N:=
 ⟨(Sep.loc iJ.loc).bO K.sep e,K.e.trans e,λb a=>⟨(K.p b a).1,(K.p b a).2.1,by have:=(K.p b a).2.2;have:=e.1;omega⟩,λb a=>by have:=K.b b a;have:=e.1;omega⟩
theorem NK.box (K:NK U B w P tb cf N)(e:bK w w')(hz:w'.size=w.size+1):NK U (λb=>B b\/b=w.size) w' P tb cf N:=by
 have h:=K.fr e;have i:=K.e.1;exact⟨h.sep,h.e,λb a=>⟨(K.p b a).1,λg=>g.elim (K.p b a).2.1 λd=>by have:=(K.p b a).2.2;omega,(h.p b a).2.2⟩,λb a=>a.elim (h.b b) λd=>O⟩
theorem NK.drop (K:NK U B w P tb cf N){B':Rg}(hb:∀b,B' b->B b):NK U B' w P tb cf N:=⟨K.sep,K.e,λb h=>⟨(K.p b h).1,λa=>(K.p b h).2.1 (hb b a),(K.p b h).2.2⟩,λb h=>K.b b (hb b h)⟩
theorem NK.put (K:NK U B w P tb cf N)(e:bK w w')(i:kz)(hj:∀j,j≠i->iJ tb cf N' j=iJ tb cf N j)(hi:iJ tb cf N' i w' (λb=>w.size<=b)):NK U B w' (λb=>P b\/w.size<=b/\b<w'.size) tb cf N':=by
 have h:=K.fr e;have m:=K.e.1;refine⟨h.sep.put iJ.loc i (G:=λb=>w.size<=b/\b<w'.size) (λb a g=>by have:=(K.p b g).2.2;omega) hj ((iJ.loc i).mono hi λb a d=>⟨d,a⟩) (iJ.loc i),h.e,λb a=>?_,h.b⟩;rcases a with a|a
 ·exact h.p b a
 ·exact⟨O,λd=>by have:=(K.b b d).2;omega,a.2⟩
theorem NK.step (K:NK U B w P tb cf N)(i:kz):∃G:Rg,(∀b,G b->P b)/\iJ tb cf N i w G/\∀(w':Hp) (N':nZ) (G':Rg),(∀j,j≠i->iJ tb cf N' j=iJ tb cf N j)->Ext G w w'->(∀b,G' b->G b\/w.size<=b/\¬B b)->iJ tb cf N' i w' G'->(∀b,B b->b<w'.size) →
 NK U B w' (λb=>(P b/\¬G b\/G' b)/\b<w'.size) tb cf N':=by
 obtain⟨G,m,s,_,g⟩:=K.sep.jS iJ.loc i;refine⟨G,m,s,λw' N' G' u e r x y=>⟨?_,?_,λb a=>?_,λb a=>⟨(K.b b a).1,y b a⟩⟩⟩
 ·have:=g w' (iJ tb cf N') G' u e (λb a=>(r b a).imp id λd=>d.1) x (iJ.loc _);refine(Sep.loc iJ.loc).mono this λb a d=>⟨?_,a⟩;exact d.imp (λd=>⟨d.1,d.2.2⟩) id
 ·exact Ext.dV K.e e λb a=>.inr (K.p b (m b a)).1
 ·have z:=K.e.1;rcases a.1 with h1|h1
  ·exact⟨(K.p b h1.1).1,(K.p b h1.1).2.1,a.2⟩
  ·rcases r b h1 with h2|h2
   ·exact⟨(K.p b (m b h2)).1,(K.p b (m b h2)).2.1,a.2⟩
   ·exact⟨O,h2.2,a.2⟩
theorem BW {K:eR [.p]}{body:eR [.p]->Prop}(P:Option Addr->Hp->Prop)(h1:∀r w,P r w->K r w)(h2:∀J:eR [.p],(∀r w,P r w->J r w)->body J):Jn [.p] K body:=Jn.intro (h2 K h1)
def gC:Sl:=⟨none,0,0⟩
def pE (cs:List gK):List Value:=cs.flatMap λc=>[.pointer (some ⟨c.p,0,none⟩),.slice none 0 0,.nilIface]
def N0 (p:Nat)(dC:Sl)(lm:Nat):nZ:=⟨p,dC,lm,none,none,gC,[],gC,gC,[],gC,[],[]⟩
def NB (p:Nat)(dC:Sl)(lm q:Nat)(aw:Sl)(ys:List Lay)(tw:Sl)(cs:List gK):nZ:=⟨p,dC,lm,some q,some q,aw,ys.map (·.p),aw,tw,pE cs,tw,ys,cs⟩
theorem FE {p lm:Nat}{dC:Sl}{D:Rg}(e:bK U w)(hz:U.size<w.size)(hp:bY w p (qp cf (N0 p dC lm)))(hm:dL w lm .i64 (.ag 4) [])(ht:cX dC 3 (fZ tb) w D)(hD:∀b,D b->U.size<b/\b<w.size/\b≠p/\b≠lm)(hpl:p≠lm)(h1:U.size<p)(h2:U.size<lm) :
 NK U (· = U.size) w (λb=>D b\/b=p\/b=lm) tb cf (N0 p dC lm):=by
 have g:=hp.lt;have d:=hm.lt;refine⟨⟨λb=>if b=p then .hd else if b=lm then .live else .dC,λi=>?_⟩,e,λb a=>?_,λb a=>O⟩
 ·cases i with
  | hd=>exact⟨⟨.inr (.inl rfl),zC rfl⟩,hp⟩
  | live=>exact⟨⟨.inr (.inr rfl),by show(if lm=p then kz.hd else if lm=lm then kz.live else kz.dC)=.live;rw[zB (Ne.symm hpl),zC rfl]⟩,hm⟩
  | dC=>exact aH.mono ht λb _ a=>⟨.inl a,by show(if b=p then kz.hd else if b=lm then kz.live else kz.dC)=.dC;rw[zB (hD b a).2.2.1,zB (hD b a).2.2.2]⟩
  | sp=>trivial
  | fO=>exact bS.nil _ _ _ _
  | cN=>exact bS.nil _ _ _ _
  | ar k=>trivial
  | ca k=>trivial
  | hn k=>trivial
 ·rcases a with a|a|a
  ·have:=hD b a;omega
  ·omega
  ·omega
theorem NK.xr (K:NK U B w P tb cf N):P N.p/\bY w N.p (qp cf N):=by
 obtain⟨G,b,a⟩:=K.sep.get .hd;exact⟨b _ a.1,a.2⟩
theorem NK.ta (K:NK U B w P tb cf N)(N':nZ)(hN':∀j,j≠.hd->iJ tb cf N' j=iJ tb cf N j)(hp:N'.p=N.p){i:Nat}{v:Value}(hs:(qp cf N).set i v=qp cf N')(hi:i<10){Kk:aP}(hK:∀w' P',NK U B w' P' tb cf N'->Qk w w' N.p->Kk w'):dX (Addr.add ⟨N.p,0,none⟩ i) v w Kk:=by
 obtain⟨G,m,e,a⟩:=K.step .hd;have e:iq N.p (qp cf N) w G:=e;refine e.2.s1 (by simpa[qp]using hi) λw' o g=>hK w' _ (a w' N' G hN' (o.ext.sub λx d=>by rw[d];exact e.1) (λx d=>.inl d) ?_ λx d=>by have:=(K.b x d).2;have:=o.1;omega) o;show iq N'.p (qp cf N') w' G;rw[zH,hs]at g;rw[hp];exact⟨e.1,g⟩
theorem OM {Y:Lay}(h:N'.ys=N.ys++[Y])(hr:∀j,(∀k,j≠.ar k)->iJ tb cf N' j=iJ tb cf N j):∀j,j≠kz.ar N.ys.length->iJ tb cf N' j=iJ tb cf N j:=by
 intro j hj;cases j with
 | ar k=>
  have a:k≠N.ys.length:=λe=>hj (by rw[e]);show ri _ _ _ N'.ys[k]?=ri _ _ _ N.ys[k]?;rw[h]
  congr 1
  rcases Nat.lt_or_gt_of_ne a with h1|h1
  ·rw[zh h1]
  ·rw[zV aE,zV O]
 | _=>exact hr _ (λk e=>by cases e)
theorem Ma {Y:gK}(h:N'.cs=N.cs++[Y])(hr:∀j,(∀k,j≠.ca k)->iJ tb cf N' j=iJ tb cf N j):∀j,j≠kz.ca N.cs.length->iJ tb cf N' j=iJ tb cf N j:=by
 intro j hj;cases j with
 | ca k=>
  have a:k≠N.cs.length:=λe=>hj (by rw[e]);show qZ _ _ N'.cs[k]?=qZ _ _ N.cs[k]?;rw[h]
  congr 1
  rcases Nat.lt_or_gt_of_ne a with h1|h1
  ·rw[zh h1]
  ·rw[zV aE,zV O]
 | _=>exact hr _ (λk e=>by cases e)
end Go.Ar
namespace Go.Ar
open Go Go.Vc Go.Proofs
variable {U u w w':Hp}{F B P Q:Rg}{n:Nat}{cs:List Value}{tb:List bZ}{cf:Cf}{N:nZ}
theorem D4 (p a t b r:Int):rh p a t b r=true↔(32<=p/\p<=1024/\p%16=0)/\(1<=a/\a<=4)/\(1<=t/\t<=4)/\(0<=b/\b<=65536)/\0<=r/\r<=8:=by
 simp only[rh,zF,zU,zS];omega
theorem AA (g:Gl U)(gd:Gd U):iS (λb=>U.size<=b)/\¬(U.size<=1):=by
 refine⟨?_,λh=>by have:=yL gd;omega⟩;have d:iS (λ_=>False):=λb a=>a.elim;exact(d.grow g).sub λb a=>.inr a
theorem MO (cs:List gK)(ls:List Li):gR (cs.map λc=>⟨c,gC⟩) (List.replicate cs.length ⟨ls,[],none⟩)=pE cs:=by
 induction cs with
 | nil=>rfl
 | cons c cs ih=>
  have e1:gR ((c::cs).map λc=>(⟨c,gC⟩:eJ)) (List.replicate (c::cs).length ⟨ls,[],none⟩)=jt (⟨c,gC⟩,⟨ls,[],none⟩)++gR (cs.map λc=>(⟨c,gC⟩:eJ)) (List.replicate cs.length ⟨ls,[],none⟩):=rfl;rw[e1,ih];rfl
theorem Sd (cs:List gK):(pE cs).length=cs.length*3:=by
 induction cs with
 | nil=>rfl
 | cons c cs ih=>simp only[pE,p8,zP,zY,lH]at *;omega
set_option maxRecDepth 8000 in
theorem AZ {s:Sl}{xs:List (Int×Int×Int)}(ha:ic U s xs)(g:Gl U)(gd:Gd U)(p a t b r:Int){R:Option Addr->Int->Hp->Prop}
 (h2:Qd xs=false->∀σ',bK U σ'->R none 2 σ')
 (h1:Qd xs=true->rh p a t b r=false->∀σ',bK U σ'->R none 1 σ')
 (h0:Qd xs=true->rh p a t b r=true->∀σ' L,bK U σ'->HH σ' (λq=>U.size<=q) L (Vy (xs.map ZY) ⟨p.toNat,a.toNat,t.toNat,b.toNat,r.toNat⟩)->R (some ⟨L.p,0,none⟩) 0 σ') :
 Kn.c s p a t b r U R:=by
 refine Kn.o ?_;unfold Kn.v;refine nw (cs:=[.int .i64 p,.int .i64 a,.int .i64 t,.int .i64 b,.int .i64 r]) λv hz e y=>?_;refine Gj (ZN ha e) λv1 e1=>?_;cases hv:Qd xs with
 | false=>exact cD rfl (h2 hv v1 (e.trans e1))
 | true=>
 have ac:=e1.bT y id;refine cB rfl (ac.rI rfl (ac.rI rfl (ac.rI rfl (ac.rI rfl (ac.rI rfl (NI p a t b r λv2 e2=>?_))))));have W:=(e.trans e1).trans e2;cases hc:rh p a t b r with
 | false=>exact cD rfl (h1 hv hc v2 W)
 | true=>
 have hcf:=(D4 p a t b r).1 hc;obtain⟨p,rfl⟩:∃n:Nat,p=(n:Int):=⟨p.toNat,O⟩;obtain⟨a,rfl⟩:∃n:Nat,a=(n:Int):=⟨a.toNat,O⟩;obtain⟨t,rfl⟩:∃n:Nat,t=(n:Int):=⟨t.toNat,O⟩;obtain⟨b,rfl⟩:∃n:Nat,b=(n:Int):=⟨b.toNat,O⟩;obtain⟨r,rfl⟩:∃n:Nat,r=(n:Int):=⟨r.toNat,O⟩;simp only[dE]at h0;have h0:=h0 hv hc;have A:=e2.bT ac id;have hxl:=(Z8 xs).1 hv;have hz2:=W.1;have hz02:U.size<v2.size:=A.lt;generalize hcfd:(⟨p,a,t,b,r⟩:Cf)=cf at h0;generalize htbd:xs.map ZY=tb at h0;have hdE:∀(q:Nat) (dC:Sl) (C:Nat),qp cf (N0 q dC C)=[.slice dC.a dC.len dC.cap,.int .i64 (p:Int),.int .i64 (a:Int),.int .i64 (t:Int),.int .i64 (b:Int),.int .i64 (r:Int),.pointer none,.slice none 0 0,.slice none 0 0,.map (some C)]:=λq dC C=>by rw[←hcfd];rfl
 refine cB rfl (BW (λvh w=>∃P q dC C,vh=some ⟨q,0,none⟩/\NK U (· = U.size) w P tb cf (N0 q dC C)/\bY w U.size [.int .i64 (p:Int),.int .i64 (a:Int),.int .i64 (t:Int),.int .i64 (b:Int),.int .i64 (r:Int)]) (λvh w ⟨P,q,dC,C,hvh,K,hbw⟩=>?_) λJ hJ=>?_)
 ·subst hvh;refine hbw.rI rfl (JS (n:=p) O O λv4 sp e4 _ hS=>?_);have hp:cf.aF=p:=by rw[←hcfd]
  have hroom:cf.room=r:=by rw[←hcfd]
  have hbud:cf.dA=b:=by rw[←hcfd]
  have K1:NK U (· = U.size) v4 _ tb cf {N0 q dC C with hs:=some sp}:=K.put e4 .sp (λj M=>by cases j<;>first|rfl|exact absurd rfl M) (by
   show dK v4 _ sp (KY cf.aF);rw[hp];exact hS)
  have hbw4:=e4.bT hbw id;refine aG (K1.ta (NB q dC C sp gC [] gC []) (λj M=>by cases j<;>first|rfl|exact absurd rfl M) rfl (i:=6) rfl O λv5 P5 K5 o5=>?_)
  have ak:∀{w:Hp} {P:Rg} {N:nZ},NK U (· = U.size) w P tb cf N->U.size≠N.p:=λK e=>(K.p _ K.xr.1).2.1 e.symm;have hbw5:=Ws o5 hbw4 (ak K1);refine hbw5.rI rfl ?_;refine ZS (a:=bN) (λ(z:Int) w=>∃(P:Rg) (aw:Sl) (ys:List Lay),z=(ys.length:Int)/\ys.length<=a/\(∀Y∈ys,Y.hs=sp)/\NK U (· = U.size) w P tb cf (NB q dC C sp aw ys gC [])/\bY w U.size [.int .i64 (p:Int),.int .i64 (a:Int),.int .i64 (t:Int),.int .i64 (b:Int),.int .i64 (r:Int)]) (λz _=>a-z.toNat) ⟨P5,gC,[],rfl,by simp,by simp,K5,hbw5⟩ ?_;rintro(z:Int) w6 ⟨P6,aw,ys,rfl,hyl,hys,K6,hbw6⟩;refine cQ (λhlt=>?_) λhge=>?_
  ·refine⟨λu=>u=w6,rfl,aG ⟨some ⟨sp,0,none⟩,λu hu=>by cases hu;rw[add_lit];exact(bY.cell (b:=q) K6.xr.2).trans rfl,⟨(r:Int),λu hu=>by cases hu;rw[add_lit,hbw6.cell];rfl,?_⟩⟩⟩;obtain⟨GS,hGS,hSp⟩:=K6.sep.get .sp;have hSp:dK w6 GS sp (KY cf.aF):=hSp;have hnl:(KY cf.aF).st.length=p:=by rw[hp];simp[KY]
   have hnE:kT xs (KY cf.aF).st.length (r:Int)=0:=by
    unfold kT;rw[zC hv,hnl,zC O]
   refine LV (ZN ha K6.e) hSp (r:Int) (λhne=>absurd hnE hne) λ_ v7 Y e7 hYh hA=>?_;rw[hnl,dE,htbd]at hA;have K7:NK U (· = U.size) v7 _ tb cf {NB q dC C sp aw ys gC []with ys:=ys++[Y]}:=K6.put e7 (.ar ys.length) (OM (N:=NB q dC C sp aw ys gC []) rfl (λj M=>by
    cases j with
    | ar k=>exact absurd rfl (M k)
    | _=>rfl)) (by
    show ri cf.aF cf.room tb (ys++[Y])[ys.length]? v7 _;rw[zp (zD _),pK,hp,hroom];exact hA)
   have V:=e7.bT hbw6 id;refine aG (K7.xr.2.rS (a:=aw.a) (n:=aw.len) (c:=aw.cap) rfl (nw (cs:=[.pointer (some ⟨Y.p,0,none⟩)]) λv8 hz8 e8 hb8=>?_));have K8:=K7.box e8 hz8;obtain⟨G,hG,d,ai⟩:=K8.step .fO;have d:bS aw 1 (fM (ys.map (·.p))) v8 G:=d;have hal:aw.len=ys.length:=by have:=d.1;simp[fM]at this;omega
   refine d.app (ys:=[.pointer (some ⟨Y.p,0,none⟩)]) rfl rfl ?_ (by simp[dQ]) ?_ ?_ mG λs' v9 _ e9 hr9=>?_
   ·intro j u hu;rw[add_lit,zH,hb8.cell];exact hu
   ·simp only;omega
   ·simp only;omega
   have hz9:=e9.1;have hbw9:bY v9 U.size _:=e9.bT (e8.bT V id) λF=>(K8.p _ (hG _ F)).2.1 (.inl rfl);have K9:=(ai v9 {NB q dC C sp aw ys gC []with ys:=ys++[Y],aw:=s',al:=(ys++[Y]).map (·.p)} (λb=>Grow G v8 b/\b<v9.size) (λj M=>by cases j<;>first|rfl|exact absurd rfl M) e9 (λb y=>y.1.imp id λF=>⟨F,λhB=>by have:=(K8.b b hB).2;omega⟩) (by
    show bS s' 1 (fM ((ys++[Y]).map (·.p))) v9 _;have:fM ((ys++[Y]).map (·.p))=fM (ys.map (·.p))++[.pointer (some ⟨Y.p,0,none⟩)]:=by simp[fM]
    rw[this];exact aI.mono hr9 λb y F=>⟨F,y⟩) λb hB=>by have:=(K8.b b hB).2;omega).drop (B':=(· = U.size)) λb y=>.inl y
   refine aG (K9.ta (NB q dC C sp s' (ys++[Y]) gC []) (λj M=>by cases j<;>first|rfl|exact absurd rfl M) rfl (i:=7) rfl O λae P10 K10 gQ=>?_)
   have H:=Ws gQ hbw9 (ak K9);exact cP (m:=ys.length+1) O O ⟨⟨P10,s',ys++[Y],by simp,by simp;omega,λZ hZ=>(zK.1 hZ).elim (hys Z) λh=>by
    rw[zN]at h;rw[h];exact hYh,K10,H⟩,O⟩
  ·have hya:ys.length=a:=by omega
   refine hbw6.rI rfl ?_;refine ZS (a:=bN) (λ(z:Int) w=>∃(P:Rg) (tw:Sl) (cs:List gK),z=(cs.length:Int)/\cs.length<=t/\NK U (· = U.size) w P tb cf (NB q dC C sp aw ys tw cs)/\bY w U.size [.int .i64 (p:Int),.int .i64 (a:Int),.int .i64 (t:Int),.int .i64 (b:Int),.int .i64 (r:Int)]) (λz _=>t-z.toNat) ⟨P6,gC,[],rfl,by simp,K6,hbw6⟩ ?_;rintro(z:Int) w7 ⟨P7,tw,cs,rfl,hcsl,K7,V⟩;refine cQ (λhlt=>?_) λhge2=>?_
   ·refine V.rI rfl (MR (ZN ha K7.e) (b:Int) (λhvf=>by rw[hv]at hvf;cases hvf) (λ_ hn=>absurd ⟨O,O⟩ hn) λ_ _ _ v8 Y e8 hC=>?_);rw[dE,htbd]at hC;have K8:NK U (· = U.size) v8 _ tb cf {NB q dC C sp aw ys tw cs with cs:=cs++[Y]}:=K7.put e8 (.ca cs.length) (Ma (N:=NB q dC C sp aw ys tw cs) rfl (λj M=>by
     cases j with
     | ca k=>exact absurd rfl (M k)
     | _=>rfl)) (by
     show qZ tb cf.dA (cs++[Y])[cs.length]? v8 _;rw[zp (zD _),pK,hbud];exact hC)
    have hbw8:=e8.bT V id;refine aG (K8.xr.2.rS (a:=tw.a) (n:=tw.len) (c:=tw.cap) rfl (nw (cs:=[.pointer (some ⟨Y.p,0,none⟩),.slice none 0 0,.nilIface]) λv9 hz9 e9 hb9=>?_));have K9:=K8.box e9 hz9;obtain⟨G,hG,d,ai⟩:=K9.step .cN;have d:bS tw 3 (pE cs) v9 G:=d;have hal:tw.len=cs.length:=by have:=d.1;rw[Sd]at this;omega
    refine d.app (ys:=[.pointer (some ⟨Y.p,0,none⟩),.slice none 0 0,.nilIface]) rfl rfl ?_ (by simp[dQ]) ?_ ?_ mG λs' ae _ e10 hr10=>?_
    ·intro j u hu;rw[add_lit,zH,hb9.cell];exact hu
    ·simp only;omega
    ·simp only;omega
    have hz10:=e10.1;have H:bY ae U.size _:=e10.bT (e9.bT hbw8 id) λF=>(K9.p _ (hG _ F)).2.1 (.inl rfl);have K10:=(ai ae {NB q dC C sp aw ys tw cs with cs:=cs++[Y],tw:=s',tl:=pE (cs++[Y])} (λb=>Grow G v9 b/\b<ae.size) (λj M=>by cases j<;>first|rfl|exact absurd rfl M) e10 (λb y=>y.1.imp id λF=>⟨F,λhB=>by have:=(K9.b b hB).2;omega⟩) (by
     show bS s' 3 (pE (cs++[Y])) ae _;have:pE (cs++[Y])=pE cs++[.pointer (some ⟨Y.p,0,none⟩),.slice none 0 0,.nilIface]:=by simp[pE]
     rw[this];exact aI.mono hr10 λb y F=>⟨F,y⟩) λb hB=>by have:=(K9.b b hB).2;omega).drop (B':=(· = U.size)) λb y=>.inl y
    refine aG (K10.ta (NB q dC C sp aw ys s' (cs++[Y])) (λj M=>by cases j<;>first|rfl|exact absurd rfl M) rfl (i:=8) rfl O λv11 P11 K11 o11=>?_)
    have hbw11:=Ws o11 H (ak K10);exact cP (m:=cs.length+1) O O ⟨⟨P11,s',cs++[Y],by simp,by simp;omega,K11,hbw11⟩,O⟩
   ·have hct:cs.length=t:=by omega
    have S:cf.threads=cs.length:=by rw[←hcfd,hct]
    have ad:cf.gW=ys.length:=by rw[←hcfd,hya]
    have hN:=AA g gd;refine h0 w7 ⟨q,sp,C,dC,aw,tw,ys,cs.map λc=>⟨c,gC⟩⟩ K7.e ⟨⟨?_,hys,?_,?_,?_,?_,?_,?_⟩,?_,g.bO K7.e,gd.bO K7.e,hN.1,hN.2⟩
    ·simp[Vy,ad]
    ·simp[Vy,S]
    ·simp[Vy,ad];omega
    ·simp[Vy,ad];omega
    ·simp[Vy,S];omega
    ·simp[Vy,S];omega
    ·intro B hB;have:=Av hB;rw[this];rfl
    ·refine(Sep.loc CH.loc).mono (G:=λq=>U.size<=q) ?_ λb _ y=>y;obtain⟨ρ,hs⟩:=(Sep.loc iJ.loc).mono K7.sep (G:=λq=>U.size<=q) λb _ y=>(K7.p b y).1;refine⟨ρ,λi=>?_⟩;have Q:=hs i;cases i with
     | hd=>exact Q
     | dC=>exact Q
     | sp=>exact Q
     | fO=>exact bS.gY Q
     | cN=>
      show bS tw 3 (gR (cs.map λc=>⟨c,gC⟩) (List.replicate cf.threads ⟨List.replicate tb.length ig,[],none⟩)) w7 _;rw[S,MO];exact Q
     | live=>exact Q
     | ar k=>
      show nG ys[k]? (List.replicate cf.gW (fA cf.aF cf.room tb))[k]? w7 _;have Q:ri cf.aF cf.room tb ys[k]? w7 _:=Q;unfold nG;by_cases hk:k<ys.length
      ·rw[lX,zC O,cV hk];rw[cV hk]at Q;exact Q
      ·rw[zV O];trivial
     | ca k=>
      show qu (cs.map λc=>(⟨c,gC⟩:eJ))[k]? (List.replicate cf.threads (⟨List.replicate tb.length ig,[],none⟩:Th))[k]? tb cf.dA w7 _;have Q:qZ tb cf.dA cs[k]? w7 _:=Q;unfold qu;by_cases hk:k<cs.length
      ·rw[lX,zC O,zg,cV hk];rw[cV hk]at Q;exact Q
      ·rw[zg,zV O];trivial
     | hn k=>
      show pz (cs.map λc=>(⟨c,gC⟩:eJ))[k]? (List.replicate cf.threads (⟨List.replicate tb.length ig,[],none⟩:Th))[k]? w7 _;unfold pz;by_cases hk:k<cs.length
      ·rw[lX,zC O,zg,cV hk];exact ik.nil _ _ _
      ·rw[zg,zV O];trivial
 ·have rd:∀(i:Nat) (x:Int),[Value.int .i64 (p:Int),.int .i64 (a:Int),.int .i64 (t:Int),.int .i64 (b:Int),.int .i64 (r:Int)][i]?=some (.int .i64 x)->∀m,bY m U.size [.int .i64 (p:Int),.int .i64 (a:Int),.int .i64 (t:Int),.int .i64 (b:Int),.int .i64 (r:Int)]->cell m (Addr.add ⟨U.size,0,none⟩ i)=some (.int .i64 x):=λi x F m hm=>by
   rw[add_lit,hm.cell,zH];exact F
  refine⟨λm=>bY m U.size [.int .i64 (p:Int),.int .i64 (a:Int),.int .i64 (t:Int),.int .i64 (b:Int),.int .i64 (r:Int)],A,⟨(p:Int),rd 0 _ rfl,⟨(a:Int),rd 1 _ rfl,⟨(t:Int),rd 2 _ rfl,⟨(b:Int),rd 3 _ rfl,⟨(r:Int),rd 4 _ rfl,⟨?_,?_⟩⟩⟩⟩⟩⟩⟩
  ·refine VO (ZN ha W) hv λdC am ab E=>⟨ab.bT A id,r7 λv17 z17 ah hm=>⟨ah.bT (ab.bT A id) id,?_⟩⟩;rw[htbd]at E;have hz16:=ab.1;refine nw (cs:=[.slice dC.a dC.len dC.cap,.int .i64 (p:Int),.int .i64 (a:Int),.int .i64 (t:Int),.int .i64 (b:Int),.int .i64 (r:Int),.pointer none,.slice none 0 0,.slice none 0 0,.map (some am.size)]) λv18 z18 af hb18=>⟨af.bT (ah.bT (ab.bT A id) id) id,hJ _ _ ⟨_,v17.size,dC,am.size,rfl,FE (D:=λq=>v2.size<=q/\q<am.size) (((W.trans ab).trans ah).trans af) O (by rw[hdE];exact hb18) (af.fR (hm .i64 (.ag 4)) id) ?_ (λb y=>O) O O O,af.bT (ah.bT (ab.bT A id) id) id⟩⟩;exact aH.bO (aH.bO (aH.mono E (G:=λq=>v2.size<=q/\q<am.size) λb y F=>⟨F,y⟩) ah) af
  ·refine r7 λv19 z19 aa hm=>⟨aa.bT A id,VO (ZN ha (W.trans aa)) hv λdC v20 X E=>⟨X.bT (aa.bT A id) id,?_⟩⟩;rw[htbd]at E;have hz20:=X.1;refine nw (cs:=[.slice dC.a dC.len dC.cap,.int .i64 (p:Int),.int .i64 (a:Int),.int .i64 (t:Int),.int .i64 (b:Int),.int .i64 (r:Int),.pointer none,.slice none 0 0,.slice none 0 0,.map (some v2.size)]) λv21 z21 aj hb21=>⟨aj.bT (X.bT (aa.bT A id) id) id,hJ _ _ ⟨_,v20.size,dC,v2.size,rfl,FE (D:=λq=>v19.size<=q/\q<v20.size) (((W.trans aa).trans X).trans aj) O (by rw[hdE];exact hb21) (aj.fR (X.fR (hm .i64 (.ag 4)) id) id) ?_ (λb y=>O) O O O,aj.bT (X.bT (aa.bT A id) id) id⟩⟩;exact aH.bO (aH.mono E (G:=λq=>v19.size<=q/\q<v20.size) λb y F=>⟨F,y⟩) aj
end Go.Ar
namespace Go.Ar
open Go Go.Vc Go.Proofs
variable {U u w w':Hp}{F B P Q:Rg}{L:dH}{H:Hw}{t:Nat}{g:Th}
theorem O0 (u:Value){R:ByteArray->Hp->Prop}(h:Wc Tryz.prog 346 #[u] [.one .str] U R):iV Tryz.prog (.iface 218 u) "freehold/heap.name" [] [.one .str] U R :=
 ⟨218,u,346,rfl,λw=>by kernel_rfl,λxs w=>by kernel_rfl,h⟩
theorem Sf (u:Value){R:ByteArray->Hp->Prop}(h:Wc Tryz.prog 350 #[u] [.one .str] U R):iV Tryz.prog (.iface 228 u) "freehold/heap.name" [] [.one .str] U R :=
 ⟨228,u,350,rfl,λw=>by kernel_rfl,λxs w=>by kernel_rfl,h⟩
theorem Iv (u:Value){R:ByteArray->Hp->Prop}(h:Wc Tryz.prog 352 #[u] [.one .str] U R):iV Tryz.prog (.iface 231 u) "freehold/heap.name" [] [.one .str] U R :=
 ⟨231,u,352,rfl,λw=>by kernel_rfl,λxs w=>by kernel_rfl,h⟩
theorem Mr (u:Value){R:ByteArray->Hp->Prop}(h:Wc Tryz.prog 353 #[u] [.one .str] U R):iV Tryz.prog (.iface 233 u) "freehold/heap.name" [] [.one .str] U R :=
 ⟨233,u,353,rfl,λw=>by kernel_rfl,λxs w=>by kernel_rfl,h⟩
theorem Ij (u:Value){R:ByteArray->Hp->Prop}(h:Wc Tryz.prog 351 #[u] [.one .str] U R):iV Tryz.prog (.iface 230 u) "freehold/heap.name" [] [.one .str] U R :=
 ⟨230,u,351,rfl,λw=>by kernel_rfl,λxs w=>by kernel_rfl,h⟩
theorem Mn (u:Value){R:ByteArray->Hp->Prop}(h:Wc Tryz.prog 347 #[u] [.one .str] U R):iV Tryz.prog (.iface 220 u) "freehold/heap.name" [] [.one .str] U R :=
 ⟨220,u,347,rfl,λw=>by kernel_rfl,λxs w=>by kernel_rfl,h⟩
theorem R6 (u:Value){R:ByteArray->Hp->Prop}(h:Wc Tryz.prog 348 #[u] [.one .str] U R):iV Tryz.prog (.iface 222 u) "freehold/heap.name" [] [.one .str] U R :=
 ⟨222,u,348,rfl,λw=>by kernel_rfl,λxs w=>by kernel_rfl,h⟩
theorem Mx (u:Value){R:ByteArray->Hp->Prop}(h:Wc Tryz.prog 354 #[u] [.one .str] U R):iV Tryz.prog (.iface 238 u) "freehold/heap.name" [] [.one .str] U R :=
 ⟨238,u,354,rfl,λw=>by kernel_rfl,λxs w=>by kernel_rfl,h⟩
theorem M3 (u:Value){R:ByteArray->Hp->Prop}(h:Wc Tryz.prog 355 #[u] [.one .str] U R):iV Tryz.prog (.iface 241 u) "freehold/heap.name" [] [.one .str] U R :=
 ⟨241,u,355,rfl,λw=>by kernel_rfl,λxs w=>by kernel_rfl,h⟩
theorem MK (u:Value){R:ByteArray->Hp->Prop}(h:Wc Tryz.prog 356 #[u] [.one .str] U R):iV Tryz.prog (.iface 245 u) "freehold/heap.name" [] [.one .str] U R :=
 ⟨245,u,356,rfl,λw=>by kernel_rfl,λxs w=>by kernel_rfl,h⟩
theorem I3 (u:Value){R:ByteArray->Hp->Prop}(h:Wc Tryz.prog 349 #[u] [.one .str] U R):iV Tryz.prog (.iface 224 u) "freehold/heap.name" [] [.one .str] U R :=
 ⟨224,u,349,rfl,λw=>by kernel_rfl,λxs w=>by kernel_rfl,h⟩
def nD (s:ByteArray):Prop:=(s.toList==(ByteArray.mk #[]).toList)=false
theorem R5 (p:Ph){R:ByteArray->Hp->Prop}(hR:∀s σ',bK U σ'->nD s->R s σ'):iV Tryz.prog (mK (some p)) "freehold/heap.name" [] [.one .str] U R := by
 cases p with
 | take k=>
  refine O0 _ (ZI.o ?_);unfold ZI.v;exact nw (cs:=[.int .i64 (k:Int)]) λv hz e hb=>hR _ v e (by unfold nD;decide +kernel)
 | cH k w=>
  refine Sf _ (YQ.o ?_);unfold YQ.v;exact nw (cs:=[.int .i64 (k:Int),.int .i64 (w:Int)]) λv hz e hb=>hR _ v e (by unfold nD;decide +kernel)
 | cJ k w=>
  refine Iv _ (Zc.o ?_);unfold Zc.v;exact nw (cs:=[.int .i64 (k:Int),.int .i64 (w:Int)]) λv hz e hb=>hR _ v e (by unfold nD;decide +kernel)
 | grow k w=>
  refine Mr _ (ZF.o ?_);unfold ZF.v;exact nw (cs:=[.int .i64 (k:Int),.int .i64 (w:Int)]) λv hz e hb=>hR _ v e (by unfold nD;decide +kernel)
 | fill=>
  refine Ij _ (ZH.o ?_);unfold ZH.v;exact nw (cs:=[]) λv hz e hb=>hR _ v e (by unfold nD;decide +kernel)
 | eI m=>
  refine Mn _ (ZA.o ?_);unfold ZA.v;exact nw (cs:=[.int .i64 (m:Int)]) λv hz e hb=>hR _ v e (by unfold nD;decide +kernel)
 | find x=>
  refine R6 _ (ZM.o ?_);unfold ZM.v;exact nw (cs:=[.int .i64 x]) λv hz e hb=>hR _ v e (by unfold nD;decide +kernel)
 | put k x=>
  refine Mx _ (ZX.o ?_);unfold ZX.v;exact nw (cs:=[.int .i64 (k:Int),.int .i64 x]) λv hz e hb=>hR _ v e (by unfold nD;decide +kernel)
 | back=>
  refine M3 _ (ZL.o ?_);unfold ZL.v;exact nw (cs:=[]) λv hz e hb=>hR _ v e (by unfold nD;decide +kernel)
 | dD s a=>
  refine MK _ (ZK.o ?_);unfold ZK.v;exact nw (cs:=[.int .i64 s,.int .i64 a]) λv hz e hb=>hR _ v e (by unfold nD;decide +kernel)
 | drain=>
  refine I3 _ (Zz.o ?_);unfold Zz.v;exact nw (cs:=[]) λv hz e hb=>hR _ v e (by unfold nD;decide +kernel)
def V5 (H:Hw)(thread:Int):Option Ph:=if 0<=thread/\thread<(H.bQ.length:Int)then(match H.bQ[thread.toNat]? with
 | some g=>g.ph
 | none=>none)else none
theorem OH (h:HH U F L H)(thread:Int){R:ByteArray->Hp->Prop}(hR:∀s σ',bK U σ'->(s.toList==(ByteArray.mk #[]).toList)=(V5 H thread).isNone->R s σ'):YX.c (aW L.p) thread U R:=by
 refine YX.o ?_;unfold YX.v;have i:V5 H thread=none->R (ByteArray.mk #[]) U:=λd=>hR _ U (Ext.refl _ _) (by rw[d];decide +kernel);refine Uf h (Q8 (λr w=>w=U/\r = !decide (0<=thread/\thread<(H.bQ.length:Int))) (λr w ⟨y,A⟩=>?_) λJ C=>cB rfl (yS h thread (C _ _ ⟨rfl,rfl⟩)));subst y;refine Q8 (λr B=>B=w/\r=(V5 H thread).isNone) (λr B ⟨y,b⟩=>?_) λJ1 j=>?_
 ·rw[y];cases d:V5 H thread with
  | none=>rw[d]at b;exact cD (by rw[b];rfl) (i d)
  | some p=>
   rw[d]at b;have a:=d;unfold V5 at a;split at a
   ·rename_i hth;obtain⟨t,rfl⟩:∃t:Nat,thread=(t:Int):=⟨thread.toNat,O⟩;have u:t<H.bQ.length:=by omega
    obtain⟨x,g,z,m⟩:=h.th u;rw[dE,m]at a;simp only at a;refine cB (by rw[b];rfl) (aG (h.hd.rS rfl (h.tR z m ?_)));rw[a];exact R5 p λs σ' e u=>hR s σ' e (by rw[d];exact u)
   ·cases a
 ·by_cases hth:0<=thread/\thread<(H.bQ.length:Int)
  ·obtain⟨t,rfl⟩:∃t:Nat,thread=(t:Int):=⟨thread.toNat,O⟩;have u:t<H.bQ.length:=by omega
   obtain⟨x,g,z,m⟩:=h.th u;refine cB (by rw[A,zJ hth];rfl) (aG (h.hd.rS rfl (h.tR z m ⟨uA _,j _ _ ⟨rfl,?_⟩⟩)));rw[G8];unfold V5;rw[zC hth,dE,m]
  ·refine cD (by rw[A,zM hth];rfl) (j _ _ ⟨rfl,?_⟩);unfold V5;rw[zB hth];rfl
def kR (H:Hw):Prop:=1<=H.cf.aF/\H.cf.threads=H.bQ.length/\mc H.tb
end Go.Ar
namespace Go.Ar
open Go Go.Vc Go.Proofs
open Go.Bu (eU)
variable {U u w w':Hp}{F B P Q:Rg}{L:dH}{H H':Hw}{t:Nat}{g:Th}
def Ua (H:Hw)(thread kind size align addr:Int)(H':Hw)(a e:Int):Prop:=
 (Kc H thread kind size align addr=.inl e/\e≠0/\H'=H/\a=0)\/∃t p n,Kc H thread kind size align addr=.inr (t,p)/\iy n (eN H t (some p)) t p H' a e
theorem EA (hso:H4)(h:HH U F L H)(hv:mc H.tb){thread kind size align addr:Int}{a e:Int}(hw:Ua H thread kind size align addr H' a e){R:Int->Int->Hp->Prop}
 (hR:∀σ' ts',Ext F U σ'->HH σ' (Grow F U) {L with ts:=ts'} H'->R a e σ'):Ya.c (aW L.p) thread kind size align addr U R:=by
 rcases hw with⟨hs,hne,rfl,rfl⟩|⟨t,p,n,hs,hr⟩
 ·exact Fc hso h hv thread kind size align addr (λi b _ σ' d g=>by
   rw[hs]at b;cases b;exact hR σ' L.ts d g) λt p b=>by rw[hs]at b;cases b
 ·exact Fc hso h hv thread kind size align addr (λi b=>by rw[hs]at b;cases b) λm j b=>by
   rw[hs]at b;cases b;exact⟨n,H',a,e,hr,hR⟩
theorem M4 (hso:H4)(h:HH U F L H)(hv:mc H.tb){thread size align:Int}{a e:Int}(hw:Ua H thread 0 size align 0 H' a e){R:Int->Int->Hp->Prop}
 (hR:∀σ' ts',Ext F U σ'->HH σ' (Grow F U) {L with ts:=ts'} H'->R a e σ'):YJ.c (aW L.p) thread size align U R:=by
 refine YJ.o ?_;unfold YJ.v;exact EA hso h hv hw hR
theorem RZ (hso:H4)(h:HH U F L H)(hv:mc H.tb){thread addr:Int}{a e:Int}(hw:Ua H thread 1 0 0 addr H' a e){R:aN}
 (hR:∀σ' ts',Ext F U σ'->HH σ' (Grow F U) {L with ts:=ts'} H'->R e σ'):Zg.c (aW L.p) thread addr U R:=by
 refine Zg.o ?_;unfold Zg.v;exact EA hso h hv hw hR
def Qr (H' H:Hw):Prop:=H'.tb=H.tb/\H'.cf=H.cf/\H'.bQ.length=H.bQ.length/\H'.bX.length=H.bX.length
theorem Qr.refl (H:Hw):Qr H H:=⟨rfl,rfl,rfl,rfl⟩
theorem Qr.trans {H1 H2 H3:Hw}(a:Qr H2 H1)(b:Qr H3 H2):Qr H3 H1:=⟨b.1.trans a.1,b.2.1.trans a.2.1,b.2.2.1.trans a.2.2.1,b.2.2.2.trans a.2.2.2⟩
theorem Ky (H:Hw)(t:Nat)(f:Th->Th):Qr (H.dS t f) H:=⟨rfl,rfl,by simp[Hw.dS],rfl⟩
theorem Kz (H:Hw)(k:Nat)(A:AR)(sp:Sp):Qr {H.cC k A with sp:=sp} H:=⟨rfl,rfl,rfl,by simp[Hw.cC]⟩
theorem Il (H:Hw)(k:Nat)(part:Nat->List Int)(j:Nat):Qr (KM H k part (List.range j)) H:=by
 induction j with
 | zero=>exact Qr.refl H
 | succ j ih=>
  rw[KO];split
  ·split
   ·exact ih
   ·exact ih.trans (Kz _ _ _ _)
  ·exact ih
theorem Lz (H:Hw)(own k:Nat)(xs:List Int):Qr (Hx H own k xs) H:=by
 unfold Hx;split
 ·split
  ·exact Kz _ _ _ H.sp
  ·refine Qr.trans ?_ (Il _ _ _ _);split
   ·exact Kz _ _ _ H.sp
   ·exact Qr.refl H
 ·exact Qr.refl H
theorem NZ (H:Hw)(t k:Nat)(x:Int):Qr (il H t k x) H:=by
 unfold il;simp only;split<;>split<;>exact⟨rfl,rfl,by simp[Hw.dS,Qz],rfl⟩
theorem JE (H:Hw)(t:Nat)(p:Ph):Qr (Wt H t p).1 H:=by
 cases p with
 | take k=>simp only[Wt];split<;>exact⟨rfl,rfl,by simp[Vk,Qz,Hw.dS,Hw.cC],by simp[Vk,Qz,Hw.dS,Hw.cC]⟩
 | cH k w=>
  simp only[Wt];split
  ·split
   ·exact(Kz _ _ _ H.sp).trans (Ky _ _ _)
   ·exact Qr.refl H
  ·exact Qr.refl H
 | cJ k w=>
  simp only[Wt];split
  ·exact Kz _ _ _ H.sp
  ·exact(Kz _ _ _ H.sp).trans (Ky _ _ _)
 | grow k w=>simp only[Wt];split<;>exact Kz _ _ _ _
 | fill=>
  simp only[Wt];split
  ·exact⟨rfl,rfl,by simp[Vk,Qz,Hw.dS,Hw.cC],by simp[Vk,Qz,Hw.dS,Hw.cC]⟩
  ·exact Qr.refl H
 | eI m=>simp only[Wt];split<;>exact⟨rfl,rfl,by simp[Vk,Qz,Hw.dS,Hw.cC],by simp[Vk,Qz,Hw.dS,Hw.cC]⟩
 | find x=>
  simp only[Wt,UA];split
  ·exact Qr.refl H
  ·split
   ·exact⟨rfl,rfl,rfl,rfl⟩
   ·exact Qr.trans (H2:={H with live:=Go.Vc.cS H.live x}) ⟨rfl,rfl,rfl,rfl⟩ (Ky _ _ _)
 | put k x=>exact NZ H t k x
 | back=>
  simp only[Wt];split
  ·exact(Ky _ _ _).trans (Lz _ _ _ _)
  ·exact Qr.refl H
 | dD s a=>
  simp only[Wt];split
  ·exact Kz _ _ _ H.sp
  ·exact Qr.refl H
 | drain=>exact Ky _ _ _
theorem Ui (H:Hw)(t:Nat)(p:Ph):Qr (Qq H t p) H:=(JE H t p).trans (Ky _ _ _)
theorem CY {n:Nat}{H H':Hw}{t:Nat}{p:Ph}{a e:Int}(h:iy n H t p H' a e):Qr H' H:=by
 induction h with
 | done=>exact Ui _ _ _
 | next _ _ _ ih=>exact(Ui _ _ _).trans ih
theorem kR.bR (h:kR H)(k:Qr H' H):kR H':=⟨by rw[k.2.1];exact h.1,by rw[k.2.1,k.2.2.1];exact h.2.1,by rw[k.1];exact h.2.2⟩
end Go.Ar