/- Texts joined. -/
import Derived.Test.YteihenagckcobaaGreatDoorE4
set_option linter.unusedVariables false
set_option linter.unusedSimpArgs false
namespace Go.Proofs
open Go.Vc
set_option maxRecDepth 100000
def Xv.h:Hn:=.q .o2 (.q (.q .o3 .aJ) (.q (.o 12) (.q (.q .o2 .aJ) (.q .o4 .l))))
def Xv.v (a:R2)(b:Int)(c:Hp)(d:Int->Int->Hp->Prop):Prop:=Xq.c a c λe f=>If (!e) (d 0 5 f) (bI a 9 f λh=>Lk .i64 (.ag 4) h b f λi=>aV #[.I 0,.I 0,.I 0,.I 0] 112 f λj k=>aR j 0 (.I ((i.getD (0,0,0,0)).1)) k λl=>aR j 1 (.I ((i.getD (0,0,0,0)).2.1)) l λm=>aR j 2 (.I ((i.getD (0,0,0,0)).2.2.1)) m λn=>aR j 3 (.I ((i.getD (0,0,0,0)).2.2.2)) n λo=>If (!i.isSome) (d 0 8 o) (aQ j 1 o λp=>d p 0 o))
theorem Xv.o {a b c d}(e:Xv.v a b c d):Xv.c a b c d:=Wa Tryz.func25 (x:=Xv.h) (R0 e)
def Xd.h:Hn:=.q .o1 (.q .o6 .l)
def Xd.v (a:R2)(b c:Int)(d:Hp)(e:aN):Prop:=Yv.c a d λf g=>Yl.c f b c g λh i=>e h i
theorem Xd.o {a b c d e}(f:Xd.v a b c d e):Xd.c a b c d e:=Wa Tryz.func27 (x:=Xd.h) (R0 f)
def YP.h:Hn:=.q .o2 (.q .gH .l)
def YP.v (a:R2)(b c d:Int)(e:Hp)(f:Int->Int->Hp->Prop):Prop:=XS.c a b 0 c d 0 e λg h i=>f g h i
theorem YP.o {a b c d e f}(g:YP.v a b c d e f):YP.c a b c d e f:=Wa Tryz.func43 (x:=YP.h) (R0 g)
def YE.h:Hn:=.q .o2 (.q .o8 .l)
def YE.v (a:R2)(b:Int)(c:Hp)(d:Int->Int->Hp->Prop):Prop:=Yv.c a c λe f=>YL.c e b f λg h i=>d g h i
theorem YE.o {a b c d}(e:YE.v a b c d):YE.c a b c d:=Wa Tryz.func49 (x:=YE.h) (R0 e)
def Xq.h:Hn:=.q .o1 (.q (.cR (.seq [.op,.op,.op,.cX true 6 (RI.ops 6),.op])) .l)
def Xq.v (a:R2)(b:Hp)(c:aO):Prop:=bV (λd e=>c d e) λf=>If (!a.isNone) (bE a 8 b λh=>f (decide (((h.len:Nat):Int)>0)) b) (f false b)
theorem Xq.o {a b c}(d:Xq.v a b c):Xq.c a b c:=Wa Tryz.func58 (x:=Xq.h) (R0 d)
def Yv.h:Hn:=.q .o1 (.q (.q .o3 .aK) (.q .o5 .l))
def Yv.v (a:R2)(b:Hp)(c:Option Addr->Hp->Prop):Prop:=Xq.c a b λd e=>If (!d) (c none e) (bF a 6 e λg=>c g e)
theorem Yv.o {a b c}(d:Yv.v a b c):Yv.c a b c:=Wa Tryz.func61 (x:=Yv.h) (R0 d)
def Zi.h:Hn:=.q .o1 (.q .gH .aL)
def Zi.v (a:R2)(b c:Int)(d:Hp)(e:aN):Prop:=XS.c a b 1 0 0 c d λf g h=>e g h
theorem Zi.o {a b c d e}(f:Zi.v a b c d e):Zi.c a b c d e:=Wa Tryz.func70 (x:=Zi.h) (R0 f)
def YZ.h:Hn:=.q .o2 (.q (.k (.q .o4 (.c .aM (.q .o5 (.c .aM (.q .gH .aK)))))) (.q .o4 (.q (.q .o2 .aK) (.q .o9 .aM))))
def YZ.v (a:R2)(b c d e f:Int)(g:Hp)(h:aN):Prop:=aV #[.I c,.I d,.I e,.I f] 123 g λi j=>Xq.c a j λk l=>If (!k) (h 5 l) (X7.c a b l λm n=>If (!m) (h 1 n) (bE a 8 n λp=>Ix p.a p.len b 3 λq=>bA q 2 n λr=>And (iW r) <| If (!(kg r)) (h 5 n) (aQ i 0 n λs=>aQ i 1 n λt=>aQ i 2 n λu=>aQ i 3 n λv=>Yn.c a s t u v n λw x=>And (iW w) <| If (kg w) (h 1 x) (bE a 8 x λz=>Ix z.a z.len b 3 λaa=>And (iW w) <| aR aa 2 (w) x λab=>h 0 ab))))
theorem YZ.o {a b c d e f g h}(i:YZ.v a b c d e f g h):YZ.c a b c d e f g h:=Wa Tryz.func72 (x:=YZ.h) (R0 i)
def YX.h:Hn:=.q .o3 (.q (.k (.q .o4 (.c (.q .o4 .l) (.q .o5 (.c (.q .o4 .l) (.q .gH (.c (.q .o4 .l) .l))))))) (.q (.o 17) (.q .o9 (.q (.cR (.tail 4 (RI.ops 4) [.op,.op])) .l))))
def YX.v (a:R2)(b:Int)(c:Hp)(d:Bool->Int->Int->Int->Hp->Prop):Prop:=aV #[.I 0,.I 0] 125 c λe f=>Xq.c a f λg h=>If (!g) (aR e 0 (.I 0) h λi=>aR e 1 (.I 0) i λj=>aQ e 0 j λk=>aQ e 1 j λl=>d false k l 5 j) (X7.c a b h λm n=>If (!m) (aR e 0 (.I 0) n λo=>aR e 1 (.I 0) o λp=>aQ e 0 p λq=>aQ e 1 p λr=>d false q r 1 p) (bE a 8 n λt=>Ix t.a t.len b 3 λu=>bA u 2 n λv=>And (iW v) <| If (kg v) (aR e 0 (.I 0) n λw=>aR e 1 (.I 0) w λx=>aQ e 0 x λy=>aQ e 1 x λz=>d false y z 5 x) (bE a 8 n λab=>Ix ab.a ab.len b 3 λac=>bA ac 2 n λad=>Zm.c a b (ad) n λae af ag ah=>aV #[.I 0,.I 0] 125 ah λai aj=>aR ai 0 (.I af) aj λak=>aR ai 1 (.I ag) ak λal=>bE a 8 al λan=>Ix an.a an.len b 3 λao=>And (iW ae) <| aR ao 2 (ae) al λap=>And (iW ae) <| aQ ai 0 ap λaq=>aQ ai 1 ap λar=>aR e 0 (.I aq) ap λau=>aR e 1 (.I ar) au λav=>aQ e 0 av λaw=>aQ e 1 av λax=>d (kg ae) aw ax 0 av)))
theorem YX.o {a b c d}(e:YX.v a b c d):YX.c a b c d:=Wa Tryz.func73 (x:=YX.h) (R0 e)
def XS.h:Hn:=.q .o3 (.q (.q .o5 (.q .o2 (.c (.q .o3 .l) .l))) (.k (.loop [] (.k (.q (.o 11) (.q .o1 (.c (.q (.oq 6) .l) .l)))))))
def XS.v (a:R2)(b c d e f:Int)(g:Hp)(h:Int->Int->Hp->Prop):Prop:=aV #[.I c,.I d,.I e,.I f] 123 g λi j=>aQ i 0 j λk=>aQ i 1 j λl=>aQ i 2 j λm=>aQ i 3 j λn=>YZ.c a b k l m n j λo p=>If (o != 0) (h 0 o p) (Ys [] (λq=>q p) λr s=>YX.c a b s λt u v w x=>aV #[.I 0,.I 0] 125 x λy z=>aR y 0 (.I u) z λaa=>aR y 1 (.I v) aa λab=>If t (aQ y 0 ab λac=>aQ y 1 ab λad=>h ac ad ab) (r ab))
theorem XS.o {a b c d e f g h}(i:XS.v a b c d e f g h):XS.c a b c d e f g h:=Wa Tryz.func81 (x:=XS.h) (R0 i)
def X6.h:Hn:=.q .o1 (.q (.q .o3 .aJ) (.q .o5 .l))
def X6.v (a:R2)(b:Hp)(c:Int->Int->Int->Int->Int->Hp->Prop):Prop:=aV #[.I 0,.I 0,.I 0,.I 0,.I 0] 23 b λd e=>Xq.c a e λf g=>If (!f) (aR d 0 (.I 0) g λh=>aR d 1 (.I 0) h λi=>aR d 2 (.I 0) i λj=>aR d 3 (.I 0) j λk=>aR d 4 (.I 0) k λl=>aQ d 0 l λm=>aQ d 1 l λn=>aQ d 2 l λo=>aQ d 3 l λp=>aQ d 4 l λq=>c m n o p q l) (bU a λr=>bM ((r.add 1).add 0) g λs=>bM ((r.add 1).add 1) g λt=>bM ((r.add 1).add 2) g λu=>bM ((r.add 1).add 3) g λv=>bM ((r.add 1).add 4) g λw=>aR d 0 (.I s) g λx=>aR d 1 (.I t) x λy=>aR d 2 (.I u) y λz=>aR d 3 (.I v) z λaa=>aR d 4 (.I w) aa λab=>aQ d 0 ab λac=>aQ d 1 ab λad=>aQ d 2 ab λae=>aQ d 3 ab λaf=>aQ d 4 ab λag=>c ac ad ae af ag ab)
theorem X6.o {a b c}(d:X6.v a b c):X6.c a b c:=Wa Tryz.func92 (x:=X6.h) (R0 d)
def Kn.h:Hn:=.q .o3 (.q (.k (.q .o4 (.c .aL (.q .o4 .aJ)))) (.q (.cR (.gA true [] [(6,.one .p)] (.take 0 (.take 2 (.all [(1,.all [(3,.take 4 (.all [(5,.take 6 (.done))]))]),(3,.all [(1,.take 4 (.all [(5,.take 6 (.done))]))])]))))) (.q .gH (.q (.q .o3 (.k (.loop [(36,.I)] (.q .o1 (.q (.c .l .l) (.q (.k (.q (.cR (.held true [7] (.take 0 (.take 1 (.take 2 (.take 3 (.take 4 (.take 5 (.take 6 (.all [(7,.take 8 (.take 9 (.take 10 (.take 11 (.take 12 (.done))))))])))))))))) (.o 11))) .o2)))))) (.q (.q .o3 (.k (.loop [(62,.I)] (.q .o1 (.q (.c .l .l) (.q (.k (.q .o9 (.o 12))) .o2)))))) (.q .o3 .l))))))
def Kn.v (a:Sl)(b c d e f:Int)(g:Hp)(h:Option Addr->Int->Hp->Prop):Prop:=aV #[.I b,.I c,.I d,.I e,.I f] 23 g λi j=>Zu.c a j λk l=>If (!k) (h none 2 l) (aQ i 0 l λm=>aQ i 1 l λn=>aQ i 2 l λo=>aQ i 3 l λp=>aQ i 4 l λq=>Qm.c m n o p q l λr s=>If (!r) (h none 1 s) (Jn [.p] (λ(t:R2) u=>aQ i 0 u λv=>QM.c v u λw x y=>bU t λz=>aR z 6 (.pointer w) y λaa=>aQ i 1 aa λab=>Ys [bN] (λac=>ac 0 aa) λad (ae:Int) af=>If (ae<ab) (eI af λag=>bU t λah=>aU ag ah 6 λai=>aS ag i 4 λaj=>QN.c a ai aj af λak al am=>bE t 7 am λao=>aV #[.pointer ak] 138 am λap aq=>App ao 1 8 138 [.pointer none] ⟨some ap,1,1⟩ aq λar au=>bU t λav=>aR av 7 (.slice ar.a ar.len ar.cap) au λaw=>bL (ae+1) λax=>ad ax aw) (aQ i 2 af λay=>Ys [bN] (λaz=>az 0 af) λa0 (a1:Int) a2=>If (a1<ay) (aQ i 3 a2 λa3=>QL.c a a3 a2 λa4 a5 a6=>bE t 8 a6 λa8=>aV #[.pointer a4,.slice none 0 0,.nilIface] 133 a6 λa9 ba=>App a8 3 48 133 [.pointer none,.slice none 0 0,.nilIface] ⟨some a9,1,1⟩ ba λbb bc=>bU t λbd=>aR bd 8 (.slice bb.a bb.len bb.cap) bc λbe=>bL (a1+1) λbf=>a0 bf be) (h t 0 a2))) λbg=>eI s λbh=>aS bh i 0 λbi=>aS bh i 1 λbj=>
 aS bh i 2 λbk=>aS bh i 3 λbl=>aS bh i 4 λbm=>(Wi.c a s λbn bo=>And (bh bo) <| Nw (.map #[] 0) bo λbp bq=>And (bh bq) <| aV #[.slice bn.a bn.len bn.cap,.I bi,.I bj,.I bk,.I bl,.I bm,.pointer none,.slice none 0 0,.slice none 0 0,.map (some bp.block)] 81 bq λbr bs=>And (bh bs) <| bg (some br) bs) ∧ (Nw (.map #[] 0) s λbt bu=>And (bh bu) <| Wi.c a bu λbv bw=>And (bh bw) <| aV #[.slice bv.a bv.len bv.cap,.I bi,.I bj,.I bk,.I bl,.I bm,.pointer none,.slice none 0 0,.slice none 0 0,.map (some bt.block)] 81 bw λbx bz=>And (bh bz) <| bg (some bx) bz)))
theorem Kn.o {a b c d e f g h}(i:Kn.v a b c d e f g h):Kn.c a b c d e f g h:=Wa Tryz.func101 (x:=Kn.h) (R0 i)
def X7.h:Hn:=.q .o1 (.q (.cR (.seq [.op,.op,.op,.cX true 7 (RI.ops 7),.op])) .l)
def X7.v (a:R2)(b:Int)(c:Hp)(d:aO):Prop:=bV (λe f=>d e f) λg=>If (b≥0) (bE a 8 c λi=>g (decide (b<((i.len:Nat):Int))) c) (g false c)
theorem X7.o {a b c d}(e:X7.v a b c d):X7.c a b c d:=Wa Tryz.func102 (x:=X7.h) (R0 e)
def Yn.h:Hn:=.q .o2 (.q (.q .o2 (.k (.q .o2 (.c (.q (.q (.cR (.seq [.op,.op,.op,.op,.cX false 3 (RI.ops 3)])) .aK) (.q (.cR (.held true [8] (.tk [0,1,2,3,4,5,6,7] (.all [(8,.tk [9,10,11,12,13] (.done))])))) (.q .o1 (.k (.q .o2 (.c (.q .o4 .l) (.q .o2 (.c (.q .o8 .l) .l)))))))) (.q .o2 (.c (.q .o5 .l) (.q .o2 (.c (.q .o3 .l) .l)))))))) .aM)
def Yn.v (a:R2)(b c d e:Int)(f:Hp)(g:Value->Hp->Prop):Prop:=aV #[.I b,.I c,.I d,.I e] 123 f λh i=>aQ h 0 i λj=>If (j==0) (aQ h 1 i λk=>bV (λl m=>If l (g (.nilIface) m) (eI m λn=>bU a λo=>aT n o 0 λp=>aS n h 1 λq=>aS n h 2 λr=>Z2.c p q r m λs t u=>If (t==0) (g (.iface 218 (.agg #[.I s])) u) (If (t==4) (aQ h 1 u λv=>bL (v+256) λw=>bL (w-1) λx=>Nz 256<|bL (x.tdiv 256) λy=>g (.iface 220 (.agg #[.I y])) u) (g (.nilIface) u)))) λz=>If (k<1) (z true i) (aQ h 1 i λaa=>z (decide (aa>16384)) i)) (If (j==1) (aQ h 3 i λab=>g (.iface 222 (.agg #[.I ab])) i) (If (j==2) (g (.iface 224 (.agg #[])) i) (g (.nilIface) i)))
theorem Yn.o {a b c d e f g}(h:Yn.v a b c d e f g):Yn.c a b c d e f g:=Wa Tryz.func103 (x:=Yn.h) (R0 h)
def Zm.h:Hn:=.q .o2 (.q .o7 (.q (.cR (.held true [] (.tk [0,1,2,3,4,5] (.all [(6,.take 7 (.all [(8,.take 9 (.done))]))])))) (.kh [] (.q .o1 (.k (.q .o3 (.c (.q .o2 (.q (.q (.cR (.held true [6] (.tk [0,1,2,3,4,5] (.all [(6,.tk [7,8,9,10,11] (.done))])))) (.q .o2 (.c (.q (.cR (.held true [17] (.tk [0,1,2,3,4,5,6,7,8,9,10,11,12] (.all [(13,.tk [14,15,16] (.all [(17,.done)]))])))) .l) .l))) (.q (.cR (.held true [6] (.tk [0,1,2,3,4,5] (.all [(6,.tk [7,8,9,10,11] (.done))])))) (.q .o8 .l)))) (.q .o3 (.c (.q .o2 (.kh [] (.q (.oq 12) (.c (.q .o9 (.q .o2 (.c (.q .o6 (.q .o5 .l)) .l))) .l)) (.q .o5 .l))) (.q .o3 (.c (.q .o2 (.q (.q (.o 11) (.q .o3 (.c (.q .o6 (.q .o5 .l)) .l))) (.q .o5 .l))) (.q .o3 (.c (.q .o2 (.q (.q .o5 (.q .o2 (.c (.q .o4 .l) .l))) (.q .o5 .l))) (.q .o3 (.c (.q .o2 (.q .o8 (.q .o4 (.q (.cR (.tail 9 (RI.ops 9) [.op])) (.q (.cR (.held true [20] (.tk [0,1,2,3,4,5,6,7,8,9,10,11,12,13,14,15] (.all [(16,.tk [17,18,19] (.all [(20,.done)]))])))) .l))))) (.q .o3 (.c (.q .o2 (.q .o9 (.q (.q .o2 (.c (.q .o4 .l) .l)) (.q (.o 11) .l)))) (.q .o3 (.c (.q .o2 (.q .o9 .l)) (.q .o3 (.c (.q .o2 (.kh [] (.q (.cR (.held true [8] (.tk [0,1,2,3,4,5,6,7] (.all [(8,.tk [9,10,11,12,13] (.done))])))) (.q .o3 (.c .o6 .l))) (.q .o9 (.kh [] (.q .o5 (.c (.cR (.held true [13] (.tk [0,1,2,3,4,5,6,7,8] (.all [(9,.all [(10,.take 11 (.take 12 (.all [(13,.done)])))])])))) .l)) (.q .o6 .l))))) (.q .o3 (.c (.q .o2 (.q .o8 (.q .gH (.q (.cR (.held true [5] (.take 0 (.take 1 (.take 2 (.take 4 (.all [(3,.all [(5,.done)])]))))))) (.q .o6 .l))))) (.q .o3 (.c (.q .o2 (.cR (.tail 10 (RI.ops 10) [.op]))) (.q .o3 (.c (.q .o2 (.q .o9 (.q .o6 .l))) .l)))))))))))))))))))))))) (.q .o3 .l))))
def Zm.v (a:R2)(b:Int)(c:Value)(d:Hp)(e:Value->Int->Int->Hp->Prop):Prop:=aV #[.I 0,.I 0] 125 d λf g=>bE a 8 g λi=>Ix i.a i.len b 3 λj=>eI g λk=>bU a λl=>aT k l 7 λm=>Zo.c a b g λn o=>And (k o) <| Ix m.a m.len n 1 λp=>fT p o λq=>And (k o) <| Jn [] (λr=>aR f 0 (.I 0) r λs=>aR f 1 (.I 0) s λt=>aQ f 0 t λu=>aQ f 1 t λv=>e (.nilIface) u v t) λw=>∃t52:Int,∃is:Bool,jZ c 218 [.I t52] [.I 0] is ∧ (If is (aV #[.I 0] 218 o λx y=>dN x (.I t52) y λz=>eI z λaa=>bU (some j) λab=>aU aa ab 0 λac=>aS aa x 0 λad=>X2.c ac ad z λae af ag=>If (af==0) (eI ag λah=>bU a λai=>aT ah ai 0 λaj=>aS ah x 0 λak=>Ix aj.a aj.len ak 3 λal=>aS ah al 0 λam=>aS ah x 0 λan=>YK.c a ae am an ag λao ap aq ar=>And (ah ar) <| aR f 0 (.I ap) ar λau=>aR f 1 (.I aq) au λav=>aQ f 0 av λaw=>aQ f 1 av λax=>e (ao) aw ax av) (eI ag λay=>bU (some j) λaz=>aU ay az 0 λa0=>aS ay x 0 λa1=>Ya.c a0 a1 ag λa2 a3 a4=>aQ x 0 a4 λa5=>aR f 0 (.I 0) a4 λa6=>aR f 1 (.I 0) a6 λa7=>aQ f 0 a7 λa8=>aQ f 1 a7 λa9=>e (.iface 228 (.agg #[.I a5,.I a2])) a8 a9 a7)) (∃t99:Int,∃t991:Int,∃is1:Bool,jZ c 228 [.I t99,.I t991] [.I 0,.I 0] is1 ∧
 (If is1 (aV #[.I 0,.I 0] 228 o λba bb=>aR ba 0 (.I t99) bb λbc=>aR ba 1 (.I t991) bc λbd=>Jn [] (λbe=>aQ ba 0 be λbf=>aQ ba 1 be λbg=>aR f 0 (.I 0) be λbh=>aR f 1 (.I 0) bh λbi=>aQ f 0 bi λbj=>aQ f 1 bi λbk=>e (.iface 231 (.agg #[.I bf,.I bg])) bj bk bi) λbl=>aQ ba 1 bd λbm=>bE a 0 bd λbo=>aQ ba 0 bd λbp=>Ix bo.a bo.len bp 3 λbq=>aQ bq 2 bd λbr=>If (bm==br) (aQ ba 0 bd λbs=>WA.c q bs bd λbt bu bv=>If (bu==0) (aQ ba 0 bv λbw=>Yd.c a b bw bt bv λbx=>aR f 0 (.I 0) bx λbz=>aR f 1 (.I 0) bz λb0=>aQ f 0 b0 λb1=>aQ f 1 b0 λb2=>e (.iface 230 (.agg #[])) b1 b2 b0) (bl bv)) (bl bd)) (∃t135:Int,∃t1351:Int,∃is2:Bool,jZ c 231 [.I t135,.I t1351] [.I 0,.I 0] is2 ∧ (If is2 (aV #[.I 0,.I 0] 231 o λb3 b4=>aR b3 0 (.I t135) b4 λb5=>aR b3 1 (.I t1351) b5 λb6=>aQ b3 0 b6 λb7=>aQ b3 1 b6 λb8=>WB.c q b7 b8 b6 λb9 ca cb=>If (((b9.len:Nat):Int)>0) (aQ b3 0 cb λcc=>Yd.c a b cc b9 cb λcd=>aR f 0 (.I 0) cd λce=>aR f 1 (.I 0) ce λcf=>aQ f 0 cf λcg=>aQ f 1 cf λch=>e (.iface 230 (.agg #[])) cg ch cf) (aQ b3 0 cb λci=>aQ b3 1 cb λcj=>aR f 0 (.I 0) cb λck=>aR f 1 (.I 0) ck λcl=>aQ f 0 cl λcm=>aQ f 1 cl λcn=>
 e (.iface 233 (.agg #[.I ci,.I cj])) cm cn cl)) (∃t162:Int,∃t1621:Int,∃is3:Bool,jZ c 233 [.I t162,.I t1621] [.I 0,.I 0] is3 ∧ (If is3 (aV #[.I 0,.I 0] 233 o λco cp=>aR co 0 (.I t162) cp λcq=>aR co 1 (.I t1621) cq λcr=>aQ co 0 cr λcs=>XQ.c q cs cr λct cu=>If (ct != 0) (aR f 0 (.I 0) cu λcv=>aR f 1 (.I ct) cv λcw=>aQ f 0 cw λcx=>aQ f 1 cw λcy=>e (.nilIface) cx cy cw) (aQ co 0 cu λcz=>aQ co 1 cu λc0=>aR f 0 (.I 0) cu λc1=>aR f 1 (.I 0) c1 λc2=>aQ f 0 c2 λc3=>aQ f 1 c2 λc4=>e (.iface 231 (.agg #[.I cz,.I c0])) c3 c4 c2)) (∃is4:Bool,jZ c 230 [] [] is4 ∧ (If is4 (aV #[] 230 o λc5 c6=>bE (some j) 1 c6 λc8=>Ix c8.a c8.len 0 2 λc9=>aQ c9 0 c6 λda=>aX c9 1 c6 λdb=>aV #[.I 0,.slice none 0 0] 135 c6 λdc dd=>aR dc 0 (.I da) dd λde=>aR dc 1 (.slice db.a db.len db.cap) de λdf=>bU (some j) λdg=>aR dg 1 (.slice none 0 0) df λdh=>bF (some j) 0 dh λdj=>aQ dc 0 dh λdk=>aX dc 1 dh λdl=>eX dl 1 1 (dl.len:Nat) (dl.cap:Nat) λdm=>XZ.c dj dk dm dh λdn dp=>eI dp λdq=>aT dq dc 1 λdr=>Ix dr.a dr.len 0 1 λds=>gE dq bN ds λ(dt:Int)=>bU a λdu=>aT dq du 0 λdv=>aS dq dc 0 λdw=>Ix dv.a dv.len dw 3 λdx=>aS dq dx 0 λdy=>
 aS dq dc 0 λdz=>YK.c a dt dy dz dp λd0 d1 d2 d3=>And (dq d3) <| aR f 0 (.I d1) d3 λd4=>aR f 1 (.I d2) d4 λd5=>aQ f 0 d5 λd6=>aQ f 1 d5 λd7=>e (d0) d6 d7 d5) (∃t217:Int,∃is5:Bool,jZ c 220 [.I t217] [.I 0] is5 ∧ (If is5 (aV #[.I 0] 220 o λd8 d9=>dN d8 (.I t217) d9 λea=>aQ d8 0 ea λeb=>WK.c q eb 1 ea λec ed ee=>If (ed != 0) (aR f 0 (.I 0) ee λef=>aR f 1 (.I ed) ef λeg=>aQ f 0 eg λeh=>aQ f 1 eg λei=>e (.nilIface) eh ei eg) (bL (ec*256) λej=>aQ d8 0 ee λek=>bL (ek*256) λel=>YK.c a ej el (-1) ee λem en eo ep=>aR f 0 (.I en) ep λeq=>aR f 1 (.I eo) eq λer=>aQ f 0 er λes=>aQ f 1 er λet=>e (em) es et er)) (∃t240:Int,∃is6:Bool,jZ c 222 [.I t240] [.I 0] is6 ∧ (If is6 (aV #[.I 0] 222 o λeu ev=>dN eu (.I t240) ev λew=>aQ eu 0 ew λex=>Zj.c a b ex ew λey ez e0 e1=>aR f 0 (.I ez) e1 λe2=>aR f 1 (.I e0) e2 λe3=>aQ f 0 e3 λe4=>aQ f 1 e3 λe5=>e (ey) e4 e5 e3) (∃t250:Int,∃t2501:Int,∃is7:Bool,jZ c 238 [.I t250,.I t2501] [.I 0,.I 0] is7 ∧ (If is7 (aV #[.I 0,.I 0] 238 o λe6 e7=>aR e6 0 (.I t250) e7 λe8=>aR e6 1 (.I t2501) e8 λe9=>Jn [] (λfa=>bE (some j) 1 fa λfc=>eX fc 2 1 (fc.len:Nat) (fc.cap:Nat) λfd=>bU (some j) λfe=>aR fe 1 (.slice fd.a fd.len fd.cap) fa λff=>Jn [] (λfg=>
 WV.c a b fg λfh fi=>aR f 0 (.I 0) fi λfj=>aR f 1 (.I 0) fj λfk=>aQ f 0 fk λfl=>aQ f 1 fk λfm=>e (fh) fl fm fk) λfn=>bF (some j) 0 ff λfp=>XW.c fp ff λfq fr=>If fq (eI fr λfs=>bU (some j) λft=>aT fs ft 1 λfu=>bU (some j) λfv=>aU fs fv 0 λfw=>WY.c fw fr λfx fy=>And (fs fy) <| App fu 2 32 135 [.I 0,.slice none 0 0] fx fy λfz f0=>And (fs f0) <| bU (some j) λf1=>aR f1 1 (.slice fz.a fz.len fz.cap) f0 λf2=>fn f2) (fn fr)) λf3=>eI e9 λf4=>bU (some j) λf5=>aU f4 f5 0 λf6=>aS f4 e6 0 λf7=>aS f4 e6 1 λf8=>Yz.c f6 f7 f8 e9 λf9 ga gb=>If (((f9.len:Nat):Int)>0) (aQ e6 0 gb λgc=>Yd.c a b gc f9 gb λgd=>f3 gd) (f3 gb)) (∃is8:Bool,jZ c 241 [] [] is8 ∧ (If is8 (aV #[] 241 o λge gf=>bE (some j) 1 gf λgh=>Ix gh.a gh.len 0 2 λgi=>aQ gi 0 gf λgj=>aX gi 1 gf λgk=>aV #[.I 0,.slice none 0 0] 135 gf λgl gm=>aR gl 0 (.I gj) gm λgn=>aR gl 1 (.slice gk.a gk.len gk.cap) gn λgo=>bE (some j) 1 go λgq=>eX gq 2 1 (gq.len:Nat) (gq.cap:Nat) λgr=>Wq.c gr go λgs gt=>bU (some j) λgu=>aR gu 1 (.slice gs.a gs.len gs.cap) gt λgv=>eI gv λgw=>aS gw gl 0 λgx=>aT gw gl 1 λgy=>Zo.c a b gv λgz g0=>And (gw g0) <| Zg.c a gz gx gy g0 λg1=>
 WV.c a b g1 λg2 g3=>aR f 0 (.I 0) g3 λg4=>aR f 1 (.I 0) g4 λg5=>aQ f 0 g5 λg6=>aQ f 1 g5 λg7=>e (g2) g6 g7 g5) (∃t332:Int,∃t3321:Int,∃is9:Bool,jZ c 245 [.I t332,.I t3321] [.I 0,.I 0] is9 ∧ (If is9 (aV #[.I 0,.I 0] 245 o λg8 g9=>aR g8 0 (.I t332) g9 λha=>aR g8 1 (.I t3321) ha λhb=>bE a 7 hb λhd=>aQ g8 1 hb λhe=>Ix hd.a hd.len he 1 λhf=>fT hf hb λhg=>aQ g8 0 hb λhh=>WM.c hg hh hb λhi hj=>w hj) (∃is10:Bool,jZ c 224 [] [] is10 ∧ (If is10 (aV #[] 224 o λhk hl=>bF (some j) 0 hl λhn=>Xx.c hn hl λho hp=>bU (some j) λhq=>aR hq 1 (.slice ho.a ho.len ho.cap) hp λhr=>WV.c a b hr λhs ht=>aR f 0 (.I 0) ht λhu=>aR f 1 (.I 0) hu λhv=>aQ f 0 hv λhw=>aQ f 1 hv λhx=>e (hs) hw hx hv) (w o))))))))))))))))))))))
theorem Zm.o {a b c d e}(f:Zm.v a b c d e):Zm.c a b c d e:=Wa Tryz.func104 (x:=Zm.h) (R0 f)
def YT.h:Hn:=.q .o1 (.q (.q (.cR (.seq [.op,.op,.op,.op,.cX false 4 (RI.ops 4),.op,.cX false 9 (RI.ops 9)])) .aK) (.q .gH .l))
def YT.v (a:R2)(b:Int)(c:Hp)(d:ByteArray->Hp->Prop):Prop:=Xq.c a c λe f=>bV (λg h=>bV (λi j=>If i (d (ByteArray.mk #[]) j) (bE a 8 j λl=>Ix l.a l.len b 3 λm=>bA m 2 j λn=>iT Tryz.prog n "freehold/heap.name" [] [.one .str] j fun t33 v3 =>d t33 v3)) λo=>If g (o true h) (bE a 8 h λq=>Ix q.a q.len b 3 λr=>bA r 2 h λs=>And (iW s) <| o (kg s) h)) λt=>If (!e) (t true f) (X7.c a b f λu v=>t (!u) v)
theorem YT.o {a b c d}(e:YT.v a b c d):YT.c a b c d:=Wa Tryz.func131 (x:=YT.h) (R0 e)
def Qm.h:Hn:=.q .o2 (.q (.cR (.seq [.op,.op,.op,.op,.cX true 3 (RI.ops 3),.op,.cX true 4 (RI.ops 4),.op,.cX true 3 (RI.ops 3),.op,.cX true 3 (RI.ops 3),.op,.cX true 3 (RI.ops 3),.op,.cX true 3 (RI.ops 3),.op,.cX true 3 (RI.ops 3),.op,.cX true 3 (RI.ops 3),.op,.cX true 3 (RI.ops 3),.op,.cX true 3 (RI.ops 3),.op])) .l)
def Qm.v (a b c d e:Int)(f:Hp)(g:aO):Prop:=aV #[.I a,.I b,.I c,.I d,.I e] 23 f λh i=>aQ h 0 i λj=>bV (λk l=>bV (λm n=>bV (λo p=>bV (λq r=>bV (λs t=>bV (λu v=>bV (λw x=>bV (λy z=>bV (λaa ab=>bV (λac ad=>g ac ad) λae=>If aa (aQ h 4 ab λaf=>ae (decide (af<=8)) ab) (ae false ab)) λag=>If y (aQ h 4 z λah=>ag (decide (ah≥0)) z) (ag false z)) λai=>If w (aQ h 3 x λaj=>ai (decide (aj<=65536)) x) (ai false x)) λak=>If u (aQ h 3 v λal=>ak (decide (al≥0)) v) (ak false v)) λam=>If s (aQ h 2 t λan=>am (decide (an<=4)) t) (am false t)) λao=>If q (aQ h 2 r λap=>ao (decide (ap≥1)) r) (ao false r)) λaq=>If o (aQ h 1 p λar=>aq (decide (ar<=4)) p) (aq false p)) λau=>If m (aQ h 1 n λav=>au (decide (av≥1)) n) (au false n)) λaw=>If k (aQ h 0 l λax=>Nz 16 <| aw ((ax.tmod 16)==0) l) (aw false l)) λay=>If (j≥32) (aQ h 0 i λaz=>ay (decide (az<=1024)) i) (ay false i)
theorem Qm.o {a b c d e f g}(h:Qm.v a b c d e f g):Qm.c a b c d e f g:=Wa Tryz.func141 (x:=Qm.h) (R0 h)
def Zo.h:Hn:=.q .o1 (.q .o8 .l)
def Zo.v (a:R2)(b:Int)(c:Hp)(d:aN):Prop:=bE a 7 c λf=>Nz ((f.len:Nat):Int) <| d (b.tmod ((f.len:Nat):Int)) c
theorem Zo.o {a b c d}(e:Zo.v a b c d):Zo.c a b c d:=Wa Tryz.func146 (x:=Zo.h) (R0 e)
def YK.h:Hn:=.q .o2 (.q (.cR (.held true [12] (.tk [0,1,2,3,4,5,6,7,8,9] (.all [(10,.take 11 (.all [(12,.done)]))])))) (.q .o4 .l))
def YK.v (a:R2)(b c d:Int)(e:Hp)(f:Value->Int->Int->Hp->Prop):Prop:=aV #[.I 0,.I 0] 125 e λg h=>eI h λi=>bU a λj=>gE i .m (j.add 9) λ(k:Option Nat)=>XT.c a b h λl m=>And (i m) <| kq .i64 (.ag 4) k b (b,c,d,l) m λn=>aR g 0 (.I b) n λo=>aR g 1 (.I 0) o λp=>aQ g 0 p λq=>aQ g 1 p λr=>f (.nilIface) q r p
theorem YK.o {a b c d e f}(g:YK.v a b c d e f):YK.c a b c d e f:=Wa Tryz.func148 (x:=YK.h) (R0 g)
def Yd.h:Hn:=.cR (.held true [20] (.tk [0,1,2,3,4,5,6,7,8,9,10,11,12,13,14,15] (.all [(16,.all [(17,.take 18 (.take 19 (.all [(20,.done)])))])])))
def Yd.v (a:R2)(b c:Int)(d:Sl)(e:Hp)(f:aP):Prop:=eI e λg=>bU a λh=>aT g h 8 λi=>bU a λj=>aT g j 8 λk=>Ix k.a k.len b 3 λl=>aT g l 1 λm=>aV #[.I c,.slice d.a d.len d.cap] 135 e λn o=>And (g o) <| App m 2 32 135 [.I 0,.slice none 0 0] ⟨some n,1,1⟩ o λp q=>And (g q) <| Ix i.a i.len b 3 λr=>aR r 1 (.slice p.a p.len p.cap) q λs=>f s
theorem Yd.o {a b c d e f}(g:Yd.v a b c d e f):Yd.c a b c d e f:=Wa Tryz.func151 (x:=Yd.h) (R0 g)
def Zj.h:Hn:=.q .o2 (.q (.o 12) (.q (.q .o2 (.c (.kh [] (.q .o4 (.q .o2 (.c (.q (.o 16) (.q (.cR (.seq [.op,.op,.op,.cX true 2 [.op,.op],.op,.cX true 3 (RI.ops 3)])) (.c (.q .o3 .l) .l))) .l))) (.q .o3 .l)) .l)) (.q .o6 (.q (.q .o3 (.c (.q .o9 .l) .l)) (.q .o7 (.q .o8 .l))))))
def Zj.v (a:R2)(b c:Int)(d:Hp)(e:Value->Int->Int->Hp->Prop):Prop:=aV #[.I 0,.I 0] 125 d λf g=>bI a 9 g λi=>Lk .i64 (.ag 4) i c g λj=>aV #[.I 0,.I 0,.I 0,.I 0] 112 g λk l=>aR k 0 (.I ((j.getD (0,0,0,0)).1)) l λm=>aR k 1 (.I ((j.getD (0,0,0,0)).2.1)) m λn=>aR k 2 (.I ((j.getD (0,0,0,0)).2.2.1)) n λo=>aR k 3 (.I ((j.getD (0,0,0,0)).2.2.2)) o λp=>If (!j.isSome) (Jn [] (λq=>aR f 0 (.I 0) q λr=>aR f 1 (.I 8) r λs=>aQ f 0 s λt=>aQ f 1 s λu=>e (.nilIface) t u s) λv=>XT.c a c p λw x=>If (w≥0) (bE a 7 x λz=>Ix z.a z.len w 1 λaa=>fT aa x λab=>YI.c ab c x λac ad ae af=>bV (λag ah=>bV (λai aj=>If ai (aR f 0 (.I 0) aj λak=>aR f 1 (.I 9) ak λal=>aQ f 0 al λam=>aQ f 1 al λan=>e (.nilIface) am an al) (v aj)) λao=>If ag (ao (ad==c) ah) (ao false ah)) λap=>If (ae==0) (ap (decide (ac≥0)) af) (ap false af)) (v x)) (bI a 9 p λar=>lx .i64 (.ag 4) ar c p λau=>aQ k 2 au λav=>If (av<0) (Nz 256<|bL (c.tdiv 256) λaw=>aQ k 3 au λax=>aR f 0 (.I 0) au λay=>aR f 1 (.I 0) ay λaz=>aQ f 0 az λa0=>aQ f 1 az λa1=>e (.iface 245 (.agg #[.I aw,.I ax])) a0 a1 az) (aQ k 2 au λa2=>aV #[.I c] 3 au λa3 a4=>Yd.c a b a2 ⟨some a3,1,1⟩ a4 λa5=>aQ k 2 a5 λa6=>aR f 0 (.I 0) a5 λa7=>
 aR f 1 (.I 0) a7 λa8=>aQ f 0 a8 λa9=>aQ f 1 a8 λba=>e (.iface 238 (.agg #[.I a6,.I c])) a9 ba a8))
theorem Zj.o {a b c d e}(f:Zj.v a b c d e):Zj.c a b c d e:=Wa Tryz.func156 (x:=Zj.h) (R0 f)
def WV.h:Hn:=.q .o1 (.q (.q .gH .aK) (.q .o3 .l))
def WV.v (a:R2)(b:Int)(c:Hp)(d:Value->Hp->Prop):Prop:=bE a 8 c λf=>Ix f.a f.len b 3 λg=>aX g 1 c λh=>If (((h.len:Nat):Int)==0) (d (.nilIface) c) (d (.iface 241 (.agg #[])) c)
theorem WV.o {a b c d}(e:WV.v a b c d):WV.c a b c d:=Wa Tryz.func160 (x:=WV.h) (R0 e)
def Zg.h:Hn:=.q .o1 (.q .o7 (.q (.q .o4 (.k (.loop [(23,.I)] (.q .o1 (.q (.c .l .l) (.q (.k (.q .o3 (.q .o4 (.o 11)))) .o2)))))) (.kh [] (.q (.oq 9) (.c (.q (.cR (.held true [] (.tk [0,1,2,3,4,5,6,7,8,9,10] (.all [(11,.tk [12,13,14,15,16] (.done))])))) (.q (.cR (.seq [.op,.op,.cX true 2 [.op,.op]])) (.c .l .l))) .l)) (.q .o3 (.k (.loop [(72,.I)] (.q .o1 (.q (.c .l .l) (.q (.k (.q .o5 (.q .o3 (.c (.cR (.tail 10 (RI.ops 10) [.op])) .l)))) .o2)))))))))
def Zg.v (a:R2)(b c:Int)(d:Sl)(e:Hp)(f:aP):Prop:=aV #[.I c,.slice d.a d.len d.cap] 135 e λg h=>bU a λi=>aX i 7 h λj=>Mk ((j.len:Nat):Int) ((j.len:Nat):Int) 24 34 [.slice none 0 0] h λk l=>aX g 1 l λm=>Ys [bN] (λn=>n 0 l) λo (p:Int) q=>If (p<((m.len:Nat):Int)) (Ix m.a m.len p 1 λr=>bM r q λs=>XT.c a s q λt u=>Ix k.a k.len t 1 λv=>jq v u λw=>aV #[.I s] 3 u λx y=>App w 1 8 3 [.I 0] ⟨some x,1,1⟩ y λz aa=>Ix k.a k.len t 1 λab=>dN ab (.slice z.a z.len z.cap) aa λac=>bL (p+1) λad=>o ad ac) (Jn [] (λae=>Ys [bN] (λaf=>af 0 ae) λag (ah:Int) ai=>If (ah<((k.len:Nat):Int)) (Ix k.a k.len ah 1 λaj=>jq aj ai λak=>If (((ak.len:Nat):Int)>0) (bE a 7 ai λam=>Ix am.a am.len ah 1 λan=>fT an ai λao=>aQ g 0 ai λap=>WN.c ao ap ak ai λaq ar=>bL (ah+1) λau=>ag au ar) (bL (ah+1) λav=>ag av ai)) (f ai)) λaw=>Ix k.a k.len b 1 λax=>jq ax q λay=>aX g 1 q λaz=>If (((ay.len:Nat):Int)==((az.len:Nat):Int)) (eI q λa0=>bU a λa1=>aT a0 a1 7 λa2=>Ix a2.a a2.len b 1 λa3=>gE a0 .p a3 λ(a4:R2)=>aS a0 g 0 λa5=>aT a0 g 1 λa6=>WF.c a4 a5 a6 q λa7 a8 a9=>And (a0 a9) <| bV (λba bb=>If ba (f bb) (aw bb)) λbc=>If a7 (bc (a8==0) a9) (bc false a9)) (aw q))
theorem Zg.o {a b c d e f}(g:Zg.v a b c d e f):Zg.c a b c d e f:=Wa Tryz.func162 (x:=Zg.h) (R0 g)
def XT.h:Hn:=.q .o2 (.q (.q .o2 .aK) (.q .o7 .l))
def XT.v (a:R2)(b:Int)(c:Hp)(d:aN):Prop:=aV #[.I b] 3 c λe f=>bM e f λg=>If (g<0) (d (-1) f) (bE a 7 f λi=>Wk.c i ⟨250,#[],#[.pointer (some e)]⟩ f λj k=>d j k)
theorem XT.o {a b c d}(e:XT.v a b c d):XT.c a b c d:=Wa Tryz.func205 (x:=XT.h) (R0 e)
def YQ.h:Hn:=.q .o1 (.q .o5 .l)
def YQ.v (a:R2)(b:Addr)(c:Hp)(d:aO):Prop:=bM b c λe=>Nz 256<|bL (e.tdiv 256) λf=>YN.c a f c λg h=>d g h
theorem YQ.o {a b c d}(e:YQ.v a b c d):YQ.c a b c d:=Wa Tryz.func250 (x:=YQ.h) (R0 e)
def ZH.h:Hn:=.q .o2 .aM
def ZH.v (a:Int)(b:Hp)(c:ByteArray->Hp->Prop):Prop:=aV #[.I a] 218 b λd e=>c (ByteArray.mk #[116,97,107,101]) e
theorem ZH.o {a b c}(d:ZH.v a b c):ZH.c a b c:=Wa Tryz.func346 (x:=ZH.h) (R0 d)
def ZA.h:Hn:=.q .o2 .aM
def ZA.v (a:Int)(b:Hp)(c:ByteArray->Hp->Prop):Prop:=aV #[.I a] 220 b λd e=>c (ByteArray.mk #[108,97,114,103,101]) e
theorem ZA.o {a b c}(d:ZA.v a b c):ZA.c a b c:=Wa Tryz.func347 (x:=ZA.h) (R0 d)
def ZM.h:Hn:=.q .o2 .aM
def ZM.v (a:Int)(b:Hp)(c:ByteArray->Hp->Prop):Prop:=aV #[.I a] 222 b λd e=>c (ByteArray.mk #[102,105,110,100]) e
theorem ZM.o {a b c}(d:ZM.v a b c):ZM.c a b c:=Wa Tryz.func348 (x:=ZM.h) (R0 d)
def ZC.h:Hn:=.q .o2 .aM
def ZC.v (a:Hp)(b:ByteArray->Hp->Prop):Prop:=aV #[] 224 a λc d=>b (ByteArray.mk #[100,114,97,105,110]) d
theorem ZC.o {a b}(c:ZC.v a b):ZC.c a b:=Wa Tryz.func349 (x:=ZC.h) (R0 c)
def YR.h:Hn:=.q .o2 .aM
def YR.v (a b:Int)(c:Hp)(d:ByteArray->Hp->Prop):Prop:=aV #[.I a,.I b] 228 c λe f=>d (ByteArray.mk #[116,114,97,110,115,102,101,114]) f
theorem YR.o {a b c d}(e:YR.v a b c d):YR.c a b c d:=Wa Tryz.func350 (x:=YR.h) (R0 e)
def ZL.h:Hn:=.q .o2 .aM
def ZL.v (a:Hp)(b:ByteArray->Hp->Prop):Prop:=aV #[] 230 a λc d=>b (ByteArray.mk #[102,105,108,108]) d
theorem ZL.o {a b}(c:ZL.v a b):ZL.c a b:=Wa Tryz.func351 (x:=ZL.h) (R0 c)
def Zc.h:Hn:=.q .o2 .aM
def Zc.v (a b:Int)(c:Hp)(d:ByteArray->Hp->Prop):Prop:=aV #[.I a,.I b] 231 c λe f=>d (ByteArray.mk #[99,101,110,116,114,97,108]) f
theorem Zc.o {a b c d}(e:Zc.v a b c d):Zc.c a b c d:=Wa Tryz.func352 (x:=Zc.h) (R0 e)
def ZN.h:Hn:=.q .o2 .aM
def ZN.v (a b:Int)(c:Hp)(d:ByteArray->Hp->Prop):Prop:=aV #[.I a,.I b] 233 c λe f=>d (ByteArray.mk #[103,114,111,119]) f
theorem ZN.o {a b c d}(e:ZN.v a b c d):ZN.c a b c d:=Wa Tryz.func353 (x:=ZN.h) (R0 e)
def ZY.h:Hn:=.q .o2 .aM
def ZY.v (a b:Int)(c:Hp)(d:ByteArray->Hp->Prop):Prop:=aV #[.I a,.I b] 238 c λe f=>d (ByteArray.mk #[112,117,116]) f
theorem ZY.o {a b c d}(e:ZY.v a b c d):ZY.c a b c d:=Wa Tryz.func354 (x:=ZY.h) (R0 e)
def ZO.h:Hn:=.q .o2 .aM
def ZO.v (a:Hp)(b:ByteArray->Hp->Prop):Prop:=aV #[] 241 a λc d=>b (ByteArray.mk #[98,97,99,107]) d
theorem ZO.o {a b}(c:ZO.v a b):ZO.c a b:=Wa Tryz.func355 (x:=ZO.h) (R0 c)
def ZJ.h:Hn:=.q .o2 .aM
def ZJ.v (a b:Int)(c:Hp)(d:ByteArray->Hp->Prop):Prop:=aV #[.I a,.I b] 245 c λe f=>d (ByteArray.mk #[103,105,118,101]) f
theorem ZJ.o {a b c d}(e:ZJ.v a b c d):ZJ.c a b c d:=Wa Tryz.func356 (x:=ZJ.h) (R0 e)
end Go.Proofs
namespace Go.Ar
open Go Go.Vc Go.Proofs
def mH:Option Ph->Value
 | none=>.nilIface
 | some (.take k)=>.iface 218 (.agg #[.int .i64 (k:Int)])
 | some (.cH k w)=>.iface 228 (.agg #[.int .i64 (k:Int),.int .i64 (w:Int)])
 | some (.cJ k w)=>.iface 231 (.agg #[.int .i64 (k:Int),.int .i64 (w:Int)])
 | some (.grow k w)=>.iface 233 (.agg #[.int .i64 (k:Int),.int .i64 (w:Int)])
 | some .fill=>.iface 230 (.agg #[])
 | some (.eD m)=>.iface 220 (.agg #[.int .i64 (m:Int)])
 | some (.find x)=>.iface 222 (.agg #[.int .i64 x])
 | some (.put k x)=>.iface 238 (.agg #[.int .i64 (k:Int),.int .i64 x])
 | some .back=>.iface 241 (.agg #[])
 | some (.dC s a)=>.iface 245 (.agg #[.int .i64 s,.int .i64 a])
 | some .drain=>.iface 224 (.agg #[])
theorem ue (p:Option Ph):iW (mH p):=by
 cases p with
 | none=>exact .inl rfl
 | some p=>cases p<;>exact .inr ⟨_,_,rfl⟩
theorem GY (p:Option Ph):kg (mH p)=p.isNone:=by
 cases p with
 | none=>rfl
 | some p=>cases p<;>rfl
inductive kC where
 | hd|dD|sp|fL|cN|live
 | ar (k:Nat)
 | ca (k:Nat)
 | hn (k:Nat)
 deriving DecidableEq
structure eH where
 c:gN
 h:Sl
structure dK where
 p:Nat
 hs:Nat
 lm:Nat
 dD:Sl
 fL:Sl
 cN:Sl
 ys:List Lay
 ts:List eH
def xm (L:dK)(c:Cf):List Value:=[.slice L.dD.a L.dD.len L.dD.cap,.int .i64 (c.aF:Int),.int .i64 (c.hU:Int),.int .i64 (c.threads:Int),.int .i64 (c.dA:Int),.int .i64 (c.room:Int),
 .pointer (some ⟨L.hs,0,none⟩),.slice L.fL.a L.fL.len L.fL.cap,.slice L.cN.a L.cN.len L.cN.cap,.map (some L.lm)]
def jj (x:eH×Th):List Value:=[.pointer (some ⟨x.1.c.p,0,none⟩),.slice x.1.h.a x.1.h.len x.1.h.cap,mH x.2.ph]
def gR (ts:List eH)(bQ:List Th):List Value:=(ts.zip bQ).flatMap jj
theorem Ho:∀{ts:List eH} {bQ:List Th},ts.length=bQ.length->(gR ts bQ).length=bQ.length*3
 | [],[],_=>rfl
 | x::ts,h::bQ,e=>by
  have e1:gR (x::ts) (h::bQ)=jj (x,h)++gR ts bQ:=rfl;have a:(jj (x,h)).length=3:=rfl;rw[e1,zO,Ho (by simpa using e),a,zY];omega
 | [],_::_,e=>by simp at e
 | _::_,[],e=>by simp at e
theorem Ch:∀{ts:List eH} {bQ:List Th} {i:Nat} {x:eH} {h:Th},ts[i]?=some x->bQ[i]?=some h->∀{d:Nat},d<3->(gR ts bQ)[3*i+d]?=(jj (x,h))[d]?
 | [],_,_,_,_,h1,_,_,_=>by simp at h1
 | _::_,[],_,_,_,_,h2,_,_=>by simp at h2
 | y::ts,g::bQ,0,x,h,h1,h2,d,hd=>by
  have e1:gR (y::ts) (g::bQ)=jj (y,g)++gR ts bQ:=rfl;have a:(jj (y,g)).length=3:=rfl;simp at h1 h2;subst h1;subst h2;rw[e1,ze O];congr 1;omega
 | y::ts,g::bQ,i+1,x,h,h1,h2,d,hd=>by
  have e1:gR (y::ts) (g::bQ)=jj (y,g)++gR ts bQ:=rfl;have a:(jj (y,g)).length=3:=rfl;rw[e1,zp O,a,show 3*(i+1)+d-3=3*i+d by omega];exact Ch (by simpa using h1) (by simpa using h2) hd
theorem xY:∀{ts:List eH} {bQ:List Th} {i:Nat} {x:eH} {h:Th},ts[i]?=some x->bQ[i]?=some h->∀{d:Nat} {v:Value} {x':eH} {h':Th},d<3->jj (x',h')=(jj (x,h)).set d v →
 (gR ts bQ).set (3*i+d) v=gR (ts.set i x') (bQ.set i h')
 | [],_,_,_,_,h1,_,_,_,_,_,_,_=>by simp at h1
 | _::_,[],_,_,_,_,h2,_,_,_,_,_,_=>by simp at h2
 | y::ts,g::bQ,0,x,h,h1,h2,d,v,x',h',hd,e=>by
  have e1:gR (y::ts) (g::bQ)=jj (y,g)++gR ts bQ:=rfl;have e2:gR ((y::ts).set 0 x') ((g::bQ).set 0 h')=jj (x',h')++gR ts bQ:=rfl;have a:(jj (y,g)).length=3:=rfl;simp at h1 h2;subst h1;subst h2;rw[e1,e2,List.set_append_left _ _ O,e,show 3*0+d=d by omega]
 | y::ts,g::bQ,i+1,x,h,h1,h2,d,v,x',h',hd,e=>by
  have e1:gR (y::ts) (g::bQ)=jj (y,g)++gR ts bQ:=rfl;have e2:gR ((y::ts).set (i+1) x') ((g::bQ).set (i+1) h')=jj (y,g)++gR (ts.set i x') (bQ.set i h'):=rfl;have a:(jj (y,g)).length=3:=rfl;rw[e1,e2,List.set_append_right _ _ O,a,show 3*(i+1)+d-3=3*i+d by omega];rw[xY (by simpa using h1) (by simpa using h2) hd e]
def nH (y:Option Lay)(a:Option AR):Hp->Rg->Prop:=λU F=>match y,a with
 | some Y,some A=>dG U F Y A (cK A Y)
 | _,_=>True
def qm (x:Option eH)(h:Option Th)(tb:List bZ)(bud:Nat):Hp->Rg->Prop:=λU F=>match x,h with
 | some x,some h=>dZ U F x.c tb bud h.ls
 | _,_=>True
def pA (x:Option eH)(h:Option Th):Hp->Rg->Prop:=λU F=>match x,h with
 | some x,some h=>im x.h h.bP U F
 | _,_=>True
def CH (H:Hw)(L:dK):kC->Hp->Rg->Prop
 | .hd=>iu L.p (xm L H.cf)
 | .dD=>cU L.dD 3 (fY H.tb)
 | .sp=>λU F=>dL U F L.hs H.sp
 | .fL=>cU L.fL 1 (fK (L.ys.map (·.p)))
 | .cN=>bR L.cN 3 (gR L.ts H.bQ)
 | .live=>jx L.lm .i64 (.ag 4) H.live
 | .ar k=>nH L.ys[k]? H.bY[k]?
 | .ca t=>qm L.ts[t]? H.bQ[t]? H.tb H.cf.dA
 | .hn t=>pA L.ts[t]? H.bQ[t]?
theorem nH.loc (y:Option Lay)(a:Option AR):dM (nH y a):=by
 intro U σ' F G h hz hs;unfold nH at *;split at h
 ·exact dG.loc _ _ _ _ h hz hs
 ·trivial
theorem qm.loc (x:Option eH)(h:Option Th)(tb:List bZ)(bud:Nat):dM (qm x h tb bud):=by
 intro U σ' F G h hz hs;unfold qm at *;split at h
 ·exact dZ.loc _ _ _ _ h hz hs
 ·trivial
theorem pA.loc (x:Option eH)(h:Option Th):dM (pA x h):=by
 intro U σ' F G h hz hs;unfold pA at *;split at h
 ·exact im.loc _ _ _ _ _ _ h hz hs
 ·trivial
theorem CH.loc {H:Hw}{L:dK}:∀i,dM (CH H L i)
 | .hd=>iu.loc _ _
 | .dD=>cU.loc _ _ _
 | .sp=>dL.loc
 | .fL=>cU.loc _ _ _
 | .cN=>bR.loc _ _ _
 | .live=>jx.loc _ _ _ _
 | .ar k=>nH.loc _ _
 | .ca t=>qm.loc _ _ _ _
 | .hn t=>pA.loc _ _
structure HS (L:dK) (H:Hw):Prop where
 ys:L.ys.length=H.bY.length
 hs:∀Y∈L.ys,Y.hs=L.hs
 ts:L.ts.length=H.bQ.length
 a1:1<=H.bY.length
 a2:H.bY.length<=4
 t1:1<=H.bQ.length
 t2:H.bQ.length<=4
 tb:∀A∈H.bY,A.tb=H.tb
structure HH (U:Hp) (F:Rg) (L:dK) (H:Hw):Prop where
 s:HS L H
 sep:Sep (CH H L) U F
 g:Gl U
 gd:Gd U
 o:iR F
 o2:¬F 1
variable {U:Hp}{F:Rg}{L:dK}{H:Hw}{t k:Nat}
theorem HH.bO (h:HH U F L H){σ':Hp}(e:bK U σ'):HH σ' F L H:=⟨h.s,(Sep.loc CH.loc).bO h.sep e,h.g.bO e,h.gd.bO e,h.o,h.o2⟩
theorem HH.bS (h:HH U F L H){σ':Hp}{T:Rg}(e:Ext T U σ')(hT:∀b,b<U.size->F b->¬T b)(hg:iR T)(hg2:¬T 1):HH σ' F L H:=⟨h.s,(Sep.loc CH.loc).bS h.sep e hT,h.g.bS e hg,h.gd.bS e hg2,h.o,h.o2⟩
theorem B2 {U:Hp}(g:Gd U):1<U.size:=g.lt
theorem HH.mono (h:HH U F L H){G:Rg}(hs:∀b,b<U.size->F b->G b)(o:iR G)(o2:¬G 1):HH U G L H:=⟨h.s,(Sep.loc CH.loc).mono h.sep hs,h.g,h.gd,o,o2⟩
theorem HH.oG (h:HH U F L H):iR (Grow F U):=h.o.grow h.g
theorem HH.qN (h:HH U F L H):¬Grow F U 1:=λa=>by
 rcases a with a|a
 ·exact h.o2 a
 ·have:=B2 h.gd;omega
theorem HH.sub (h:HH U F L H){G:Rg}(hs:∀b,b<U.size->F b->G b)(hg:∀b,G b->F b\/U.size<=b):HH U G L H:=
 h.mono hs (h.oG.sub hg) λa=>h.qN (hg _ a)
theorem HH.vE {v v':Hp}{G T:Rg}{L0:dK}{H0:Hw}(h0:HH U F L0 H0)(h:HH v G L H)(e:Ext T v v')(hT:∀b,T b->U.size<=b)(hG:∀b,b<v.size->G b->¬T b):HH v' G L H:=
 h.bS e hG (h0.oG.sub λb a=>.inr (hT b a)) λa=>h0.qN (.inr (hT _ a))
theorem HH.grown {σ':Hp}{R:Rg}{L':dK}{H':Hw}(h:HH U F L H)(h':HH σ' R L' H')(hr:∀b,b<σ'.size->R b->Grow F U b):HH σ' (Grow F U) L' H':=h'.mono hr h.oG h.qN
theorem HH.cut (h:HH U F L H):HH U (Cut F U) L H:=h.sub (λb a d=>⟨d,a⟩) λb a=>.inl a.1
theorem HH.lG (h:HH U F L H)(i:kC):∃G:Rg,(∀b,G b->F b)/\CH H L i U G/\(∀j,j≠i->∃D:Rg,(∀b,D b->F b)/\(∀b,D b->¬G b)/\CH H L j U D) ∧
 ∀(σ':Hp) (H':Hw) (L':dK) (G':Rg),HS L' H'->(∀j,j≠i->CH H' L' j=CH H L j)->Ext G U σ'->(∀b,G' b->Grow G U b)->CH H' L' i σ' G' →
  Ext F U σ'/\HH σ' (λb=>F b/\b<U.size/\¬G b\/G' b) L' H':=by
 obtain⟨G,r,w,hd,m⟩:=h.sep.jK CH.loc i;refine⟨G,r,w,hd,λσ' H' L' G' u y e s x=>?_⟩;have p:=e.sub r;have d:∀b,(F b/\b<U.size/\¬G b\/G' b)->Grow F U b:=λb a=>by
  rcases a with a|a
  ·exact .inl a.1
  ·exact(s b a).imp (r b) id
 refine⟨p,u,m σ' (CH H' L') G' y e s x (CH.loc _),h.g.bS p h.o,h.gd.bS p h.o2,λb a=>(h.o.grow h.g) b (d b a),λa=>?_⟩;rcases d _ a with h1|h1
 ·exact h.o2 h1
 ·have:=B2 h.gd;omega
theorem _root_.Go.Vc.Sep.sX {L:Type}{C:L->Hp->Rg->Prop}{U:Hp}{F:Rg}(hC:∀i,dM (C i))(h:Sep C U F)(i j:L)(hij:i≠j)(N:Rg)(hN:∀b,b<U.size->F b->¬N b):∃G D:Rg,(∀b,G b->F b)/\(∀b,D b->F b)/\(∀b,G b->¬D b)/\C i U G/\C j U D/\(∀m,m≠i->m≠j->∃E:Rg,(∀b,E b->F b)/\(∀b,E b->¬(G b\/D b))/\C m U E) ∧
 ∀(σ':Hp) (C':L->Hp->Rg->Prop) (G' D':Rg),(∀k,k≠i->k≠j->C' k=C k)->Ext (λb=>G b\/D b) U σ'->(∀b,G' b->(G b\/D b)\/N b)->(∀b,D' b->(G b\/D b)\/N b)->(∀b,G' b->¬D' b)->C' i σ' G'->C' j σ' D'->(∀k,dM (C' k)) →
 Sep C' σ' λb=>F b/\b<U.size/\¬(G b\/D b)\/G' b\/D' b:=by
 obtain⟨ρ,h⟩:=h
 let G:Rg:=λb=>F b/\ρ b=i
 let D:Rg:=λb=>F b/\ρ b=j
 refine⟨G,D,λb a=>a.1,λb a=>a.1,λb w u=>hij (w.2.symm.trans u.2),h i,h j,λm w u=>⟨λb=>F b/\ρ b=m,λb a=>a.1,λb a d=>d.elim (λx=>w (a.2.symm.trans x.2)) λx=>u (a.2.symm.trans x.2),h m⟩,λσ' C' G' D' A e z H hd J B y=>?_⟩
 open Classical in
 refine⟨λb=>if G' b then i else if D' b then j else ρ b,λk=>?_⟩
 by_cases hki:k=i
 ·subst hki;exact(y _).mono J λb _ a=>⟨.inr (.inl a),zC a⟩
 by_cases hkj:k=j
 ·subst hkj;exact(y _).mono B λb _ a=>⟨.inr (.inr a),by show(if G' b then i else if D' b then k else ρ b)=k;rw[zB λd=>hd b d a,zC a]⟩
 ·rw[A k hki hkj];refine hC k _ _ _ _ (h k) e.1 λb a g=>?_;have s:¬(G b\/D b):=by
   rintro(d|d)
   ·exact hki (g.2.symm.trans d.2)
   ·exact hkj (g.2.symm.trans d.2)
  have r:¬G' b:=λd=>(z b d).elim s (hN b a g.1);have p:¬D' b:=λd=>(H b d).elim s (hN b a g.1);exact⟨⟨.inl ⟨g.1,a,s⟩,by show(if G' b then i else if D' b then j else ρ b)=k;rw[zB r,zB p];exact g.2⟩,e.2 b a s⟩
theorem HH.nV (h:HH U F L H)(i j:kC)(hij:i≠j)(N:Rg)(hN:∀b,b<U.size->F b->¬N b)(oN:iR N)(oN2:¬N 1):∃G D:Rg,(∀b,G b->F b)/\(∀b,D b->F b)/\(∀b,G b->¬D b)/\CH H L i U G/\CH H L j U D/\(∀m,m≠i->m≠j->∃E:Rg,(∀b,E b->F b)/\(∀b,E b->¬(G b\/D b))/\CH H L m U E) ∧
 ∀(σ':Hp) (H':Hw) (L':dK) (G' D':Rg),HS L' H'->(∀m,m≠i->m≠j->CH H' L' m=CH H L m)->Ext (λb=>G b\/D b) U σ'->(∀b,G' b->(G b\/D b)\/N b)->(∀b,D' b->(G b\/D b)\/N b)->(∀b,G' b->¬D' b)->CH H' L' i σ' G'->CH H' L' j σ' D' →
  Ext F U σ'/\HH σ' (λb=>F b/\b<U.size/\¬(G b\/D b)\/G' b\/D' b) L' H':=by
 obtain⟨G,D,u,s,hd,M,K,d,r⟩:=h.sep.sX CH.loc i j hij N hN;refine⟨G,D,u,s,hd,M,K,d,λσ' H' L' G' D' C P e z A w J B=>?_⟩;have x:Ext F U σ':=e.sub λb a=>a.elim (u b) (s b);have p:∀b,(F b/\b<U.size/\¬(G b\/D b)\/G' b\/D' b)->F b\/N b:=λb a=>by
  rcases a with a|a|a
  ·exact .inl a.1
  ·exact(z b a).imp (λy=>y.elim (u b) (s b)) id
  ·exact(A b a).imp (λy=>y.elim (u b) (s b)) id
 refine⟨x,C,r σ' (CH H' L') G' D' P e z A w J B CH.loc,h.g.bS x h.o,h.gd.bS x h.o2,λb a=>(p b a).elim (h.o b) (oN b),λa=>?_⟩;exact(p _ a).elim h.o2 oN2
theorem HH.my (h:HH U F L H):iR (λb=>U.size<=b)/\¬(U.size<=1):=⟨h.oG.sub λb a=>.inr a,λa=>h.qN (.inr a)⟩
theorem HH.od (h:HH U F L H)(i j:kC)(hij:i≠j):∃G D:Rg,(∀b,G b->F b)/\(∀b,D b->F b)/\(∀b,G b->¬D b)/\CH H L i U G/\CH H L j U D/\(∀m,m≠i->m≠j->∃E:Rg,(∀b,E b->F b)/\(∀b,E b->¬(G b\/D b))/\CH H L m U E) ∧
 ∀(σ':Hp) (H':Hw) (L':dK) (G' D':Rg),HS L' H'->(∀m,m≠i->m≠j->CH H' L' m=CH H L m)->Ext (λb=>G b\/D b) U σ'->(∀b,G' b->(G b\/D b)\/U.size<=b)->(∀b,D' b->(G b\/D b)\/U.size<=b)->(∀b,G' b->¬D' b)->CH H' L' i σ' G'->CH H' L' j σ' D' →
  Ext F U σ'/\HH σ' (λb=>F b/\b<U.size/\¬(G b\/D b)\/G' b\/D' b) L' H':=
 h.nV i j hij _ (λb a _=>O) h.my.1 h.my.2
theorem HH.hd (h:HH U F L H):bX U L.p (xm L H.cf):=by obtain⟨G,b,a⟩:=h.sep.get .hd;exact a.2
theorem HH.jA (h:HH U F L H):cU L.dD 3 (fY H.tb) U F:=by
 obtain⟨G,d,a⟩:=h.sep.get .dD;exact aH.mono a λb _ a=>d b a
theorem HH.oe (h:HH U F L H):L.dD.len=H.tb.length:=by
 have:=h.jA.1;rw[VE]at this;omega
theorem HH.mL (h:HH U F L H):cU L.fL 1 (fK (L.ys.map (·.p))) U F:=by
 obtain⟨G,d,a⟩:=h.sep.get .fL;exact aH.mono a λb _ a=>d b a
theorem HH.mW (h:HH U F L H):L.fL.len=H.bY.length:=by
 have:=h.mL.1;have:=h.s.ys;simp[fK]at *;omega
theorem HH.mX (h:HH U F L H):cU L.cN 3 (gR L.ts H.bQ) U F:=by
 obtain⟨G,d,a⟩:=h.sep.get .cN;exact aH.mono (bR.gY a) λb _ a=>d b a
theorem HH.lN (h:HH U F L H):L.cN.len=H.bQ.length:=by
 have:=h.mX.1;rw[Ho h.s.ts]at this;omega
theorem HH.mP (h:HH U F L H):dI U L.lm .i64 (.ag 4) H.live:=by obtain⟨G,b,a⟩:=h.sep.get .live;exact a.2
theorem HH.Sa (h:HH U F L H):dL U F L.hs H.sp:=by
 obtain⟨G,d,a⟩:=h.sep.get .sp;exact dM.mono dL.loc a λb _ a=>d b a
theorem HH.ar (h:HH U F L H){A:AR}(hk:H.bY[k]?=some A):∃Y,L.ys[k]?=some Y/\Y.hs=L.hs/\dG U F Y A (cK A Y):=by
 have e:=(cW.1 hk).1;have d:L.ys[k]?=some (L.ys[k]'(by rw[h.s.ys];exact e)):=cV _;obtain⟨G,g,a⟩:=h.sep.get (.ar k);simp only[CH,hk,d,nH]at a;exact⟨_,d,h.s.hs _ (zG d),a.mono λb _ a=>g b a⟩
theorem HH.rA (h:HH U F L H){Y:Lay}(hy:L.ys[k]?=some Y){K:Option Addr->Prop}(hK:K (some ⟨Y.p,0,none⟩)):Ix L.fL.a L.fL.len (k:Int) 1 λa=>fT a U K:=
 BI h.mL (by simp[hy]) hK
theorem HH.th (h:HH U F L H)(ht:t<H.bQ.length):∃x g,L.ts[t]?=some x/\H.bQ[t]?=some g:=⟨L.ts[t]'(by rw[h.s.ts];exact ht),H.bQ[t],cV _,cV _⟩
theorem GQ {s:Sl}{ts:List eH}{bQ:List Th}(h:cU s 3 (gR ts bQ) U F){x:eH}{g:Th}(hx:ts[t]?=some x)(hg:bQ[t]?=some g){d:Nat}(hd:d<3){v:Value}(hv:(jj (x,g))[d]?=some v):∃b o,s.a=some ⟨b,o,none⟩/\cell U ⟨b,o+(3*t+d),none⟩=some v:=
 h.cell ((Ch hx hg hd).trans hv)
theorem Ap {s:Sl}{ts:List eH}{bQ:List Th}(hs:cU s 3 (gR ts bQ) U F)(hl:ts.length=bQ.length){x:eH}{g:Th}(hx:ts[t]?=some x)(hg:bQ[t]?=some g){d:Nat}(hd:d<3){v:Value}(hv:(jj (x,g))[d]?=some v){K:Addr->Prop}
 (hK:∀b o,s.a=some ⟨b,o,none⟩->cell U (Addr.add ⟨b,o+3*t,none⟩ d)=some v->K ⟨b,o+3*t,none⟩):Ix s.a s.len (t:Int) 3 K:=by
 have m:=(cW.1 hg).1;have e:=hs.1;rw[Ho hl]at e;obtain⟨b,o,i,j⟩:=GQ hs hx hg hd hv;rw[i];refine ix O O ?_;rw[add_lit,show o+(t:Int).toNat*3=o+3*t by omega];exact hK b o i (by rw[add_lit,show o+3*t+d=o+(3*t+d) by omega];exact j)
theorem HH.Ey (h:HH U F L H){x:eH}{g:Th}(hx:L.ts[t]?=some x)(hg:H.bQ[t]?=some g){d:Nat}(hd:d<3){v:Value}(hv:(jj (x,g))[d]?=some v){K:Addr->Prop}
 (hK:∀b o,cell U (Addr.add ⟨b,o+3*t,none⟩ d)=some v->K ⟨b,o+3*t,none⟩):Ix L.cN.a L.cN.len (t:Int) 3 K:=
 Ap h.mX h.s.ts hx hg hd hv λb o _ e=>hK b o e
theorem HH.tS (h:HH U F L H){x:eH}{g:Th}(hx:L.ts[t]?=some x)(hg:H.bQ[t]?=some g){K:Sl->Prop}(hK:K x.h):Ix L.cN.a L.cN.len (t:Int) 3 λa=>jq (a.add 1) U K:=
 h.Ey hx hg (d:=1) O rfl λb o e=>nC e hK
theorem HH.tR (h:HH U F L H){x:eH}{g:Th}(hx:L.ts[t]?=some x)(hg:H.bQ[t]?=some g){K:Value->Prop}(hK:K (mH g.ph)):Ix L.cN.a L.cN.len (t:Int) 3 λa=>xG (a.add 2) U K:=
 h.Ey hx hg (d:=2) O rfl λb o e=>⟨_,e,hK⟩
theorem HS.dV (h:HS L H){bQ:List Th}{ts:List eH}(e:ts.length=bQ.length)(e2:bQ.length=H.bQ.length):HS {L with ts:=ts} {H with bQ:=bQ}:=⟨h.ys,h.hs,e,h.a1,h.a2,by rw[e2];exact h.t1,by rw[e2];exact h.t2,h.tb⟩
theorem HS.cC (h:HS L H){A:AR}{sp:Sp}(e:A.tb=H.tb):HS L {H.cC k A with sp:=sp}:=⟨by simp[Hw.cC,h.ys],h.hs,h.ts,by simp[Hw.cC,h.a1],by simp[Hw.cC,h.a2],h.t1,h.t2,λB a=>by
 rcases xu a with h1|h1
 ·exact h.tb B h1
 ·subst h1;exact e⟩
theorem Dz {A:AR}:∀j,j≠kC.ar k->CH (H.cC k A) L j=CH H L j:=by
 intro j hj;cases j<;>try rfl
 rename_i m;have a:m≠k:=λe=>hj (by rw[e]);simp only[CH,Hw.cC,zk (Ne.symm a)]
theorem Dw {sp:Sp}:∀j,j≠kC.sp->CH {H with sp:=sp} L j=CH H L j:=by
 intro j hj;cases j<;>first|rfl|exact absurd rfl hj
theorem JM {l:List (Int×Bk)}:∀j,j≠kC.live->CH {H with live:=l} L j=CH H L j:=by
 intro j hj;cases j<;>first|rfl|exact absurd rfl hj
theorem HH.wg (h:HH U F L H){A:AR}(hk:H.bY[k]?=some A):∃(Y:Lay) (G:Rg),L.ys[k]?=some Y/\Y.hs=L.hs/\(∀b,G b->F b)/\dG U G Y A (cK A Y)/\∀(σ':Hp) (A':AR) (G':Rg),A'.tb=A.tb->Ext G U σ'->(∀b,G' b->Grow G U b)->dG σ' G' Y A' (cK A' Y) →
 Ext F U σ'/\HH σ' (λb=>F b/\b<U.size/\¬G b\/G' b) L (H.cC k A'):=by
 have g:=(cW.1 hk).1;have a:L.ys[k]?=some (L.ys[k]'(by rw[h.s.ys];exact g)):=cV _;generalize (L.ys[k]'(by rw[h.s.ys];exact g))=Y at a;obtain⟨G,r,j,_,d⟩:=h.lG (.ar k);simp only[CH,hk,a,nH]at j;refine⟨Y,G,a,h.s.hs _ (zG a),r,j,λσ' A' G' i e m p=>?_⟩;refine d σ' (H.cC k A') L G' (h.s.cC (sp:=H.sp) (i.trans (h.s.tb A (zG hk)))) Dz e m ?_;simp only[CH,Hw.cC,a,zL g,nH];exact p
theorem HH.oW (h:HH U F L H){A:AR}(hk:H.bY[k]?=some A):∃(Y:Lay) (G D:Rg),L.ys[k]?=some Y/\Y.hs=L.hs/\W2 U G D Y A (cK A Y) H.sp/\∀(σ':Hp) (A':AR) (sp':Sp) (G' D':Rg),A'.tb=A.tb->Ext (iO G D) U σ'->Fits U G D G' D'->W2 σ' G' D' Y A' (cK A' Y) sp' →
 Ext F U σ'/\HH σ' (Grow F U) L {H.cC k A' with sp:=sp'}:=by
 have E:=(cW.1 hk).1;have i:L.ys[k]?=some (L.ys[k]'(by rw[h.s.ys];exact E)):=cV _;generalize (L.ys[k]'(by rw[h.s.ys];exact E))=Y at i;obtain⟨G,D,K,B,hd,M,z,_,u⟩:=h.od (.ar k) .sp (by intro e;cases e);simp only[CH,hk,i,nH]at M;have z:dL U D L.hs H.sp:=z;have p:=h.s.hs _ (zG i);refine⟨Y,G,D,i,p,⟨M,by rw[p];exact z,hd,h.g,h.o.sub K,h.o.sub B⟩,λσ' A' sp' G' D' J e N C=>?_⟩;have r:∀b,G' b->(G b\/D b)\/U.size<=b:=λb x=>(N.1 b x).imp .inl id;have w:∀b,D' b->(G b\/D b)\/U.size<=b:=λb x=>.inl (.inr (N.2 b x));have S:∀m,m≠kC.ar k->m≠kC.sp->CH {H.cC k A' with sp:=sp'} L m=CH H L m:=λm y Q=>
  (Dz (H:={H with sp:=sp'}) (L:=L) (A:=A') m y).trans (Dw m Q)
 have R:CH {H.cC k A' with sp:=sp'} L (.ar k) σ' G':=by
  simp only[CH,Hw.cC,i,zL E,nH];exact C.a
 have P:CH {H.cC k A' with sp:=sp'} L .sp σ' D':=by
  show dL σ' D' L.hs sp';rw[←p];exact C.s
 obtain⟨e1,y⟩:=u σ' {H.cC k A' with sp:=sp'} L G' D' (h.s.cC (J.trans (h.s.tb A (zG hk)))) S e r w C.d R P;refine⟨e1,h.grown y λb x j=>?_⟩;rcases j with j|j|j
 ·exact .inl j.1
 ·exact(r b j).imp (λi=>i.elim (K b) (B b)) id
 ·exact(w b j).imp (λi=>i.elim (K b) (B b)) id
theorem HH.wG (h:HH U F L H):∃G:Rg,(∀b,G b->F b)/\dL U G L.hs H.sp/\iR G/\∀(σ':Hp) (sp':Sp),Ext G U σ'->dL σ' (Grow G U) L.hs sp'->Ext F U σ'/\HH σ' (Grow F U) L {H with sp:=sp'}:=by
 obtain⟨G,g,j,_,d⟩:=h.lG .sp;refine⟨G,g,j,h.o.sub g,λσ' sp' e hs=>?_⟩;obtain⟨e1,m⟩:=d σ' {H with sp:=sp'} L (Grow G U) ⟨h.s.ys,h.s.hs,h.s.ts,h.s.a1,h.s.a2,h.s.t1,h.s.t2,h.s.tb⟩ Dw e (λb i=>i) hs;exact⟨e1,h.grown m λb i a=>by
  rcases a with a|a
  ·exact .inl a.1
  ·exact a.imp (g b) id⟩
theorem HH.rH (h:HH U F L H):F L.lm/\∀(σ':Hp) (l:List (Int×Bk)),Qo U σ' L.lm->dI σ' L.lm .i64 (.ag 4) l->Ext F U σ'/\HH σ' F L {H with live:=l}:=by
 obtain⟨G,i,a,_,e⟩:=h.lG .live;have a:jx L.lm .i64 (.ag 4) H.live U G:=a;refine⟨i _ a.1,λσ' l m j=>?_⟩;obtain⟨e1,p⟩:=e σ' {H with live:=l} L G ⟨h.s.ys,h.s.hs,h.s.ts,h.s.a1,h.s.a2,h.s.t1,h.s.t2,h.s.tb⟩ JM (m.ext.sub λb g=>by rw[g];exact a.1) (λb g=>.inl g) ⟨a.1,j⟩;exact⟨e1,p.mono (λb _ d=>by
  rcases d with d|d
  ·exact d.1
  ·exact i b d) h.o h.o2⟩
theorem HH.oO (h:HH U F L H){x:eH}{g:Th}(hx:L.ts[t]?=some x)(hg:H.bQ[t]?=some g):∃G:Rg,(∀b,G b->F b)/\dZ U G x.c H.tb H.cf.dA g.ls/\∀(σ':Hp) (ls:List Li) (Y':gN) (G':Rg),Y'.p=x.c.p->Ext G U σ'->(∀b,G' b->Grow G U b)->dZ σ' G' Y' H.tb H.cf.dA ls →
 Ext F U σ'/\HH σ' (λb=>F b/\b<U.size/\¬G b\/G' b) {L with ts:=L.ts.set t {x with c:=Y'}} {H with bQ:=H.bQ.set t {g with ls:=ls}}:=by
 have a:=(cW.1 hx).1;have r:=(cW.1 hg).1;obtain⟨G,E,z,_,i⟩:=h.lG (.ca t);simp only[CH,hx,hg,qm]at z;refine⟨G,E,z,λσ' ls Y' G' A e y D=>?_⟩;have w:gR (L.ts.set t {x with c:=Y'}) (H.bQ.set t {g with ls:=ls})=gR L.ts H.bQ:=by
  have B:(gR L.ts H.bQ).set (3*t+0) (.pointer (some ⟨x.c.p,0,none⟩))=gR L.ts H.bQ:=Z7 (Ch hx hg O);rw[←B];exact(xY hx hg (d:=0) O (by simp[jj,A])).symm
 refine i σ' {H with bQ:=H.bQ.set t {g with ls:=ls}} {L with ts:=L.ts.set t {x with c:=Y'}} G' (h.s.dV (by simp[h.s.ts]) aA) (λj C=>?_) e y ?_
 ·cases j<;>try rfl
  ·simp only[CH,w]
  ·rename_i m;have u:m≠t:=λe=>C (by rw[e]);simp only[CH,zk (Ne.symm u)]
  ·rename_i m;by_cases u:m=t
   ·subst u;simp only[CH,zL a,zL r,hx,hg];rfl
   ·simp only[CH,zk (Ne.symm u)]
 ·simp only[CH,zL a,zL r,qm];exact D
theorem HH.rj (h:HH U F L H){x:eH}{g:Th}(hx:L.ts[t]?=some x)(hg:H.bQ[t]?=some g)(N:Rg)(hN:∀b,b<U.size->F b->¬N b)(oN:iR N)(oN2:¬N 1):∃G D:Rg,(∀b,G b->F b)/\(∀b,D b->F b)/\(∀b,G b->¬D b)/\im x.h g.bP U G/\bR L.cN 3 (gR L.ts H.bQ) U D/\(∃E:Rg,(∀b,E b->¬G b)/\(∀b,E b->¬D b)/\iu L.p (xm L H.cf) U E) ∧
 ∀(σ':Hp) (s:Sl) (bs:List Bt) (G' D':Rg),Ext (λb=>G b\/D b) U σ'->(∀b,G' b->(G b\/D b)\/N b)->(∀b,D' b->(G b\/D b)\/N b)->(∀b,G' b->¬D' b)->im s bs σ' G'->bR L.cN 3 ((gR L.ts H.bQ).set (3*t+1) (.slice s.a s.len s.cap)) σ' D' →
  Ext F U σ'/\HH σ' (λb=>F b/\b<U.size/\¬(G b\/D b)\/G' b\/D' b) {L with ts:=L.ts.set t {x with h:=s}} {H with bQ:=H.bQ.set t {g with bP:=bs}}:=by
 have r:=(cW.1 hx).1;have u:=(cW.1 hg).1;obtain⟨G,D,X,V,hd,M,z,j,i⟩:=h.nV (.hn t) .cN (by intro e;cases e) N hN oN oN2;simp only[CH,hx,hg,pA]at M;have z:bR L.cN 3 (gR L.ts H.bQ) U D:=z;obtain⟨E,_,P,B⟩:=j .hd (by intro e;cases e) (by intro e;cases e);refine⟨G,D,X,V,hd,M,z,⟨E,λb A hx=>P b A (.inl hx),λb A hx=>P b A (.inr hx),B⟩,λσ' s bs G' D' e y K C S Q=>?_⟩;have J:gR (L.ts.set t {x with h:=s}) (H.bQ.set t {g with bP:=bs})=(gR L.ts H.bQ).set (3*t+1) (.slice s.a s.len s.cap):=(xY hx hg (d:=1) O (by simp[jj])).symm;refine i σ' {H with bQ:=H.bQ.set t {g with bP:=bs}} {L with ts:=L.ts.set t {x with h:=s}} G' D' (h.s.dV (by simp[h.s.ts]) aA) (λm R W=>?_) e y K C ?_ ?_
 ·cases m<;>first|rfl|exact absurd rfl W|skip
  ·rename_i m;by_cases w:m=t
   ·subst w;simp only[CH,zL r,zL u,hx,hg];rfl
   ·simp only[CH,zk (Ne.symm w)]
  ·rename_i m;have w:m≠t:=λe=>R (by rw[e]);simp only[CH,zk (Ne.symm w)]
 ·simp only[CH,zL r,zL u,pA];exact S
 ·simp only[CH,J];exact Q
theorem HH.rq (h:HH U F L H){x:eH}{g:Th}(hx:L.ts[t]?=some x)(hg:H.bQ[t]?=some g)(p:Option Ph){K:aP}(hK:∀σ',Ext F U σ'->HH σ' F L {H with bQ:=H.bQ.set t {g with ph:=p}}->K σ') :
 Ix L.cN.a L.cN.len (t:Int) 3 λa=>And (iW (mH p)) (dN (a.add 2) (mH p) U K):=by
 have J:=(cW.1 hx).1;have u:=(cW.1 hg).1;have A:=h.lN;obtain⟨G,M,w,_,i⟩:=h.lG .cN;have w:bR L.cN 3 (gR L.ts H.bQ) U G:=w;have C:=Ho h.s.ts;obtain⟨b,y⟩:∃b,L.cN.a=some ⟨b,0,none⟩:=by
  rcases w.2 with⟨h0,_⟩|⟨b,_,_,ha,_⟩
  ·omega
  ·exact⟨b,ha⟩
 rw[y];refine ix O O ⟨ue p,?_⟩;refine w.st (j:=3*t+2) O (λN r=>by rw[y]at r;cases r;rw[add_lit,add_lit];congr 1;omega) λσ' e B=>?_;have z:gR L.ts (H.bQ.set t {g with ph:=p})=(gR L.ts H.bQ).set (3*t+2) (mH p):=by
  have:=xY hx hg (d:=2) (v:=mH p) (x':=x) (h':={g with ph:=p}) O (by simp[jj]);rw[this,Z7 hx]
 obtain⟨e1,D⟩:=i σ' {H with bQ:=H.bQ.set t {g with ph:=p}} L G (h.s.dV (ts:=L.ts) (by simp[h.s.ts]) aA) (λj E=>by
  cases j<;>first|rfl|exact absurd rfl E|skip
  ·rename_i m;by_cases hm:t=m
   ·subst hm;simp only[CH,zL u,hx,hg];rfl
   ·simp only[CH,zk hm]
  ·rename_i m;by_cases hm:t=m
   ·subst hm;simp only[CH,zL u,hx,hg];rfl
   ·simp only[CH,zk hm]) e (λb y=>.inl y) (by simp only[CH,z];exact B)
 exact hK σ' e1 (D.mono (λb _ hx=>by
  rcases hx with hx|hx
  ·exact hx.1
  ·exact M b hx) h.o h.o2)
end Go.Ar
namespace Go.Ar
open Go Go.Vc Go.Proofs
open Go.Bu (Zb Qz Y8)
variable {U:Hp}{F H:Rg}{p hs:Nat}{A:AR}{sp:Sp}{Y:Lay}{T:Nat->Hp->Rg->Prop}
end Go.Ar
namespace Go.Ar
open Go Go.Vc Go.Proofs
variable {U:Hp}{F:Rg}{L:dK}{H:Hw}{t k:Nat}
theorem Uj (h:HH U F L H){R:aO}(hR:R true U):Xq.c (aW L.p) U R:=by
 refine Xq.o ?_;unfold Xq.v;have b:=h.lN;have a:=h.s.t1;refine bV.intro (cD rfl (aG (h.hd.rS rfl ?_)));rw[zJ aC];exact hR
theorem BC (h:HH U F L H)(x:Int){R:aO}(hR:R (decide (0<=x/\x<(H.bQ.length:Int))) U):X7.c (aW L.p) x U R:=by
 refine X7.o ?_;unfold X7.v;have b:=h.lN;refine bV.intro (cQ (λa=>aG (h.hd.rS rfl ?_)) λa=>?_)
 ·have:decide (x<((L.cN.len:Nat):Int))=decide (0<=x/\x<(H.bQ.length:Int)):=by rw[decide_eq_decide,b];omega
  simp only[this];exact hR
 ·rw[zM O]at hR;exact hR
theorem E4 (h:HH U F L H)(t:Nat){R:aN}(hR:R ((H.own t:Nat):Int) U):Zo.c (aW L.p) (t:Int) U R:=by
 refine Zo.o ?_;unfold Zo.v;have a:=h.mW;have b:=h.s.a1;refine aG (h.hd.rS rfl (nz aC ?_));have:((t:Int).tmod ((L.fL.len:Nat):Int))=((H.own t:Nat):Int):=by rw[Qg O,a];unfold Hw.own;omega
 simp only[this];exact hR
theorem GC (h:HH U F L H)(x:Int)(hx9:x<=9223372036854775807){R:aN}(hR:∀σ',bK U σ'->R (XO H.bY x) σ'):XT.c (aW L.p) x U R:=by
 refine XT.o ?_;unfold XT.v;refine nw (cs:=[.int .i64 x]) λv hz e P=>P.tP rfl ?_;have Q:=h.bO e;by_cases hx:x<0
 ·have:=hR v e;unfold XO at this;rw[zC hx]at this;exact lH hx this
 refine fR hx (aG (Q.hd.rS rfl ?_));have hl:=h.mW;have S:=h.s.a2;refine Wk.o ?_;unfold Wk.v;refine Z6 (a:=bN) (λ(z:Int) w=>∃i:Nat,z=(i:Int)/\i<=H.bY.length/\bK U w/\HH w F L H/\bX w U.size [.int .i64 x]/\∀j A,j<i->H.bY[j]?=some A->GG A (x/256)=false) (λz _=>H.bY.length-z.toNat) ⟨0,rfl,O,e,Q,P,λj A d=>O⟩ ?_;rintro z w ⟨i,rfl,hi,D,G,r,b⟩;refine cQ (λM=>?_) λN=>?_
 ·simp only at M;have C:i<H.bY.length:=by omega
  have g:H.bY[i]?=some H.bY[i]:=cV C;generalize H.bY[i]=A at g;obtain⟨Y,W,Z,K⟩:=G.ar g;refine G.rA W (pd (all := #[.pointer (some ⟨Y.p,0,none⟩),.pointer (some ⟨U.size,0,none⟩)]) (by kernel_rfl) aA ?_);refine YQ.o ?_;unfold YQ.v;refine r.tP rfl (nz aB (ar (by rw[XP O];omega) (by rw[XP O];omega) ?_));rw[XP O];refine ME K (x/256) (cO (λV=>?_) λX=>?_)
  ·have:XO H.bY x=(i:Int):=by
    unfold XO;rw[zB hx];have:H.bY.findIdx? (λA=>GG A (x/256))=some i:=by
     obtain⟨E,rfl⟩:=cW.1 g;exact nm.2 ⟨E,V,λj d=>by rw[b j _ d (cV O)];simp⟩
    rw[this]
   have u:=hR w D;rw[this]at u;exact u
  ·exact cP (m:=i+1) O O ⟨⟨i+1,rfl,O,D,G,r,λj B d J=>by
    by_cases e:j=i
    ·subst e;rw[g]at J;cases J;exact X
    ·exact b j B O J⟩,O⟩
 ·have y:i=H.bY.length:=by simp only at N;omega
  subst y;have:XO H.bY x = -1:=by
   unfold XO;rw[zB hx];have:H.bY.findIdx? (λA=>GG A (x/256))=none:=by
    rw[ui];intro A g;obtain⟨j,d⟩:=zQ g;exact b j A (cW.1 d).1 d
   rw[this]
  have u:=hR w D;rw[this]at u;exact u
theorem Ih (h:HH U F L H){R:Int->Int->Int->Int->Int->Hp->Prop}(hR:∀σ',bK U σ'->R (H.cf.aF:Int) (H.cf.hU:Int) (H.cf.threads:Int) (H.cf.dA:Int) (H.cf.room:Int) σ'):X6.c (aW L.p) U R:=by
 refine X6.o ?_;unfold X6.v;refine nw (cs:=[.int .i64 0,.int .i64 0,.int .i64 0,.int .i64 0,.int .i64 0]) λv u e i=>Uj (h.bO e) (cB rfl ?_);have hd:=(h.bO e).hd;refine aG (hd.eY rfl (hd.eY rfl (hd.eY rfl (hd.eY rfl (hd.eY rfl ?_)))));refine i.s1 aA λs o1 g=>g.s1 aA λr o2 j=>j.s1 aA λv3 o3 d=>d.s1 aA λm o4 b4=>b4.s1 aA λb o5 a=>?_;refine a.rI rfl (a.rI rfl (a.rI rfl (a.rI rfl (a.rI rfl (hR b ?_)))));exact((((e.only o1 (.inr (zD _))).only o2 (.inr (zD _))).only o3 (.inr (zD _))).only o4 (.inr (zD _))).only o5 (.inr (zD _))
theorem ED (h:HH U F L H){R:Option Addr->Hp->Prop}(hR:R (some ⟨L.hs,0,none⟩) U):Yv.c (aW L.p) U R:=by
 refine Yv.o ?_;unfold Yv.v;exact Uj h (cB rfl (aG (h.hd.rP rfl hR)))
theorem JB (h:HH U F L H)(x:Int)(hx:x<=9223372036854775807){R:Int->Int->Hp->Prop}(hR:∀σ',bK U σ'->R (if eT H.sp x=0 then H.sp.wd (x.toNat/8)else 0) (eT H.sp x) σ'):YE.c (aW L.p) x U R:=by
 refine YE.o ?_;unfold YE.v;exact ED h (JX h.Sa h.g x hx hR)
theorem IM (h:HH U F L H)(gc:Gc U)(x v:Int)(hx:x<=9223372036854775807){R:aN}(hR:∀σ',Ext F U σ'->HH σ' (Grow F U) L {H with sp:=ZV H.sp x v}->R (eT H.sp x) σ'):Xd.c (aW L.p) x v U R:=by
 refine Xd.o ?_;unfold Xd.v;obtain⟨G,m,i,d,a⟩:=h.wG;refine ED h (Mt i h.g gc x hx v λσ' e b=>?_);obtain⟨e1,j⟩:=a σ' _ e b;exact hR σ' e1 j
theorem RE (h:HH U F L H)(x:Int){R:Int->Int->Hp->Prop}(hR:∀σ',bK U σ'->R ((bW H.live x).elim 0 λb=>b.2.1) (if(bW H.live x).isSome then 0 else 8) σ'):Xv.c (aW L.p) x U R:=by
 refine Xv.o ?_;unfold Xv.v;refine Uj h (cB rfl (aG (h.hd.rM rfl ⟨_,h.mP,?_⟩)));refine nw (cs:=[.int .i64 0,.int .i64 0,.int .i64 0,.int .i64 0]) λv w e j=>?_;refine j.s1 aA λu o1 r=>r.s1 aA λs o2 m=>m.s1 aA λv3 o3 i=>i.s1 aA λv4 o4 b4=>?_;have d:bK U v4:=(((e.only o1 (.inr (zD _))).only o2 (.inr (zD _))).only o3 (.inr (zD _))).only o4 (.inr (zD _));have a:=hR v4 d;cases hm:bW H.live x with
 | none=>
  rw[hm]at a;exact cD rfl a
 | some b=>
  rw[hm]at a;refine cB rfl (b4.rI rfl ?_);have g:((bW H.live x).getD ((0,0,0,0):Bk)).2.1=b.2.1:=by rw[hm];rfl
  rw[g];exact a
theorem VL (h:HH U F L H)(ht:t<H.bQ.length){R:Value->Hp->Prop}(hR:R (mH (jV H t)) U):WV.c (aW L.p) (t:Int) U R:=by
 refine WV.o ?_;unfold WV.v;obtain⟨x,g,b,a⟩:=h.th ht;refine aG (h.hd.rS rfl (h.tS b a ?_));obtain⟨G,i,d⟩:=h.sep.get (.hn t);simp only[CH,b,a,pA]at d;have e:=d.len;unfold jV at hR;rw[a]at hR;simp only at hR;by_cases h0:g.bP=[]
 ·rw[zC h0]at hR;exact cD (by rw[e,h0];rfl) hR
 ·rw[zB h0]at hR;have:=pC.2 h0;exact cB (by simp only[lu];omega) hR
theorem Aw (h:HH U F L H)(x size cls:Int)(hx9:x<=9223372036854775807){R:Value->Int->Int->Hp->Prop}(hR:∀σ',Ext F U σ'->HH σ' F L (Vm H x size cls)->R .nilIface x 0 σ'):YK.c (aW L.p) x size cls U R:=by
 refine YK.o ?_;unfold YK.v;refine nw (cs:=[.int .i64 0,.int .i64 0]) λv E e a=>?_;have i:=h.cut.bO e;refine⟨λu=>bK v u,Ext.refl _ _,aG ⟨some L.lm,λu y=>by rw[add_lit,((i.bO y).hd).cell];rfl,?_⟩⟩;refine GC i x hx9 λD e1=>⟨e1,?_⟩;have s:=i.bO e1;obtain⟨z,d⟩:=s.rH;refine⟨L.lm,_,rfl,s.mP,λj o2 g=>?_⟩;obtain⟨e2,w⟩:=d j _ o2 g;have m:bX j U.size [.int .i64 0,.int .i64 0]:=Ws o2 (e1.bT a id) (by have:=z.2;omega);refine m.s1 aA λv3 o3 A=>A.s1 aA λv4 o4 b4=>b4.rI rfl (b4.rI rfl (hR v4 ?_ ?_))
 ·exact(((bK.to (e.trans e1)).trans (e2.sub λb a=>a.1)).only o3 (.inr (zD _))).only o4 (.inr (zD _))
 ·have r:Ext (· = U.size) j v4:=o3.ext.trans o4.ext;have B:=h.vE w r (λb a=>O) (λb _ a C=>by have:=a.2;omega);exact B.mono (λb _ a=>a.1) h.o h.o2
theorem Gj (h:HH U F L H)(ht:t<H.bQ.length)(k:Nat){s:Sl}{xs:List Int}{X:Rg}(hs:cU s 1 (Wo xs) U X)(hc:s.len<=s.cap)(hxs:xs≠[])(hX:∀b,b<U.size->X b->¬F b)(oX:iR X)(oX2:¬X 1)(hlen:∀g,H.bQ[t]?=some g->g.bP.length<=1000){R:aP}
 (hR:∀σ' ts',Ext F U σ'->HH σ' (λb=>Grow F U b\/X b) {L with ts:=ts'} (QF H t k xs)->R σ'):Yd.c (aW L.p) (t:Int) (k:Int) s U R:=by
 refine Yd.o ?_;unfold Yd.v;obtain⟨x,g,r,P⟩:=h.th ht;have htl:=Ho h.s.ts;have hrl:=h.lN;have hlen:=hlen g P;obtain⟨G,D,hG,Y,hd,hB,hr,⟨E,hE1,hE2,hhd⟩,Q⟩:=h.cut.rj r P (λb=>U.size<=b\/b<U.size/\X b) (λb m hf hn=>by
  rcases hn with hn|hn
  ·omega
  ·exact hX b m hn.2 hf.1) (λb m=>m.elim (h.my.1 b) λm=>oX b m.2) (λm=>m.elim h.my.2 λm=>oX2 m.2)
 obtain⟨ps,Dn,A,C,K,hj,hne⟩:=hB;have B:∀u,Ext G U u->bX u L.p (xm L H.cf):=λu z=>((iu.loc _ _).bS hhd z λb _ m r=>hE1 b m r).2;have V:∀u,Ext G U u->bR L.cN 3 (gR L.ts H.bQ) u D:=λu z=>aI.bS hr z λb _ m r=>hd b r m;refine⟨λu=>Ext G U u,Ext.refl _ _,aG ⟨L.cN,λu z=>by rw[add_lit,(B u z).cell];rfl,aG ⟨L.cN,λu z=>by rw[add_lit,(B u z).cell];rfl,?_⟩⟩⟩;refine Ap (bR.gY hr) h.s.ts r P (d:=1) O rfl λb o ha _=>⟨x.h,λu z=>?_,?_⟩
 ·obtain⟨b',o',Z,hc'⟩:=GQ (bR.gY (V u z)) r P (d:=1) O rfl;rw[ha]at Z;cases Z;rw[add_lit,show o+3*t+1=o+(3*t+1) by omega];exact hc'
 refine nw (cs:=[.int .i64 (k:Int),.slice s.a s.len s.cap]) λv hz e m=>⟨bK.to e,?_⟩;have N:=(dH.loc _ _ _).bO ((dH.loc _ _ _).cut A) e;have hBo1:=(kj.loc _ _).bO ((kj.loc _ _).cut C) e;have hs1:=aH.bO (aH.cut hs) e;have hpl:x.h.len=ps.length:=by have:=A.1;rw[Kw]at this;omega
 have hpg:ps.length=g.bP.length:=C.1;refine N.app (ys:=nE (k,s)) rfl rfl ?_ (λv hv=>U4 (l:=[(k,s)]) v (by simpa[fE]using hv)) ?_ ?_ mT λs' v2 hl2 e2 hr2=>?_
 ·intro j u z;rw[add_lit,zH,m.cell];exact z
 ·simp only;have:(x.h.len+1)*32<=1001*32:=lV O O;omega
 ·simp only;omega
 have hs2:=e2.1;have eG:Ext G U v2:=(bK.to e).trans (e2.sub λb m=>m.1.1);refine⟨eG,?_⟩;obtain⟨b0,aa⟩:∃b,L.cN.a=some ⟨b,0,none⟩:=by
  rcases hr.2 with⟨h0,_⟩|⟨b,_,_,ha,_⟩
  ·omega
  ·exact⟨b,ha⟩
 rw[aa];refine ix O O ?_;refine(V v2 eG).st (j:=3*t+1) O (λb' W=>by rw[aa]at W;cases W;rw[add_lit,add_lit];congr 1;omega) λσ' S hr3=>?_;have hs3:=S.1;have e03:Ext (λb=>G b\/D b) U σ':=(eG.sub λb m=>.inl m).trans (S.sub λb m=>.inr m);have hr4:=(dH.loc _ _ _).bS ((dH.loc _ _ _).cut hr2) S λb _ m r=>by
  rcases m.1 with h1|h1
  ·exact hd b h1.1.1 r
  ·have:=(Y b r).2;omega
 have hB4:=(kj.loc _ _).bS ((kj.loc _ _).bS hBo1 e2 λb _ m r=>r.1.2 m.1) S λb _ m r=>hd b (K b m.1) r;have hs4:=aH.bS (aH.bS hs1 e2 λb m r w=>hX b r.2 r.1 (hG b w.1.1).1) S λb _ r w=>hX b r.2 r.1 (Y b w).1;have hBt:im s' (g.bP++[(k,xs)]) σ' (λb=>G b/\b<U.size\/b<U.size/\X b\/v.size<=b/\b<v2.size):=by
  refine⟨ps++[(k,s)],λb=>Dn b/\b<U.size\/b<U.size/\X b,?_,⟨by simp[hpg],λi p y M w=>?_⟩,λb m=>?_,hj.snoc C hne hs hxs (λb m r w=>hX b m w (hG b (K b r)).1) k,λy w=>?_⟩
  ·rw[UD];have:fE [(k,s)]=nE (k,s):=by simp[fE]
   rw[this];refine(dH.loc _ _ _).mono hr4 λq _ J=>?_;rcases J.1 with h1|h1
   ·exact⟨.inl ⟨h1.1.1,h1.2⟩,λr=>by
     rcases r with r|r
     ·exact h1.1.2 r.1
     ·exact hX q r.1 r.2 (hG q h1.1.1).1⟩
   ·exact⟨.inr (.inr ⟨h1,J.2⟩),λr=>by
     rcases r with r|r<;>omega⟩
  ·rcases ke i ps.length with hi|hi
   ·rw[ze hi]at M;rw[ze O]at w;obtain⟨a1,a2,a3⟩:=hB4.2 i p y M w;exact⟨a1,aH.mono a2 λq _ J=>.inl J,a3⟩
   ·rw[zp hi]at M;rw[zp O]at w;have hi0:i-ps.length=0:=by
     have:=(cW.1 M).1;simp at this;omega
    rw[hi0]at M;rw[show i-g.bP.length=0 by omega]at w;simp at M w;subst M;subst w;exact⟨rfl,aH.mono hs4 λq _ J=>.inr ⟨J.2,J.1⟩,hc⟩
  ·rcases m with m|m
   ·exact .inl ⟨K b m.1,m.2⟩
   ·exact .inr (.inl m)
  ·rcases zK.1 w with h1|h1
   ·exact hne y h1
   ·rw[zN]at h1;subst h1;exact hxs
 obtain⟨eF,h4⟩:=Q σ' s' (g.bP++[(k,xs)]) (λb=>G b/\b<U.size\/b<U.size/\X b\/v.size<=b/\b<v2.size) D e03 (λb m=>by
  rcases m with m|m|m
  ·exact .inl (.inl m.1)
  ·exact .inr (.inr m)
  ·exact .inr (.inl O)) (λb m=>.inl (.inr m)) (λb m r=>by
  have:=(Y b r).2;rcases m with m|m|m
  ·exact hd b m.1 r
  ·exact hX b m.1 m.2 (Y b r).1
  ·omega) hBt hr3
 refine hR σ' (L.ts.set t {x with h:=s'}) (eF.sub λb m=>m.1) ?_;have e5:QF H t k xs = {H with bQ:=H.bQ.set t {g with bP:=g.bP++[(k,xs)]}}:=by
  unfold QF Hw.dV
  congr 1
  exact KJ P
 rw[e5];refine h4.mono (λb _ m=>?_) (λb (m:Grow F U b\/X b)=>m.elim (h.oG b) (oX b)) λ(m:Grow F U _\/X _)=>m.elim h.qN oX2;rcases m with m | (m|m|m)|m
 ·exact .inl (.inl m.1.1)
 ·exact .inl (.inl (hG b m.1).1)
 ·exact .inr m.2
 ·exact .inl (.inr O)
 ·exact .inl (.inl (Y b m).1)
end Go.Ar
namespace Go.Ar
open Go Go.Vc Go.Proofs
variable {U u u':Hp}{F B P:Rg}{L:dK}{H H':Hw}{t k n:Nat}{A:AR}{Y:Lay}{x:eH}{g:Th}{c:bZ}{l:Li}{cs:List Value}
structure HK (F:Rg) (U:Hp) (B:Rg) (u:Hp) (P:Rg) (L:dK) (H:Hw):Prop where
 h:HH u P L H
 e:Ext F U u
 p:∀b,P b->(F b/\b<U.size\/U.size<=b)/\¬B b/\b<u.size
 b:∀b,B b->U.size<=b/\b<u.size
 o:iR (λb=>U.size<=b)/\¬U.size<=1
theorem HK.start (h:HH U F L H):HK F U (λ_=>False) U (Cut F U) L H:=⟨h.cut,Ext.refl _ _,λb a=>⟨.inl ⟨a.1,a.2⟩,id,a.2⟩,λb a=>a.elim,h.my⟩
theorem HK.box (K:HK F U B u P L H)(e:bK u u')(hz:u'.size=u.size+1):HK F U (λb=>B b\/b=u.size) u' P L H:=
 ⟨K.h.bO e,K.e.trans (bK.to e),λb a=>⟨(K.p b a).1,λd=>d.elim (K.p b a).2.1 λg=>by have:=(K.p b a).2.2;omega,by have:=(K.p b a).2.2;omega⟩,λb a=>by
  have:=K.e.1;rcases a with a|a
  ·have:=K.b b a;omega
  ·omega,K.o⟩
theorem HK.fr (K:HK F U B u P L H)(e:bK u u'):HK F U B u' P L H:=
 ⟨K.h.bO e,K.e.trans (bK.to e),λb a=>⟨(K.p b a).1,(K.p b a).2.1,by have:=(K.p b a).2.2;have:=e.1;omega⟩,λb a=>by have:=K.b b a;have:=e.1;omega,K.o⟩
theorem HK.own (K:HK F U B u P L H)(o:Qo u u' n)(hn:B n):HK F U B u' P L H:=by
 have r:=K.b n hn;have s:=o.1;have e:Ext (· = n) u u':=o.ext;have i:∀b,b<u.size->P b->¬(b=n):=λb _ a g=>(K.p b a).2.1 (g▸hn);have d:iR (λb=>b=n)/\¬(1=n):=⟨K.o.1.sub λb j=>O,λj=>K.o.2 O⟩;exact⟨K.h.bS e i d.1 d.2,K.e.dT e λb (m:b=n)=>.inr O,λb a=>⟨(K.p b a).1,(K.p b a).2.1,by have:=(K.p b a).2.2;omega⟩,λb a=>by have:=K.b b a;omega,K.o⟩
theorem HK.cT (K:HK F U B u P L H)(e:Ext P u u')(hb:bX u n cs)(hn:B n):bX u' n cs:=e.bT hb λa=>(K.p n a).2.1 hn
theorem HK.sA (K:HK F U B u P L H){Q:Rg}{L':dK}(e:Ext P u u')(h:HH u' Q L' H')(hq:∀b,b<u'.size->Q b->P b\/u.size<=b\/(F b/\b<U.size\/U.size<=b)/\¬B b):HK F U B u' (Cut Q u') L' H':=by
 have i:=e.1;have g:=K.e.1;refine⟨h.cut,K.e.dT e λb a=>(K.p b a).1.imp (λh=>h.1) id,λb a=>⟨?_,λd=>?_,a.2⟩,λb a=>by have:=K.b b a;omega,K.o⟩
 ·rcases hq b a.2 a.1 with h1|h1|h1
  ·exact(K.p b h1).1
  ·exact .inr O
  ·exact h1.1
 ·rcases hq b a.2 a.1 with h1|h1|h1
  ·exact(K.p b h1).2.1 d
  ·have:=K.b b d;omega
  ·exact h1.2 d
theorem HK.to (K:HK F U B u P L H){Q:Rg}{L':dK}(e:Ext P u u')(h:HH u' Q L' H')(hq:∀b,b<u'.size->Q b->P b\/u.size<=b):HK F U B u' (Cut Q u') L' H':=K.sA e h λb a d=>(hq b a d).imp id .inl
theorem HK.fin (K:HK F U B u P L H){L0:dK}{H0:Hw}(h0:HH U F L0 H0):HH u (Grow F U) L H:=h0.grown K.h λb _ a=>(K.p b a).1.imp (λh=>h.1) id
def Fr (A' A:AR):Prop:=A'.tb=A.tb/\A'.room=A.room/\A'.cM=A.cM
theorem Fr.cK {A' A:AR}(h:Fr A' A)(Y:Lay):Go.Ar.cK A' Y=Go.Ar.cK A Y:=by
 funext k;unfold Go.Ar.cK;rw[h.1,h.2.1,h.2.2]
theorem Et (A:AR)(k m:Int):Fr (Yu A k m) A:=by
 unfold Yu;split<;>exact⟨rfl,rfl,rfl⟩
theorem Cj (A:AR)(k:Int)(xs:List Int):Fr (Zt A k xs) A:=⟨(V5 A k xs).1,(V5 A k xs).2.1,(V5 A k xs).2.2.1⟩
theorem D7 (A:AR)(sp:Sp)(m a no:Nat):Fr (cZ A sp m a no).2.1 A:=⟨(HB A sp m a no).1,(HB A sp m a no).2.2.2.1,(HB A sp m a no).2.2.1⟩
theorem DC (A:AR)(x:Int):Fr (Qq A x) A:=by
 unfold Qq;split<;>exact⟨rfl,rfl,rfl⟩
theorem CF (A:AR)(sp:Sp)(k:Int):Fr (cL A sp k).1 A:=by
 unfold cL;split
 ·split
  ·rename_i c ss h1 h2;have h:=D7 A sp c.aF 1 (k.toNat+1);generalize cZ A sp c.aF 1 (k.toNat+1)=r at h;obtain⟨o,A',a⟩:=r;cases o with
   | none=>exact h
   | some x=>
    simp only;split<;>exact h
  ·exact⟨rfl,rfl,rfl⟩
 ·exact⟨rfl,rfl,rfl⟩
theorem DF (A:AR)(sp:Sp)(m a:Int):Fr (cA A sp m a).1 A:=by
 unfold cA;split
 ·have h:=D7 A sp m.toNat a.toNat 41;generalize cZ A sp m.toNat a.toNat 41=r at h;obtain⟨o,A',b⟩:=r;cases o<;>exact h
 ·exact⟨rfl,rfl,rfl⟩
theorem L8 (A:AR)(k:Int):(Zv A k).tb=A.tb:=by unfold Zv;split<;>rfl
theorem PB (A:AR)(k:Int)(xs:List Int):(QR A k xs).tb=A.tb:=by unfold QR;split<;>rfl
theorem HH.mg (h:HH U F L H)(hk:H.bY[k]?=some A)(hy:L.ys[k]?=some Y):∃G:Rg,(∀b,G b->F b)/\dG U G Y A (cK A Y)/\∀(σ':Hp) (A':AR) (Q:Rg),A'.tb=A.tb->Ext G U σ'->(∀b,Q b->G b\/U.size<=b)->dG σ' (λb=>Grow G U b/\¬Q b) Y A' (cK A' Y) →
 Ext F U σ'/\HH σ' (λb=>Grow F U b/\¬Q b) L (H.cC k A'):=by
 obtain⟨Y',G,d,_,j,p,g⟩:=h.wg hk;rw[hy]at d;cases d;refine⟨G,j,p,λσ' A' Q i e u s=>?_⟩;obtain⟨e1,r⟩:=g σ' A' _ i e (λb a=>a.1) s;refine⟨e1,r.mono (λb _ a=>?_) (h.oG.sub λb a=>a.1) λa=>h.qN a.1⟩;rcases a with a|a
 ·exact⟨.inl a.1,λm=>by
   rcases u b m with h2|h2
   ·exact a.2.2 h2
   ·have:=a.2.1;omega⟩
 ·exact⟨a.1.imp (j b) id,a.2⟩
theorem dG.wb {T:Nat->Hp->Rg->Prop}{G Q:Rg}(h:dG U G Y A T)(hq:∀b,¬Q b):dG U (λb=>G b/\¬Q b) Y A T:=h.mono λb _ a=>⟨a,hq b⟩
theorem HH.ma (h:HH U F L H)(hk:H.bY[k]?=some A)(hy:L.ys[k]?=some Y):∃G:Rg,(∀b,G b->F b)/\dG U G Y A (cK A Y)/\∀(σ':Hp) (A':AR),A'.tb=A.tb->Ext G U σ'->dG σ' (Grow G U) Y A' (cK A' Y) →
 Ext F U σ'/\HH σ' (Grow F U) L (H.cC k A'):=by
 obtain⟨G,p,i,a⟩:=h.mg hk hy;refine⟨G,p,i,λσ' A' g e j=>?_⟩;obtain⟨e1,m⟩:=a σ' A' (λ_=>False) g e (λb d=>d.elim) (j.wb λ_=>id);exact⟨e1,m.mono (λb _ d=>d.1) h.oG h.qN⟩
theorem H6 (h:HH U F L H)(hk:H.bY[k]?=some A)(hy:L.ys[k]?=some Y)(c:Int){R:Sl->Int->Hp->Prop}
 (hR:∀s σ' (Q:Rg),Ext F U σ'->(∀b,Q b->F b)->cU s 1 (Wo (Yq A c)) σ' Q->s.len<=s.cap->HH σ' (λb=>Grow F U b/\¬Q b) L (H.cC k (Zv A c))->R s (ZW A c) σ') :
 WA.c (aW Y.p) c U R:=by
 obtain⟨G,w,j,g⟩:=h.mg hk hy;refine HY j c λs σ' e i m d r=>?_;obtain⟨e1,u⟩:=g σ' (Zv A c) (kF s) (L8 A c) e (λb a=>.inl (i b a)) (r.mono λb _ a=>⟨.inl a.1,a.2⟩);exact hR s σ' (kF s) e1 (λb a=>w b (i b a)) m d u
theorem NG (h:HH U F L H)(hk:H.bY[k]?=some A)(hy:L.ys[k]?=some Y)(c m:Int){R:Sl->Int->Hp->Prop}
 (hR:∀s σ' (Q:Rg),Ext F U σ'->(∀b,Q b->U.size<=b)->bR s 1 (ints (Yb A c m)) σ' Q->HH σ' (λb=>Grow F U b/\¬Q b) L (H.cC k (Yu A c m))->R s (Qp A c m) σ') :
 WB.c (aW Y.p) c m U R:=by
 obtain⟨G,w,i,d⟩:=h.mg hk hy;refine O7 i c m λs σ' e j r=>?_;have g:cK (Yu A c m) Y=cK A Y:=(Et A c m).cK Y;obtain⟨e1,u⟩:=d σ' (Yu A c m) (λb=>U.size<=b) (Et A c m).1 e (λb a=>.inr a) (by rw[g];exact r.mono λb _ a=>⟨.inl a.1,by have:=a.2;omega⟩);exact hR s σ' _ e1 (λb a=>a) j u
theorem MJ (h:HH U F L H)(hk:H.bY[k]?=some A)(hy:L.ys[k]?=some Y)(c:Int){sl:Sl}{xs:List Int}{X:Rg}(hs:cU sl 1 (Wo xs) U X)(hi:∀x∈xs,iE x){R:Bool->Int->Hp->Prop}
 (hR:∀σ',Ext F U σ'->HH σ' (Grow F U) L (H.cC k (QR A c xs))->R (KY A c xs) (U2 A c xs) σ'):WF.c (aW Y.p) c sl U R:=by
 obtain⟨G,i,b,a⟩:=h.ma hk hy;refine Ri b c hs hi λσ' e d=>?_;obtain⟨e1,g⟩:=a σ' _ (PB A c xs) e d;exact hR σ' e1 g
theorem OF (h:HH U F L H)(hk:H.bY[k]?=some A)(hy:L.ys[k]?=some Y)(c:Int){sl:Sl}{xs:List Int}{X:Rg}(hs:cU sl 1 (Wo xs) U X)(hX:∀b,b<U.size->X b->¬F b)(hi:∀x∈xs,iE x)(hl:xs.length<=1000000)(hcap:sl.len<=sl.cap){R:aN}
 (hR:∀σ',Ext F U σ'->HH σ' (Grow F U) L (H.cC k (Zt A c xs))->R (QJ A c xs) σ'):WN.c (aW Y.p) c sl U R:=by
 obtain⟨G,u,g,a⟩:=h.ma hk hy;refine LQ g c hi hl hcap (.inl ⟨X,hs,λb j r i=>hX b j r (u b i)⟩) λσ' e m=>?_;have d:cK (Zt A c xs) Y=cK A Y:=(Cj A c xs).cK Y;obtain⟨e1,s⟩:=a σ' _ (Cj A c xs).1 e (by rw[d];exact m);exact hR σ' e1 s
theorem Pm (h:HH U F L H)(hk:H.bY[k]?=some A)(hy:L.ys[k]?=some Y)(x:Int)(hf:∀r∈A.runs,r.1<=1000000){R:aN}
 (hR:∀σ',Ext F U σ'->HH σ' (Grow F U) L (H.cC k (Qq A x))->R (KG A x) σ'):WM.c (aW Y.p) x U R:=by
 obtain⟨G,j,d,a⟩:=h.ma hk hy;refine PN d x hf λσ' e g=>?_;have b:cK (Qq A x) Y=cK A Y:=(DC A x).cK Y;obtain⟨e1,i⟩:=a σ' _ (DC A x).1 e (by rw[b];exact g);exact hR σ' e1 i
theorem LX (h:HH U F L H)(hk:H.bY[k]?=some A)(hy:L.ys[k]?=some Y)(c:Int){R:aN}
 (hR:∀σ',Ext F U σ'->HH σ' (Grow F U) L {H.cC k (cL A H.sp c).1 with sp:=(cL A H.sp c).2}->R (KA A H.sp c) σ'):XQ.c (aW Y.p) c U R:=by
 obtain⟨Y',G,D,a,_,m,b⟩:=h.oW hk;rw[hy]at a;cases a;refine PW m c λσ' G' D' i e g=>?_;have d:cK (cL A H.sp c).1 Y=cK A Y:=(CF A H.sp c).cK Y;obtain⟨e1,j⟩:=b σ' _ _ G' D' (CF A H.sp c).1 e i (by rw[d];exact g);exact hR σ' e1 j
theorem PD (h:HH U F L H)(hk:H.bY[k]?=some A)(hy:L.ys[k]?=some Y)(m a:Int){R:Int->Int->Hp->Prop}
 (hR:∀σ',Ext F U σ'->HH σ' (Grow F U) L {H.cC k (cA A H.sp m a).1 with sp:=(cA A H.sp m a).2}->R ((ZU A H.sp m a:Nat):Int) (Qi A H.sp m a) σ'):WK.c (aW Y.p) m a U R:=by
 obtain⟨Y',G,D,b,_,s,d⟩:=h.oW hk;rw[hy]at b;cases b;refine IW s m a λσ' G' D' j e i=>?_;have g:cK (cA A H.sp m a).1 Y=cK A Y:=(DF A H.sp m a).cK Y;obtain⟨e1,r⟩:=d σ' _ _ G' D' (DF A H.sp m a).1 e j (by rw[g];exact i);exact hR σ' e1 r
def Hw.dS (H:Hw)(t:Nat)(g:Th)(ls:List Li):Hw:={H with bQ:=H.bQ.set t {g with ls:=ls}}
theorem HH.kJ (h:HH U F L H)(hx:L.ts[t]?=some x)(hg:H.bQ[t]?=some g):∃G:Rg,(∀b,G b->F b)/\dZ U G x.c H.tb H.cf.dA g.ls/\∀(σ':Hp) (ls:List Li) (Y':gN) (Q:Rg),Y'.p=x.c.p->Ext G U σ'->(∀b,Q b->U.size<=b)->dZ σ' (λb=>Grow G U b/\¬Q b) Y' H.tb H.cf.dA ls →
 Ext F U σ'/\HH σ' (λb=>Grow F U b/\¬Q b) {L with ts:=L.ts.set t {x with c:=Y'}} (H.dS t g ls):=by
 obtain⟨G,i,s,d⟩:=h.oO hx hg;refine⟨G,i,s,λσ' ls Y' Q r e w m=>?_⟩;obtain⟨e1,u⟩:=d σ' ls Y' _ r e (λb a=>a.1) m;refine⟨e1,u.mono (λb _ a=>?_) (h.oG.sub λb a=>a.1) λa=>h.qN a.1⟩;rcases a with a|a
 ·exact⟨.inl a.1,λj=>by have:=a.2.1;have:=w b j;omega⟩
 ·exact⟨a.1.imp (i b) id,a.2⟩
theorem HH.kQ (h:HH U F L H)(hx:L.ts[t]?=some x)(hg:H.bQ[t]?=some g):∃G:Rg,(∀b,G b->F b)/\dZ U G x.c H.tb H.cf.dA g.ls/\∀(σ':Hp) (ls:List Li) (Y':gN),Y'.p=x.c.p->Ext G U σ'->dZ σ' (Grow G U) Y' H.tb H.cf.dA ls →
 Ext F U σ'/\HH σ' (Grow F U) {L with ts:=L.ts.set t {x with c:=Y'}} (H.dS t g ls):=by
 obtain⟨G,s,m,d⟩:=h.kJ hx hg;refine⟨G,s,m,λσ' ls Y' j e i=>?_⟩;obtain⟨e1,r⟩:=d σ' ls Y' (λ_=>False) j e (λb a=>a.elim) (i.mono λb _ a=>⟨a,id⟩);exact⟨e1,r.mono (λb _ a=>a.1) h.oG h.qN⟩
theorem PY (h:HH U F L H)(hx:L.ts[t]?=some x)(hg:H.bQ[t]?=some g)(hc:H.tb[k]?=some c)(hl:g.ls[k]?=some l){R:Int->Int->Hp->Prop}
 (hR:∀σ' ts',Ext F U σ'->HH σ' (Grow F U) {L with ts:=ts'} (H.dS t g (g.ls.set k (QY c l).2))->R ((QY c l).1.getD 0) (if(QY c l).1.isSome then 0 else 4) σ'):X2.c (aW x.c.p) (k:Int) U R:=by
 obtain⟨G,m,j,a⟩:=h.kQ hx hg;refine kT j hc hl λσ' Y' e d b=>?_;obtain⟨e1,i⟩:=a σ' _ Y' d e b;exact hR σ' _ e1 i
theorem MS (h:HH U F L H)(hx:L.ts[t]?=some x)(hg:H.bQ[t]?=some g)(hc:H.tb[k]?=some c)(hl:g.ls[k]?=some l){R:Int->Int->Hp->Prop}
 (hR:∀σ' ts',Ext F U σ'->HH σ' (Grow F U) {L with ts:=ts'} H->R ((GX c l:Nat):Int) 0 σ'):Ya.c (aW x.c.p) (k:Int) U R:=by
 obtain⟨G,m,j,a⟩:=h.kQ hx hg;refine O6 j hc hl λσ' Y' e i d=>?_;obtain⟨e1,b⟩:=a σ' _ Y' i e d;have e2:H.dS t g g.ls=H:=by
  unfold Hw.dS;rw[Z7 hg]
 rw[e2]at b;exact hR σ' _ e1 b
theorem NN (h:HH U F L H)(hx:L.ts[t]?=some x)(hg:H.bQ[t]?=some g)(hc:H.tb[k]?=some c)(hl:g.ls[k]?=some l){sl:Sl}{xs:List Int}{X:Rg}(hs:cU sl 1 (Wo xs) U X)(hX:∀q,X q->¬F q)(hfit:l.os.length+xs.length<=256){R:aN}
 (hR:∀σ' ts',Ext F U σ'->HH σ' (Grow F U) {L with ts:=ts'} (H.dS t g (g.ls.set k (eB xs.reverse l)))->R 0 σ'):XZ.c (aW x.c.p) (k:Int) sl U R:=by
 obtain⟨G,r,m,a⟩:=h.kQ hx hg;refine NZ m hc hl hs (λq b hg=>hX q b (r q hg)) hfit λσ' Y' e i d=>?_;obtain⟨e1,j⟩:=a σ' _ Y' i e d;exact hR σ' _ e1 j
theorem L9 (h:HH U F L H)(hx:L.ts[t]?=some x)(hg:H.bQ[t]?=some g)(hc:H.tb[k]?=some c)(hl:g.ls[k]?=some l)(y:Int){R:Sl->Int->Hp->Prop}
 (hR:∀σ' ts' s e (Q:Rg),Ext F U σ'->(∀q,Q q->U.size<=q)->bR s 1 (Wo (dJ c y l).1) σ' Q->HH σ' (λb=>Grow F U b/\¬Q b) {L with ts:=ts'} (H.dS t g (g.ls.set k (dJ c y l).2))->R s e σ'):Yz.c (aW x.c.p) (k:Int) y U R:=by
 obtain⟨G,z,w,a⟩:=h.kJ hx hg;refine OP w hc hl y λσ' Y' s j Q e r _ d i m=>?_;obtain⟨e1,u⟩:=a σ' _ Y' Q r e d m;exact hR σ' _ s j Q e1 d i u
theorem Iq (h:HH U F L H)(hx:L.ts[t]?=some x)(hg:H.bQ[t]?=some g){R:aO}(hR:∀σ',bK U σ'->R (decide (H.cf.dA<QO H.tb g.ls)) σ'):XW.c (aW x.c.p) U R:=by
 obtain⟨G,d,b,a⟩:=h.kQ hx hg;exact M0 b hR
theorem OS (hso:H4)(h:HH U F L H)(hx:L.ts[t]?=some x)(hg:H.bQ[t]?=some g){R:Sl->Hp->Prop}
 (hR:∀σ' s (Q:Rg),Ext F U σ'->(∀q,Q q->U.size<=q)->im s (QX ZF H.tb g.ls) σ' Q->HH σ' (λb=>Grow F U b/\¬Q b) L (H.dS t g (QS ZF H.tb g.ls))->R s σ'):Xx.c (aW x.c.p) U R:=by
 obtain⟨G,u,r,a⟩:=h.kJ hx hg;refine OB hso r λσ' s Q e i m j=>?_;obtain⟨e1,d⟩:=a σ' _ x.c Q rfl e i m;rw[show L.ts.set t {x with c:=x.c}=L.ts from Z7 hx]at d;exact hR σ' s Q e1 i j d
theorem Ll (hso:H4)(h:HH U F L H)(hx:L.ts[t]?=some x)(hg:H.bQ[t]?=some g){R:Sl->Hp->Prop}
 (hR:∀σ' s (Q:Rg),Ext F U σ'->(∀q,Q q->U.size<=q)->im s (QX KE H.tb g.ls) σ' Q->HH σ' (λb=>Grow F U b/\¬Q b) L (H.dS t g (QS KE H.tb g.ls))->R s σ'):WY.c (aW x.c.p) U R:=by
 obtain⟨G,u,r,a⟩:=h.kJ hx hg;refine Is hso r λσ' s Q e i m j=>?_;obtain⟨e1,d⟩:=a σ' _ x.c Q rfl e i m;rw[show L.ts.set t {x with c:=x.c}=L.ts from Z7 hx]at d;exact hR σ' s Q e1 i j d
def mU (S:aP)(L:dK)(tb:List bZ):Prop:=∀m,S m->∃(P:Rg) (ts:List eH) (H:Hw),HH m P {L with ts:=ts} H/\H.tb=tb
theorem mU.dD {S:aP}{tb:List bZ}(hS:mU S L tb){K:Sl->Prop}(hK:K L.dD):gE S .s (Addr.add ⟨L.p,0,none⟩ 0) K:=⟨L.dD,λm a=>by obtain⟨_,_,_,h,_⟩:=hS m a;rw[add_lit,h.hd.cell];rfl,hK⟩
theorem mU.fL {S:aP}{tb:List bZ}(hS:mU S L tb){K:Sl->Prop}(hK:K L.fL):gE S .s (Addr.add ⟨L.p,0,none⟩ 7) K:=⟨L.fL,λm a=>by obtain⟨_,_,_,h,_⟩:=hS m a;rw[add_lit,h.hd.cell];rfl,hK⟩
theorem mU.rA {S:aP}{tb:List bZ}(hS:mU S L tb)(h:HH U F L H)(hy:L.ys[k]?=some Y){K:Option Addr->Prop}(hK:K (some ⟨Y.p,0,none⟩)):Ix L.fL.a L.fL.len (k:Int) 1 λa=>gE S .p a K:=by
 have j:(fK (L.ys.map (·.p)))[k]?=some (.pointer (some ⟨Y.p,0,none⟩)):=by simp[fK,hy]
 obtain⟨b,o,i,_⟩:=h.mL.cell j;have x:=(cW.1 hy).1;have u:=h.mW;have:=h.s.ys;rw[i];refine ix O O ⟨_,λm r=>?_,hK⟩;obtain⟨_,_,_,e,_⟩:=hS m r;obtain⟨w,y,d,g⟩:=e.mL.cell j;rw[i]at d;cases d;rw[add_lit,show o+(k:Int).toNat*1=o+k by omega];exact g
theorem mU.rC {S:aP}(hS:mU S L H.tb)(h:HH U F L H)(hc:H.tb[k]?=some c){K:Int->Prop}(hK:K (c.size:Int)):Ix L.dD.a L.dD.len (k:Int) 3 λa=>gE S bN (a.add 0) K:=by
 have j:(fY H.tb)[3*k+0]?=some (.int .i64 (c.size:Int)):=(Gk hc).1;obtain⟨b,o,r,_⟩:=h.jA.cell j;have x:=(cW.1 hc).1;have u:=h.oe;rw[r];refine ix O O ⟨_,λm s=>?_,hK⟩;obtain⟨_,_,_,e,p⟩:=hS m s;rw[←p]at j;obtain⟨w,y,d,g⟩:=e.jA.cell j;have d:L.dD.a=_:=d;rw[r]at d;cases d;rw[add_lit,add_lit,show o+(k:Int).toNat*3+0=o+(3*k+0) by omega];exact g
end Go.Ar
namespace Go.Ar
open Go Go.Vc Go.Proofs
variable {U u u':Hp}{F B P Q:Rg}{L:dK}{H H':Hw}{t k n pb:Nat}{A:AR}{Y:Lay}{x:eH}{g:Th}{c:bZ}{l:Li}{cs:List Value}{parts:List (List Int)}{xs:List Int}
theorem HK.By (K:HK F U B u P L H)(e:Ext B u u'){B':Rg}(hB:∀b,B' b->B b\/u.size<=b/\b<u'.size):HK F U B' u' P L H:=by
 have r:=e.1;have m:=K.e.1;have i:iR B/\¬B 1:=⟨K.o.1.sub λb g=>(K.b b g).1,λg=>K.o.2 (K.b _ g).1⟩;refine⟨K.h.bS e (λb _ a d=>(K.p b a).2.1 d) i.1 i.2,K.e.dT e λb j=>.inr (K.b b j).1,λb a=>⟨(K.p b a).1,λg=>?_,by have:=(K.p b a).2.2;omega⟩,λb a=>?_,K.o⟩
 ·rcases hB b g with d|d
  ·exact(K.p b a).2.1 d
  ·have:=(K.p b a).2.2;omega
 ·rcases hB b a with d|d
  ·have:=K.b b d;omega
  ·omega
def sV (s:Sl):Value:=.slice s.a s.len s.cap
def l8 (pb:Nat)(parts:List (List Int)):Hp->Rg->Prop:=λu Q=>∃(ps:List Sl) (Qs:Nat->Rg),ps.length=parts.length/\Q pb/\bX u pb (ps.map sV)/\(∀j b,Qs j b->Q b/\b≠pb)/\(∀j j' b,Qs j b->Qs j' b->j=j') ∧
 ∀j s xs,ps[j]?=some s->parts[j]?=some xs->dH s 1 (Wo xs) u (Qs j)
theorem l8.loc (pb:Nat)(parts:List (List Int)):dM (l8 pb parts):=by
 rintro U H F G ⟨C,Qs,y,u,r,i,E,x⟩ D g;have p:=g pb r.lt u;obtain⟨e,z⟩:=r;refine⟨C,λj b=>Qs j b/\b<U.size,y,p.1,⟨e,p.2.trans z⟩,λj b d=>⟨(g b d.2 (i j b d.1).1).1,(i j b d.1).2⟩,λj w b a B=>E j w b a.1 B.1,λj s A a b=>(dH.loc _ _ _) _ _ _ _ (x j s A a b) D λb d m=>⟨⟨m,d⟩,(g b d (i j b m).1).2⟩⟩
theorem l8.add (h:l8 pb parts u Q){a m e1 e2:Nat}(hm:m=parts.length)(ha:parts[a]?=some xs)(y:Int)(hl:xs.length<=1000000){K:aP}(hK:∀u',Ext Q u u'->l8 pb (parts.set a (xs++[y])) u' (Grow Q u)->K u') :
 Ix (some ⟨pb,0,none⟩) m (a:Int) 1 λa1=>jq a1 u λt35=>Nw (.cells #[.int .i64 y] e1 (0,0)) u λn37 v4=>App t35 1 8 e2 [.int .i64 0] ⟨some n37,1,1⟩ v4 λt38 v5=>Ix (some ⟨pb,0,none⟩) m (a:Int) 1 λa39=>dN a39 (.slice t38.a t38.len t38.cap) v5 λv6=>K v6:=by
 obtain⟨B,Qs,Y,P,F,A,S,R⟩:=h;have M:=(cW.1 ha).1;have z:B[a]?=some (B[a]' O):=cV _;generalize (B[a]' O)=s at z;have i:=R a s xs z ha;have W:s.len=xs.length:=by have:=i.1;simp[Wo]at this;omega
 refine ix O O ?_;rw[add_lit,show 0+(a:Int).toNat*1=a by omega];refine F.uy (a:=s.a) (n:=s.len) (c:=s.cap) (by simp[z,sV]) ?_;refine nw (cs:=[.int .i64 y]) λv4 hz e d=>?_;have r:=(dH.loc _ _ _).bO ((dH.loc _ _ _).cut i) e;have L:=e.bT F id;refine r.app (x:=⟨some ⟨u.size,0,none⟩,1,1⟩) (ys:=[.int .i64 y]) rfl rfl ?_ (by simp[dQ]) ?_ ?_ mT λX v5 hl5 C G=>?_
 ·intro j w hw;rw[add_lit,zH,d.cell];exact hw
 ·simp only;omega
 ·simp only;omega
 have aa:=C.1;have H:bX v5 pb (B.map sV):=C.bT L λp=>(A a pb p.1).2 rfl;refine ix O O ?_;rw[add_lit,show 0+(a:Int).toNat*1=a by omega];refine H.s0 aE λu' N g=>?_;have hz6:=N.1;have J:Ext (· = pb) v5 u':=N.ext;have Z:Ext Q u u':=((bK.to e).trans (C.sub λb d=>(A a b d.1).1)).trans (J.sub λb d=>by rw[d];exact P);have U:=F.lt;refine hK u' Z ⟨B.set a X,λj b=>Qs j b/\b<u.size\/j=a/\v4.size<=b/\b<v5.size,by simp[Y],.inl P,?_,λj b d=>?_,λj V b d g=>?_,λj s2 ys D E=>?_⟩
 ·rw[vX];exact g
 ·rcases d with d|d
  ·exact⟨.inl (A j b d.1).1,(A j b d.1).2⟩
  ·exact⟨.inr O,O⟩
 ·rcases d with d|d<;>rcases g with g|g
  ·exact S j V b d.1 g.1
  ·omega
  ·omega
  ·omega
 ·by_cases hja:j=a
  ·subst hja;rw[zL O]at D;rw[zL M]at E;cases D;cases E;have:=(dH.loc _ _ _).bS ((dH.loc _ _ _).cut G) J λb _ d p=>by
    rcases d.1 with h7|h7
    ·exact(A j b h7.1).2 p
    ·omega
   have e7:Wo (xs++[y])=Wo xs++[.int .i64 y]:=by simp[Wo]
   rw[e7];refine(dH.loc _ _ _).mono this λb _ d=>?_;rcases d.1 with h7|h7
   ·exact .inl h7
   ·exact .inr ⟨rfl,h7,d.2⟩
  ·rw[zk (Ne.symm hja)]at D E;have:=(dH.loc _ _ _).cut (R j s2 ys D E);have:=(dH.loc _ _ _).bS ((dH.loc _ _ _).bS ((dH.loc _ _ _).bO this e) C λb _ d p=>hja (S j a b d.1 p.1)) J λb _ d p=>(A j b d.1).2 p;exact(dH.loc _ _ _).mono this λb _ d=>.inl d
theorem l8.get (h:l8 pb parts u Q){a m:Nat}(hm:m=parts.length)(ha:parts[a]?=some xs){K:Sl->Prop}(hK:∀s,dH s 1 (Wo xs) u Q->s.len=xs.length->K s):Ix (some ⟨pb,0,none⟩) m (a:Int) 1 λa1=>jq a1 u K:=by
 obtain⟨g,Qs,y,x,w,i,z,p⟩:=h;have r:=(cW.1 ha).1;have e:g[a]?=some (g[a]' O):=cV _;generalize (g[a]' O)=s at e;have d:=p a s xs e ha;refine ix O O ?_;rw[add_lit,show 0+(a:Int).toNat*1=a by omega];refine w.uy (a:=s.a) (n:=s.len) (c:=s.cap) (by simp[e,sV]) (hK s ((dH.loc _ _ _).mono d λb _ j=>(i a b j).1) ?_);have:=d.1;simp[Wo]at this;omega
theorem GK {bY:List AR}{x:Int}(h:0<=XO bY x):(XO bY x).toNat<bY.length/\XO bY x=((XO bY x).toNat:Int):=by
 refine⟨?_,O⟩;unfold XO at *;split at h
 ·omega
 ·rename_i hx;rw[zB hx];split at h
  ·rename_i i hi;have:=(List.findIdx?_eq_some_iff_findIdx_eq.1 hi).1;simp only[dE];exact this
  ·omega
theorem Lg {bY:List AR}{x:Int}{xs:List Int}(h:0<=XO bY x):((List.range bY.length).map (ZD bY xs)).set (XO bY x).toNat (ZD bY xs (XO bY x).toNat++[x])=(List.range bY.length).map (ZD bY (xs++[x])):=by
 have a:=GK h;apply zo;intro j;by_cases hj:j<bY.length
 ·by_cases e:(XO bY x).toNat=j
  ·subst e;rw[zL (by simpa using hj)];simp only[zd,m7 hj,zX,ZD,uq]
   congr 2
   rw[uG (by rw[←a.2];simp)];rfl
  ·rw[zk e];simp only[zd,m7 hj,zX,ZD,uq];have:List.filter (λy=>XO bY y==(j:Int)) [x]=[]:=by
    rw[uf (by simp only[zT];omega)];rfl
   rw[this,kP]
 ·rw[zV aE,zV aE]
theorem KF {K:aO}{body:(Bool->Hp->Prop)->Prop}(P:aO)(h1:∀r w,P r w->K r w)(h2:∀J:Bool->Hp->Prop,(∀r w,P r w->J r w)->body J):bV K body:=bV.intro (h2 K h1)
theorem yC {K:eL [.b]}{body:eL [.b]->Prop}(P:aO)(h1:∀r w,P r w->K r w)(h2:∀J:eL [.b],(∀r w,P r w->J r w)->body J):Jn [.b] K body:=Jn.intro (h2 K h1)
theorem tJ {K:eL []}{body:eL []->Prop}(P:aP)(h1:∀w,P w->K w)(h2:∀J:eL [],(∀w,P w->J w)->body J):Jn [] K body:=Jn.intro (h2 K h1)
theorem KW {H:Hw}{k:Nat}{part:Nat->List Int}(j:Nat):KM H k part (List.range (j+1))=(match (KM H k part (List.range j)).bY[j]? with
 | some A=>if part j=[]then KM H k part (List.range j)else(KM H k part (List.range j)).cC j (Zt A (k:Int) (part j))
 | none=>KM H k part (List.range j)):=by
 unfold KM;rw[pU,wH];rfl
theorem Oq {H:Hw}{k:Nat}{part:Nat->List Int}(j:Nat):(KM H k part (List.range j)).bY.length=H.bY.length:=by
 induction j with
 | zero=>rfl
 | succ j ih=>
  rw[KW];split
  ·split
   ·exact ih
   ·simp[Hw.cC,ih]
  ·exact ih
theorem RF {H:Hw}{k:Nat}{part:Nat->List Int}(j:Nat):(KM H k part (List.range j)).bQ=H.bQ:=by
 induction j with
 | zero=>rfl
 | succ j ih=>
  rw[KW];split
  ·split<;>exact ih
  ·exact ih
theorem G9 (H:Hw)(own k:Nat)(xs:List Int):(Hb H own k xs).bQ=H.bQ:=by
 unfold Hb;split
 ·split
  ·rfl
  ·rw[RF];split<;>rfl
 ·rfl
def AA (F:Rg)(U:Hp)(L:dK)(H:Hw)(pb:Nat)(parts:List (List Int))(cs:List Value)(w:Hp):Prop:=∃Q P:Rg,HK F U (λb=>b=U.size\/Q b) w P L H/\l8 pb parts w Q/\bX w U.size cs/\∀b,Q b->b≠U.size
theorem RN (h:HH U F L H){own:Nat}(ho:own<H.bY.length)(k:Nat){sl:Sl}{xs:List Int}{X:Rg}(hs:cU sl 1 (Wo xs) U X)(hX:∀b,b<U.size->X b->¬F b)(hcap:sl.len<=sl.cap)(hx:∀x∈xs,iE x/\0<=XO H.bY x)(hl:xs.length<=1000000){R:aP}
 (hR:∀σ',Ext F U σ'->HH σ' (Grow F U) L (Hb H own k xs)->R σ'):Zg.c (aW L.p) (own:Int) (k:Int) sl U R:=by
 refine Zg.o ?_;unfold Zg.v;have hsl:sl.len=xs.length:=by have:=hs.1;simp[Wo]at this;omega
 have ha2:=h.s.a2;have hal:=h.mW;have hs1:∀u,Ext F U u->cU sl 1 (Wo xs) u (λb=>X b/\b<U.size):=λu eu=>aH.bS (aH.cut hs) eu λb _ hx hf=>hX b hx.2 hx.1 hf;refine nw (cs:=[.int .i64 (k:Int),.slice sl.a sl.len sl.cap]) λv hz e d=>?_;have K1:=(HK.start h).box e hz;refine aG (K1.h.hd.rS rfl ?_);simp only;refine mk (n:=L.fL.len) O O λv1 hz1 e1 hb1=>?_;have K2:=K1.box e1 hz1;have hb2:=e1.bT d id;have V:l8 v.size ((List.range H.bY.length).map (ZD H.bY [])) v1 (λb=>b=v.size):=by
  refine⟨List.replicate H.bY.length ⟨none,0,0⟩,λ_ _=>False,by simp,rfl,?_,λj b d=>d.elim,λj j' b d=>d.elim,λj s ys g h2=>?_⟩
  ·have:(List.replicate L.fL.len [Value.slice none 0 0]).flatten=(List.replicate H.bY.length (⟨none,0,0⟩:Sl)).map sV:=by
    rw[hal];simp[sV]
   rw[←this];exact hb1
  ·simp only[zd,oy]at h2;obtain⟨a,_,rfl⟩:=h2;simp only[mr]at g;split at g
   ·cases g;exact dH.nil _ _ _ _
   ·cases g
 have hpl:∀ys:List Int,L.fL.len=((List.range H.bY.length).map (ZD H.bY ys)).length:=λys=>by simp[hal]
 refine hb2.rS rfl ?_;refine Z6 (a:=bN) (λ(z:Int) w=>∃i:Nat,z=(i:Int)/\i<=xs.length/\AA F U L H v.size ((List.range H.bY.length).map (ZD H.bY (xs.take i))) [.int .i64 (k:Int),.slice sl.a sl.len sl.cap] w) (λz _=>xs.length-z.toNat)
  ⟨0,rfl,O,λb=>b=v.size,_,⟨K2.h,K2.e,λb d=>⟨(K2.p b d).1,λhx=>(K2.p b d).2.1 (hx.imp .inr id),(K2.p b d).2.2⟩,λb d=>K2.b b (d.imp .inr id),K2.o⟩,V,hb2,λb d=>O⟩ ?_
 rintro z w ⟨i,rfl,hi,Q,P,K,V,C,hQ⟩;refine cQ (λE=>?_) λhge=>?_
 ·simp only at E;have hi':i<xs.length:=by omega
  have aa:xs[i]?=some xs[i]:=cV hi';generalize xs[i]=y at aa;have hy:=hx y (zG aa);refine(hs1 w K.e).nc aa (GC K.h y hy.1 λZ e1=>?_);have E:=GK hy.2;rw[E.2];have hP1:l8 v.size _ Z (λb=>Q b/\b<w.size):=(l8.loc _ _).bO ((l8.loc _ _).cut V) e1;have hpart:((List.range H.bY.length).map (ZD H.bY (xs.take i)))[(XO H.bY y).toNat]?=some (ZD H.bY (xs.take i) (XO H.bY y).toNat):=by
   simp only[zd,m7 E.1,zX]
  have hpl1:(ZD H.bY (xs.take i) (XO H.bY y).toNat).length<=1000000:=by
   have:=qW (λx=>XO H.bY x==(((XO H.bY y).toNat:Nat):Int)) (xs.take i);simp only[ZD];rw[zZ]at this;omega
  refine hP1.add (hpl _) hpart y hpl1 λw2 e2 hP2=>?_;rw[Lg hy.2]at hP2;have ht:xs.take i++[y]=xs.take (i+1):=by rw[k6,aa];rfl
  rw[ht]at hP2;have hz1:=e1.1;have hz2:=e2.1;refine cP (m:=i+1) O O ⟨⟨i+1,rfl,O,λb=>(Q b/\b<w.size)\/Z.size<=b/\b<w2.size,P,(K.fr e1).By (e2.sub λb d=>.inr d.1) λb d=>?_,(l8.loc _ _).mono hP2 λb d N=>?_,?_,λb d=>?_⟩,O⟩
  ·rcases d with d|d|d
   ·exact .inl (.inl d)
   ·exact .inl (.inr d.1)
   ·exact .inr d
  ·rcases N with N|N
   ·exact .inl N
   ·exact .inr ⟨N,d⟩
  ·exact e2.bT (e1.bT C id) λhx=>hQ _ hx.1 rfl
  ·have:=(K.b U.size (.inl rfl)).2;rcases d with d|d
   ·exact hQ b d.1
   ·omega
 ·have hii:i=xs.length:=by simp only at hge;omega
  subst hii;rw[mK]at V;obtain⟨A,hA⟩:∃A,H.bY[own]?=some A:=⟨_,cV ho⟩;obtain⟨Y,hY,_,_⟩:=h.ar hA;have D:Hb H own k xs=(if(ZD H.bY xs own).length=xs.length/\KY A (k:Int) xs=true then H.cC own (QR A (k:Int) xs)
   else KM (if(ZD H.bY xs own).length=xs.length then H.cC own (QR A (k:Int) xs)else H) k (ZD H.bY xs) (List.range H.bY.length)):=by
   unfold Hb;rw[hA]
  have hown:((List.range H.bY.length).map (ZD H.bY xs))[own]?=some (ZD H.bY xs own):=by
   simp only[zd,m7 ho,zX]
  refine tJ (λw=>¬((ZD H.bY xs own).length=xs.length/\KY A (k:Int) xs=true)/\AA F U L (if(ZD H.bY xs own).length=xs.length then H.cC own (QR A (k:Int) xs)else H) v.size ((List.range H.bY.length).map (ZD H.bY xs)) [.int .i64 (k:Int),.slice sl.a sl.len sl.cap] w) (λw hw=>?_) λJ hJ=>?_
  ·obtain⟨hno,hw⟩:=hw;rw[zB hno]at D;generalize hH1:(if(ZD H.bY xs own).length=xs.length then H.cC own (QR A (k:Int) xs)else H)=H1 at hw D
   have hH1l:H1.bY.length=H.bY.length:=by
    rw[←hH1];split
    ·simp[Hw.cC]
    ·rfl
   refine Z6 (a:=bN) (λ(z:Int) w=>∃j:Nat,z=(j:Int)/\j<=H.bY.length/\AA F U L (KM H1 k (ZD H.bY xs) (List.range j)) v.size ((List.range H.bY.length).map (ZD H.bY xs)) [.int .i64 (k:Int),.slice sl.a sl.len sl.cap] w) (λz _=>H.bY.length-z.toNat) ⟨0,rfl,O,hw⟩ ?_;rintro z w ⟨j,rfl,hj,Q,P,K,V,C,hQ⟩;refine cQ (λE=>?_) λhge=>?_
   ·simp only at E;have hj':j<H.bY.length:=by omega
    have hpj:((List.range H.bY.length).map (ZD H.bY xs))[j]?=some (ZD H.bY xs j):=by
     simp only[zd,m7 hj',zX]
    refine V.get (hpl _) hpj λs M S=>?_;have hfl:=Oq (H:=H1) (k:=k) (part:=ZD H.bY xs) j;obtain⟨B,hB⟩:∃B,(KM H1 k (ZD H.bY xs) (List.range j)).bY[j]?=some B:=⟨_,cV O⟩;have G:=KW (H:=H1) (k:=k) (part:=ZD H.bY xs) j;rw[hB]at G;simp only at G;refine cQ (λhpos=>?_) λhz0=>?_
    ·have W:ZD H.bY xs j≠[]:=λe=>by rw[e]at S;simp at S;omega
     rw[zB W]at G;obtain⟨Y,hY,_,_⟩:=K.h.ar hB;refine aG (K.h.hd.rS rfl (K.h.rA hY (C.rI rfl ?_)));refine OF K.h hB hY (k:Int) (dH.gY M) (λb _ N hp=>(K.p b hp).2.1 (.inr N)) (λx hx'=>(hx x (zI.1 hx').1).1) ?_ (dH.cap M) λZ e1 g=>?_
     ·have:=qW (λx=>XO H.bY x==(j:Int)) xs;simp only[ZD];omega
     ·have hz1:=e1.1;rw[←G]at g;refine cP (m:=j+1) O O ⟨⟨j+1,rfl,O,Q,_,K.to e1 g λb _ d=>d,(l8.loc _ _).bS V e1 λb _ N hp=>(K.p b hp).2.1 (.inr N),K.cT e1 C (.inl rfl),hQ⟩,O⟩
    ·have W:ZD H.bY xs j=[]:=BP O;rw[zC W]at G;refine cP (m:=j+1) O O ⟨⟨j+1,rfl,O,Q,P,by rw[G];exact K,V,C,hQ⟩,O⟩
   ·have hjj:j=H.bY.length:=by simp only at hge;omega
    subst hjj;rw[D]at hR;exact hR w K.e (K.fin h)
  ·refine V.get (hpl _) hown λs M S=>C.rS rfl ?_;refine cO (λheq=>?_) λW=>?_
   ·have ac:(ZD H.bY xs own).length=xs.length:=by simp only[zT]at heq;omega
    rw[zC ac]at D hJ;have hS:mU (λu=>(∃P' H',HH u P' L H'/\H'.tb=H.tb)/\bX u U.size [.int .i64 (k:Int),.slice sl.a sl.len sl.cap]) L H.tb:=λm hm=>by
     obtain⟨⟨P',H',g,h2⟩,_⟩:=hm;exact⟨P',L.ts,H',g,h2⟩
    refine⟨λu=>(∃P' H',HH u P' L H'/\H'.tb=H.tb)/\bX u U.size [.int .i64 (k:Int),.slice sl.a sl.len sl.cap],⟨⟨_,_,K.h,rfl⟩,C⟩,aG (hS.fL (hS.rA K.h hY ?_))⟩;refine⟨(k:Int),λm hm=>by rw[add_lit,hm.2.cell];rfl,⟨sl,λm hm=>by rw[add_lit,hm.2.cell];rfl,?_⟩⟩;refine MJ K.h hA hY (k:Int) (hs1 w K.e) (λx hx'=>(hx x hx').1) λZ e1 g=>?_;have K1:=K.to e1 g λb _ d=>d;refine⟨⟨⟨_,_,g,rfl⟩,K.cT e1 C (.inl rfl)⟩,?_⟩;have fin:∀r,r=KY A (k:Int) xs->((r=true->R Z)/\(r=false->J Z)):=λr hr=>by
     refine⟨λhr1=>?_,λhr1=>hJ Z ⟨λhx=>Bool.noConfusion ((hr1.symm.trans hr).trans hx.2),Q,_,K1,(l8.loc _ _).bS V e1 λb _ N hp=>(K.p b hp).2.1 (.inr N),K.cT e1 C (.inl rfl),hQ⟩⟩;rw[zC ⟨ac,by rw[←hr,hr1]⟩]at D;rw[D]at hR;exact hR Z K1.e (K1.fin h)
    refine KF (λr w=>w=Z/\r=KY A (k:Int) xs) (λr w' ⟨hw,hr⟩=>?_) λJ3 hJ3=>?_
    ·subst hw;exact cO (λg=>(fin r hr).1 g) λg=>(fin r hr).2 g
    ·refine cO (λg=>hJ3 _ _ ⟨rfl,?_⟩) λg=>hJ3 _ _ ⟨rfl,g.symm⟩;have:U2 A (k:Int) xs=0:=by
      unfold KY at g;simp only[zF,zU]at g;exact g.1
     rw[this,g];rfl
   ·have ab:¬(ZD H.bY xs own).length=xs.length:=by
     simp only[lu]at W;omega
    rw[zB ab]at hJ;exact hJ w ⟨λhx=>ab hx.1,Q,P,K,V,C,hQ⟩
theorem gD {w:Hp}(K:HK F U B w P L H)(hB:B n){p q:Int}(hb:bX w n [.int .i64 p,.int .i64 q]){x y:Int}{K':Int->Int->Hp->Prop}(hK:∀w',HK F U B w' P L H->K' x y w') :
 dN (Addr.add ⟨n,0,none⟩ 0) (.int .i64 x) w λv3=>dN (Addr.add ⟨n,0,none⟩ 1) (.int .i64 y) v3 λv4=>gp .i64 (Addr.add ⟨n,0,none⟩ 0) v4 λres=>gp .i64 (Addr.add ⟨n,0,none⟩ 1) v4 λoY=>K' res oY v4:=
 hb.s1 aA λv3 o3 a=>a.s1 aA λv4 o4 b4=>b4.rI rfl (b4.rI rfl (hK v4 ((K.own o3 hB).own o4 hB)))
theorem Sz (h:HH U F L H)(ht:t<H.bQ.length)(x:Int)(hx:iE x)(hr:bW H.live x=none->∀A∈H.bY,iI A)(hlen:∀g,H.bQ[t]?=some g->g.bP.length<=1000)(h0:∀b,bW H.live x=some b->0<=x){R:Value->Int->Int->Hp->Prop}
 (hR:∀σ' ts',Ext F U σ'->HH σ' (Grow F U) {L with ts:=ts'} (UI H t x).1->R (mH (UI H t x).2.1) (UI H t x).2.2.1 (UI H t x).2.2.2 σ'):Zj.c (aW L.p) (t:Int) x U R:=by
 refine Zj.o ?_;unfold Zj.v;refine nw (cs:=[.int .i64 0,.int .i64 0]) λv hz e hb=>?_;have K1:=(HK.start h).box e hz;refine aG (K1.h.hd.rM rfl ⟨_,K1.h.mP,?_⟩);refine nw (cs:=[.int .i64 0,.int .i64 0,.int .i64 0,.int .i64 0]) λv1 hz1 e1 hb1=>?_;have K2:=K1.box e1 hz1;have hbv:=e1.bT hb id;have s:U.size≠v.size:=by omega
 refine hb1.s1 aA λv2 o2 b2=>b2.s1 aA λv3 o3 b3=>b3.s1 aA λv4 o4 b4=>b4.s1 aA λv5 o5 b5=>?_;have K5:=(((K2.own o2 (.inr rfl)).own o3 (.inr rfl)).own o4 (.inr rfl)).own o5 (.inr rfl);have B:=Ws o5 (Ws o4 (Ws o3 (Ws o2 hbv s) s) s) s;have hL:L = {L with ts:=L.ts}:=rfl;cases hm:bW H.live x with
 | none=>
  have hno:UI H t x=(H,none,0,lj H x):=by unfold UI;rw[hm]
  rw[hno]at hR;simp only at hR;refine cD rfl ?_;refine tJ (λw=>lj H x=8/\bK v5 w) (λw ⟨h8,ew⟩=>?_) λJ Q=>?_
  ·rw[h8]at hR;exact gD (n:=U.size) (K5.fr ew) (.inl (.inr rfl)) (ew.bT B id) λC K'=>hR C L.ts K'.e (K'.fin h)
  ·refine GC K5.h x hx λv9 K=>?_;have K9:=K5.fr K;have hb9:=K.bT B id;refine cQ (λW=>?_) λhlt=>Q v9 ⟨zB O,K⟩;have V:=GK W;obtain⟨A,hA⟩:∃A,H.bY[(XO H.bY x).toNat]?=some A:=⟨_,cV V.1⟩;obtain⟨Y,hY,_,hAY⟩:=K9.h.ar hA;have a:lj H x=(match UE A x with
    | some (k,y)=>if 0<=k/\(y:Int)=x then(9:Int)else 8
    | none=>8):=by unfold lj;rw[zC W,hA];rfl
   rw[V.2];refine aG (K9.h.hd.rS rfl (K9.h.rA hY ?_));refine OH hAY (hr hm A (zG hA)) x hx (λE k y d hf=>?_) λE d hf=>?_
   ·rw[hf]at a;simp only at a;rw[a]at hR Q;have K10:=K9.fr d;have P:=d.bT hb9 id;refine KF (λr w=>w=E/\r=decide (0<=k)) (λr w ⟨M,i⟩=>?_) λJ1 G=>?_
    ·subst M;subst i;refine KF (λr w2=>w2=w/\r=decide (0<=k/\(y:Int)=x)) (λr w2 ⟨M,i⟩=>?_) λJ2 X=>?_
     ·subst i;rw[M];refine cQ (λz=>?_) λz=>?_
      ·rw[zC z]at hR;exact gD (n:=U.size) K10 (.inl (.inr rfl)) P λC K'=>hR C L.ts K'.e (K'.fin h)
      ·exact Q w ⟨zB z,K.trans d⟩
     ·refine cQ (λz=>X _ _ ⟨rfl,?_⟩) λz=>X _ _ ⟨rfl,?_⟩
      ·by_cases hyx:(y:Int)=x
       ·rw[zJ (⟨z,hyx⟩:0<=k/\(y:Int)=x),zT.2 hyx]
       ·rw[zM (λhx=>hyx hx.2),lu.2 hyx]
      ·rw[zM (λhx=>z hx.1)]
    ·exact cD rfl (G _ _ ⟨rfl,rfl⟩)
   ·rw[hf]at a;simp only at a;rw[a]at Q;refine KF (λr w=>w=E/\r=false) (λr w ⟨M,i⟩=>?_) λJ1 G=>cB rfl (G _ _ ⟨rfl,rfl⟩);subst M;subst i;exact bV.intro (cB rfl (cB rfl (Q w ⟨rfl,K.trans d⟩)))
 | some b=>
  have hb0:=h0 b hm;have hfd:UI H t x=(if b.2.2.1<0 then({H with live:=cS H.live x},some (.dC (x/256) b.2.2.2),0,0)
   else(QF {H with live:=cS H.live x} t b.2.2.1.toNat [x],some (.put b.2.2.1.toNat x),0,0)):=by unfold UI;rw[hm]
  rw[hfd]at hR;have hgb:(bW H.live x).getD ((0,0,0,0):Bk)=b:=by rw[hm];rfl
  rw[hgb]at b5;refine cB rfl ?_;refine aG (K5.h.hd.rM rfl ?_);obtain⟨hF,N⟩:=K5.h.rH;refine⟨_,K5.h.mP,λv6 o6 _ hm6=>?_⟩;obtain⟨e6,h6⟩:=N v6 _ (o6 _ rfl) hm6;have K6:=K5.to e6 h6 λb _ hb=>.inl hb;have ac:=K5.cT e6 B (.inl (.inr rfl));have m:=K5.cT e6 b5 (.inr rfl);refine m.rI rfl (cQ (λaa=>?_) λhnn=>?_)
  ·have D:b.2.2.1<0:=aa;rw[zC D]at hR;refine nz aB (ar (by rw[XP O];omega) (by rw[XP O];unfold iE at hx;omega) (m.rI rfl ?_));rw[XP O];exact gD (n:=U.size) K6 (.inl (.inr rfl)) ac λC K'=>hR C L.ts K'.e (K'.fin h)
  ·have ab:¬b.2.2.1<0:=hnn;rw[zB ab]at hR;refine m.rI rfl (nw (cs:=[.int .i64 x]) λv7 hz7 e7 hb7=>?_);have K7:=K6.box e7 hz7;have Z:=e7.bT ac id;have hc7:=e7.bT m id;have S:b.2.2.1=((b.2.2.1.toNat:Nat):Int):=by omega
   have hs7:cU ⟨some ⟨v6.size,0,none⟩,1,1⟩ 1 (Wo [x]) v7 (· = v6.size):=hb7.gY (o:=0) rfl rfl λj hj=>by rw[zH];rfl
   have hz6:=K6.e.1;rw[S];refine Gj K7.h (t:=t) ht b.2.2.1.toNat hs7 (zD _) aA (λq _ u hp=>(K7.p q hp).2.1 (.inr u)) (K7.o.1.sub λq u=>O) (λu=>K7.o.2 O) hlen λv8 ts8 e8 h8=>?_;have K8:=(K6.fr e7).sA e8 h8 λq hql u=>by
    rcases u with u|u
    ·exact u.imp id .inl
    ·refine .inr (.inr ⟨.inr O,λhB=>?_⟩);have:=(K6.b q hB).2;omega
   have hb8:=K7.cT e8 Z (.inl (.inl (.inr rfl)));have hc8:=K7.cT e8 hc7 (.inl (.inr rfl));refine hc8.rI (x:=((b.2.2.1.toNat:Nat):Int)) (by rw[←S];rfl) ?_;exact gD (n:=U.size) K8 (.inl (.inr rfl)) hb8 λC K'=>hR C ts8 K'.e (K'.fin h)
end Go.Ar
namespace Go.Ar
open Go Go.Vc Go.Proofs
variable {U u u':Hp}{F B P Q:Rg}{L:dK}{H H':Hw}{t k n pb:Nat}{A:AR}{Y:Lay}{x:eH}{g:Th}{c:bZ}{l:Li}{cs:List Value}
theorem rU {t' t:TypeId}{w:Value}{A B:Prop}(hne:t'≠t)(h:B):∃is:Bool,jZ (.iface t' w) t [] [] is/\If is A B:=⟨false,⟨rfl,.inr ⟨_,_,rfl,hne⟩⟩,cB rfl h⟩
theorem kZ {t' t:TypeId}{w:Value}{A B:Int->Prop}(hne:t'≠t)(h:B 0):∃x:Int,∃is:Bool,jZ (.iface t' w) t [.int .i64 x] [.int .i64 0] is/\If is (A x) (B x):=⟨0,false,⟨rfl,.inr ⟨_,_,rfl,hne⟩⟩,cB rfl h⟩
theorem jb {t' t:TypeId}{w:Value}{A B:Int->Int->Prop}(hne:t'≠t)(h:B 0 0):∃x:Int,∃y:Int,∃is:Bool,jZ (.iface t' w) t [.int .i64 x,.int .i64 y] [.int .i64 0,.int .i64 0] is/\If is (A x y) (B x y):=⟨0,0,false,⟨rfl,.inr ⟨_,_,rfl,hne⟩⟩,cB rfl h⟩
theorem AN {t:TypeId}{A B:Prop}(h:A):∃is:Bool,jZ (.iface t (.agg #[])) t [] [] is/\If is A B:=⟨true,rfl,cD rfl h⟩
theorem Aj {t:TypeId}{a:Int}{A B:Int->Prop}(h:A a):∃x:Int,∃is:Bool,jZ (.iface t (.agg #[.int .i64 a])) t [.int .i64 x] [.int .i64 0] is/\If is (A x) (B x):=⟨a,true,rfl,cD rfl h⟩
theorem vq {t:TypeId}{a b:Int}{A B:Int->Int->Prop}(h:A a b):∃x:Int,∃y:Int,∃is:Bool,jZ (.iface t (.agg #[.int .i64 a,.int .i64 b])) t [.int .i64 x,.int .i64 y] [.int .i64 0,.int .i64 0] is/\If is (A x y) (B x y):=⟨a,b,true,rfl,cD rfl h⟩
theorem HH.tc (h:HH u P L H)(hx:L.ts[t]?=some x)(hg:H.bQ[t]?=some g){b o:Nat}(ha:L.cN.a=some ⟨b,o,none⟩){d:Nat}(hd:d<3){v:Value}(hv:(jj (x,g))[d]?=some v):cell u (Addr.add ⟨b,o+3*t,none⟩ d)=some v:=by
 obtain⟨j,m,e,i⟩:=GQ h.mX hx hg hd hv;rw[ha]at e;cases e;rw[add_lit,show o+3*t+d=o+(3*t+d) by omega];exact i
theorem HH.wy (h:HH u P L H)(hP:∀b,P b->b<u.size)(hx:L.ts[t]?=some x)(hg:H.bQ[t]?=some g)(N:Rg)(hN:∀b,b<u.size->P b->¬N b)(oN:iR N)(oN2:¬N 1) :
 ∃G D:Rg,(∀b,G b->P b)/\(∀b,D b->P b)/\(∀b,G b->¬D b)/\im x.h g.bP u G/\(∀u1,Ext G u u1->cU L.cN 3 (gR L.ts H.bQ) u1 D) ∧
 ∀(u1:Hp) (s:Sl) (bs:List Bt) (G':Rg),Ext G u u1->(∀b,G' b->G b\/N b)->im s bs u1 G'->∀{b o:Nat} (ha:L.cN.a=some ⟨b,o,none⟩) {K:aP},
  (∀u2,Ext D u1 u2->HH u2 (λb=>P b/\¬G b\/G' b/\b<u1.size) {L with ts:=L.ts.set t {x with h:=s}} {H with bQ:=H.bQ.set t {g with bP:=bs}}->K u2) →
  dN (Addr.add ⟨b,o+3*t,none⟩ 1) (.slice s.a s.len s.cap) u1 K:=by
 have V:=h.lN;have J:=Ho h.s.ts;have S:=(cW.1 hg).1;obtain⟨G,D,B,y,hd,U,E,_,r⟩:=h.rj hx hg N hN oN oN2;have p:∀u1,Ext G u u1->bR L.cN 3 (gR L.ts H.bQ) u1 D:=λu1 e=>aI.bS E e λb _ d hx=>hd b hx d;refine⟨G,D,B,y,hd,U,λu1 e=>bR.gY (p u1 e),λu1 s bs G' e i A b o ha K F=>?_⟩;have R:o=0:=by
  rcases E.2 with⟨h0,_⟩|⟨M,_,_,ha',_⟩
  ·omega
  ·rw[ha]at ha';cases ha';rfl
 subst R;have m:∀b,G' b->¬D b:=λb d hx=>by
  rcases i b d with h1|h1
  ·exact hd b h1 hx
  ·exact hN b (hP b (y b hx)) (y b hx) h1
 refine(p u1 e).st (j:=3*t+1) O (λM w=>by rw[ha]at w;cases w;rw[add_lit];congr 1;omega) λu2 e2 C=>?_;have z:=(im.loc _ _).bS ((im.loc _ _).cut A) e2 λb _ d hx=>m b d.1 hx;obtain⟨W,Q⟩:=r u2 s bs (Cut G' u1) D ((e.sub λb d=>.inl d).trans (e2.sub λb d=>.inr d)) (λb d=>(i b d.1).imp .inl id) (λb d=>.inl (.inr d)) (λb d=>m b d.1) z C;refine F u2 e2 (Q.mono (λb _ d=>?_) (λb (d:P b/\¬G b\/G' b/\b<u1.size)=>?_) λ(d:P _/\¬G _\/G' _/\_<u1.size)=>?_)
 ·rcases d with d|d|d
  ·exact .inl ⟨d.1,λhx=>d.2.2 (.inl hx)⟩
  ·exact .inr d
  ·exact .inl ⟨y b d,λhx=>hd b hx d⟩
 ·rcases d with d|d
  ·exact h.o b d.1
  ·exact(i b d.1).elim (λhx=>h.o b (B b hx)) (oN b)
 ·rcases d with d|d
  ·exact h.o2 d.1
  ·exact(i _ d.1).elim (λhx=>h.o2 (B _ hx)) oN2
theorem im.mh {s:Sl}{G:Rg}{xs:List Int}{r:List Bt}(h:im s ((k,xs)::r) u G):∃(so:Sl) (ps:List (Nat×Sl)) (D:Rg),dH s 2 (fE ((k,so)::ps)) u (λb=>G b/\¬D b)/\cU so 1 (Wo xs) u (λb=>D b/\kF so b)/\so.len<=so.cap/\kj ps r u (λb=>D b/\¬kF so b)/\(∀b,D b->G b)/\uK ps/\(∀x∈r,x.2≠[])/\xs≠[]:=by
 obtain⟨ps,D,e,j,B,J,g⟩:=h;cases ps with
 | nil=>have:=j.1;simp at this
 | cons p ps=>
  obtain⟨E,so⟩:=p;obtain⟨e1,w,z⟩:=j.2 0 (E,so) (k,xs) rfl rfl;simp only at e1 w z;subst e1;have d:=rf.1 J;refine⟨so,ps,D,e,w.lf,z,⟨by have:=j.1;simpa using this,λi p x y m=>?_⟩,B,d.2,λx m=>g x (nF _ m),g _ py⟩;obtain⟨C,L,M⟩:=j.2 (i+1) p x (by simpa using y) (by simpa using m);refine⟨C,aH.mono L.lf λb _ A=>⟨A.1,?_⟩,M⟩;rintro⟨a,h1,h2⟩;obtain⟨H,F,K⟩:=A.2;exact d.1 p (zG y) a H h1 F (h2.trans K.symm)
theorem im.lC {s:Sl}{G:Rg}{b:Bt}{r:List Bt}(h:im s (b::r) u G):im ⟨if s.cap=1 then s.a else s.a.map (·.add (1*2)),s.len-1,s.cap-1⟩ r u G:=by
 have m:=h.len;obtain⟨k,z⟩:=b;obtain⟨A,j,D,d,x,y,w,g,i,e,B⟩:=h.mh;exact⟨j,D,d.from (lo:=1) (by simp at m;omega),(kj.loc _ _).mono w λb _ p=>p.1,g,i,e⟩
theorem EC {s so:Sl}{ps:List (Nat×Sl)}{G:Rg}(h:cU s 2 (fE ((k,so)::ps)) u G){K:Addr->Prop}(hK:∀a,cell u (Addr.add a 0)=some (.int .i64 (k:Int))->cell u (Addr.add a 1)=some (.slice so.a so.len so.cap)->K a):Ix s.a s.len 0 2 K:=by
 obtain⟨b,o,g,m⟩:=h.cell (j:=0) (v:=.int .i64 (k:Int)) rfl;obtain⟨p,r,d,e⟩:=h.cell (j:=1) (v:=.slice so.a so.len so.cap) rfl;have i:=h.1;rw[Kw]at i;simp only[zY]at i;rw[g]at d;cases d;rw[g];refine ix O O ?_;rw[add_lit];exact hK _ (by rw[add_lit];exact m) (by rw[add_lit];exact e)
theorem im.app {s s2:Sl}{G Q:Rg}{bs bs2:List Bt}{e:Nat}(h:im s bs u G)(h2:im s2 bs2 u Q)(hd:∀b,G b->¬Q b)(hl:bs.length+bs2.length<=1000){K:Sl->Hp->Prop}
 (hK:∀s' u',Ext G u u'->im s' (bs++bs2) u' (λb=>G b\/Q b\/u.size<=b)->K s' u'):App s 2 32 e [.int .i64 0,.slice none 0 0] s2 u K:=by
 have l1:=h.len;have l2:=h2.len;obtain⟨W,D,w,H,U,F,A⟩:=h;obtain⟨E,D2,z,m,r,S,y⟩:=h2;by_cases h0:s2.len=0
 ·have V:bs2=[]:=BP O;subst V;refine w.sv h0 (by
   have:s.len*32<=1000*32:=lV (by simp at hl;omega) O;omega) (by simp at hl;omega) λR=>hK _ u (Ext.refl _ _) ?_
  rw[kP];exact⟨W,D,(dH.loc _ _ _).mono R λb _ d=>⟨.inl d.1,d.2⟩,H,λb d=>.inl (U b d),F,A⟩
 ·have e1:(s.len+s2.len)*32<=1000*32:=lV O O;refine((dH.loc _ _ _).cut w).app (ys:=fE E) rfl (by rw[Kw];have:=m.1;omega) z.gY.rd U4 O O O λs' u' _ L R=>hK s' u' (L.sub λb d=>d.1.1) ?_;have hz:=L.1;have X:=H.1;refine⟨W++E,λb=>D b/\b<u.size\/D2 b/\b<u.size,?_,⟨by simp[H.1,m.1],λi p x B g=>?_⟩,λb d=>?_,px.2 ⟨F,S,λp B q hq a a' N M e3=>?_⟩,λx g=>(zK.1 g).elim (A x) (y x)⟩
  ·rw[UD];refine(dH.loc _ _ _).mono R λb _ d=>?_;rcases d with d|d
   ·exact⟨.inl d.1.1,λg=>g.elim (λg=>d.1.2 g.1) λg=>hd b d.1.1 (r b g.1)⟩
   ·exact⟨.inr (.inr d),λg=>by rcases g with g|g<;>omega⟩
  ·rcases ke i W.length with C|C
   ·rw[ze C]at B;rw[ze O]at g;obtain⟨P,Z,Y⟩:=H.2 i p x B g;exact⟨P,aH.mono (aH.bS (aH.cut Z) L λb _ d g=>g.1.2 d.1) λb _ d=>.inl d,Y⟩
   ·rw[zp C]at B;rw[zp O,←X]at g;obtain⟨P,Z,Y⟩:=m.2 _ p x B g;exact⟨P,aH.mono (aH.bS (aH.cut Z) L λb _ d g=>hd b g.1.1 (r b d.1)) λb _ d=>.inr d,Y⟩
  ·rcases d with d|d
   ·exact .inl (U b d.1)
   ·exact .inr (.inl (r b d.1))
  ·obtain⟨i,C⟩:=zQ B;obtain⟨j,F⟩:=zQ hq;have hil:=(cW.1 C).1;have hjl:=(cW.1 F).1;have hy:bs[i]?=some (bs[i]' O):=cV _;have J:bs2[j]?=some (bs2[j]'(by have:=m.1;omega)):=cV _;have b1:=(H.2 i p _ C hy).2.1.bT (by simpa[Wo]using A _ (zG hy)) ⟨a,N,rfl⟩;have b2:=(m.2 j q _ F J).2.1.bT (by simpa[Wo]using y _ (zG J)) ⟨a',M,rfl⟩;rw[e3]at b1;exact hd _ (U _ b1.1) (r _ b2.1)
theorem HK.vT (K:HK F U B u P L H){B':Rg}(h1:∀b,B' b->U.size<=b/\b<u.size/\¬P b):HK F U (λb=>B b\/B' b) u P L H:=
 ⟨K.h,K.e,λb a=>⟨(K.p b a).1,λg=>g.elim (K.p b a).2.1 λd=>(h1 b d).2.2 a,(K.p b a).2.2⟩,λb a=>a.elim (K.b b) λd=>⟨(h1 b d).1,(h1 b d).2.1⟩,K.o⟩
theorem Zr (hg:H.bQ[t]?=some g)(f:Th->Th):H.dV t f = {H with bQ:=H.bQ.set t (f g)}:=by
 unfold Hw.dV;rw[KJ hg]
theorem HV (hg:H.bQ[t]?=some g):H.jR t=g:=by unfold Hw.jR;rw[zP,hg];rfl
theorem VV (hc:H.tb[k]?=some c):H.cls k=c:=by unfold Hw.cls;rw[zP,hc];rfl
theorem yd (hl:g.ls[k]?=some l):g.li k=l:=by unfold Th.li;rw[zP,hl];rfl
theorem BR (ha:H.bY[H.own t]?=some A):H.eA t=A:=by unfold Hw.eA;rw[zP,ha];rfl
theorem jW (h:HS L H)(t:Nat):H.own t<H.bY.length:=ug _ (by have:=h.a1;omega)
theorem HH.AZ (h:HH u P L H)(hx:L.ts[t]?=some x)(hg:H.bQ[t]?=some g):g.ls.length=H.tb.length:=by
 obtain⟨G,_,a,_⟩:=h.oO hx hg;exact a.len
theorem CD (ha:H.bY[k]?=some A):H.cC k A=H:=by unfold Hw.cC;rw[Z7 ha]
theorem N2 (l:List Nat):ints l=Wo (l.map λ(x:Nat)=>(x:Int)):=by simp[ints,Wo]
theorem GL (f:bZ->Li->List Int×Li)(tb:List bZ)(ls:List Li):(QX f tb ls).length<=tb.length:=by
 unfold QX;exact zh (List.length_filterMap_le _ _) aA
theorem HH.qy (h:HH u P L H):H.tb.length<=40:=by
 obtain⟨x,g,a,d⟩:=h.th (t:=0) h.s.t1;obtain⟨G,_,b,_⟩:=h.oO a d;exact b.m6
theorem PT {s:Sl}{b o:Nat}(ha:s.a=some ⟨b,o,none⟩)(hl:0<s.len){K:Addr->Prop}(hK:K ⟨b,o+0,none⟩):Ix s.a s.len 0 1 K:=by
 rw[ha];exact ix (wQ _) O (by rw[add_lit];exact hK)
theorem Sn {s:Sl}{ps:List (Nat×Sl)}{G:Rg}(h:cU s 2 (fE ps) U G)(hl:s.len<=1000000){R:Sl->Hp->Prop}(hR:∀s' σ',s'.len=s.len->bK U σ'->bR s' 2 (fE ps) σ' (λb=>U.size<=b)->R s' σ'):Wq.c s U R:=by
 refine Wq.o ?_;unfold Wq.v;exact EP h O rfl U4 O hl hR
def tO (H:Hw)(t:Nat):Ph->Prop
 | .take k=>k<H.tb.length/\∀y l,QY (H.cls k) ((H.jR t).li k)=(some y,l)->iE y
 | .cH k _=>k<H.tb.length/\(ZW (H.eA t) (k:Int)=0->Yq (H.eA t) (k:Int)≠[])
 | .cJ _ _=>True
 | .grow _ _=>True
 | .fill=>∃k x xs r,(H.jR t).bP=(k,x::xs)::r/\k<H.tb.length/\iE x/\((H.jR t).li k).os.length+xs.length<=256
 | .eD m=>ZU (H.eA t) H.sp (m:Int) 1<=1000000
 | .find x=>iE x/\(bW H.live x=none->∀A∈H.bY,iI A)/\∀b,bW H.live x=some b->0<=x
 | .put k _=>k<H.tb.length/\(H.jR t).bP≠[]
 | .back=>∃k xs r,(H.jR t).bP=(k,xs)::r/\(∀x∈xs,iE x/\0<=XO H.bY x)/\xs.length<=1000000
 | .dC _ a=>0<=a/\a.toNat<H.bY.length/\∀A∈H.bY,∀r∈A.runs,r.1<=1000000
 | .drain=>True
def Si (U:Hp)(F:Rg)(L:dK)(o:sN)(R:Value->Int->Int->Hp->Prop):Prop:=∀σ' ts',Ext F U σ'->HH σ' (Grow F U) {L with ts:=ts'} o.1->R (mH o.2.1) o.2.2.1 o.2.2.2 σ'
set_option maxRecDepth 8000 in
theorem MT (hso:H4)(h:HH U F L H)(ht:t<H.bQ.length)(p:Ph)(hp:tO H t p)(hlen:∀g,H.bQ[t]?=some g->g.bP.length<=900){R:Value->Int->Int->Hp->Prop}(hR:Si U F L (Wt H t p) R) :
 Zm.c (aW L.p) (t:Int) (mH (some p)) U R:=by
 refine Zm.o ?_;unfold Zm.v;have hlen':∀g,H.bQ[t]?=some g->g.bP.length<=1000:=λg hg=>by have:=hlen g hg;omega
 refine nw (cs:=[.int .i64 0,.int .i64 0]) λv hz e i=>?_;have K1:=(HK.start h).box e hz;obtain⟨x,g,E,hg⟩:=h.th ht;have hlen:=hlen g hg;have htg:=HV hg;have hol:=jW h.s t;obtain⟨A,hA⟩:∃A,H.bY[H.own t]?=some A:=⟨_,cV hol⟩;have hAe:=BR hA;obtain⟨Y,hY,_,_⟩:=h.ar hA;refine aG (K1.h.hd.rS rfl ?_);refine Ap K1.h.mX K1.h.s.ts E hg (d:=0) O rfl λtb0 to0 ha _=>?_;have hS1:mU (λu=>u=v) L H.tb:=λm hm=>by cases hm;exact⟨_,L.ts,H,K1.h,rfl⟩
 refine⟨λu=>u=v,rfl,aG (hS1.fL (E4 K1.h t ⟨rfl,K1.h.rA hY ⟨rfl,?_⟩⟩))⟩;refine tJ (λw=>∃P ts',HK F U (λb=>False\/b=U.size) w P {L with ts:=ts'} (Wt H t p).1/\bX w U.size [.int .i64 0,.int .i64 0]/\(Wt H t p).2=(none,0,0)) (λw ⟨P,ts',K,hbw,X⟩=>?_) λJ hJ=>?_
 ·refine gD (n:=U.size) K (.inr rfl) hbw λw' K'=>?_;have:=hR w' ts' K'.e (K'.fin h);rw[X]at this;exact this
 cases p with
 | take k=>
  obtain⟨hk,hy9⟩:k<H.tb.length/\∀y l,QY (H.cls k) ((H.jR t).li k)=(some y,l)->iE y:=hp;obtain⟨c,hc⟩:∃c,H.tb[k]?=some c:=⟨_,cV hk⟩;have hll:=h.AZ E hg;obtain⟨l,hl⟩:∃l,g.ls[k]?=some l:=⟨_,cV (by rw[hll];exact hk)⟩;have hce:=VV hc;have hle:=yd hl;rw[hce,htg,hle]at hy9;refine Aj (nw (cs:=[.int .i64 0]) λv5 M Z N=>?_);have K5:=K1.box Z M;refine N.s0 aA λv6 o6 hb6=>?_;have K6:=K5.own o6 (.inr rfl);have C:=Ws o6 (Z.bT i id) O;refine⟨λu=>u=v6,rfl,aG ⟨some ⟨x.c.p,0,none⟩,λu V=>by cases V;exact K6.h.tc E hg ha O rfl,⟨(k:Int),λu V=>by cases V;rw[add_lit,hb6.cell];rfl,?_⟩⟩⟩;refine PY K6.h E hg hc hl λv7 ts7 W h7=>?_;have K7:=K6.to W h7 λb _ i=>i;have hb7:=K6.cT W hb6 (.inr rfl);have B:=K6.cT W C (.inl (.inr rfl));cases htk:QY c l with
  | mk o l'=>
  rw[htk]at h7 K7;cases o with
  | some y=>
   have X:Wt H t (.take k)=(Vm (H.dS t g (g.ls.set k l')) y (c.size:Int) (k:Int),none,y,0):=by
    simp only[Wt,hce,htg,hle,htk,Zr hg];rfl
   rw[X]at hR;have hS2:mU (λu=>(∃P ts H',HH u P {L with ts:=ts} H'/\H'.tb=H.tb)/\bX u v.size [.int .i64 (k:Int)]) L H.tb:=λm hm=>hm.1;refine cD rfl ⟨λu=>(∃P ts H',HH u P {L with ts:=ts} H'/\H'.tb=H.tb)/\bX u v.size [.int .i64 (k:Int)],⟨⟨_,_,_,K7.h,rfl⟩,hb7⟩,aG (hS2.dD ⟨(k:Int),λu V=>by rw[add_lit,V.2.cell];rfl,?_⟩)⟩;refine mU.rC (L:={L with ts:=ts7}) (H:=H.dS t g (g.ls.set k l')) hS2 K7.h hc ⟨(k:Int),λu V=>by rw[add_lit,V.2.cell];rfl,?_⟩;refine Aw K7.h y (c.size:Int) (k:Int) (hy9 y l' htk) λv8 e8 h8=>?_;have K8:=K7.to e8 h8 λb _ i=>.inl i;refine⟨⟨⟨_,_,_,h8,rfl⟩,K7.cT e8 hb7 (.inr rfl)⟩,?_⟩;exact gD (n:=U.size) K8 (.inl (.inr rfl)) (K7.cT e8 B (.inl (.inr rfl))) λw' K'=>hR w' ts7 K'.e (K'.fin h)
  | none=>
   have X:Wt H t (.take k)=(H.dS t g (g.ls.set k l'),some (.cH k (GX c l')),0,0):=by
    simp only[Wt,hce,htg,hle,htk,Zr hg];rfl
   rw[X]at hR;have htlt:=(cW.1 hg).1;have hklt:=(cW.1 hl).1;have hg7:(H.dS t g (g.ls.set k l')).bQ[t]?=some {g with ls:=g.ls.set k l'}:=by simp[Hw.dS,htlt]
   obtain⟨x7,g7,hx7,_⟩:=K7.h.th (t:=t) (by simp[Hw.dS,htlt]);have hl7:({g with ls:=g.ls.set k l'}:Th).ls[k]?=some l':=by simp[hklt]
   refine cB rfl ⟨λu=>u=v7,rfl,aG ⟨some ⟨x7.c.p,0,none⟩,λu V=>by cases V;exact K7.h.tc hx7 hg7 ha O rfl,⟨(k:Int),λu V=>by cases V;rw[add_lit,hb7.cell];rfl,?_⟩⟩⟩;refine MS K7.h hx7 hg7 hc hl7 λv8 ts8 e8 h8=>?_;have K8:=K7.to e8 h8 λb _ i=>i;refine(K7.cT e8 hb7 (.inr rfl)).rI rfl ?_;exact gD (n:=U.size) K8 (.inl (.inr rfl)) (K7.cT e8 B (.inl (.inr rfl))) λw' K'=>hR w' ts8 K'.e (K'.fin h)
 | cH k w=>
  obtain⟨hk,hne0⟩:k<H.tb.length/\(ZW (H.eA t) (k:Int)=0->Yq (H.eA t) (k:Int)≠[]):=hp;rw[hAe]at hne0;obtain⟨c,hc⟩:∃c,H.tb[k]?=some c:=⟨_,cV hk⟩;have hce:=VV hc;refine kZ aB (vq (nw (cs:=[.int .i64 0,.int .i64 0]) λv5 M Z N=>?_));have K5:=K1.box Z M;refine N.s1 aA λv5b o5 b5=>b5.s1 aA λv6 o6 b6=>?_;have K6:=(K5.own o5 (.inr rfl)).own o6 (.inr rfl);have S:U.size≠v.size:=by omega
  have C:=Ws o6 (Ws o5 (Z.bT i id) S) S;refine tJ (λu=>(∃P',HK F U (λb=>(False\/b=U.size)\/b=v.size) u P' L H)/\bX u U.size [.int .i64 0,.int .i64 0]/\bX u v.size [.int .i64 (k:Int),.int .i64 (w:Int)]/\Wt H t (.cH k w)=(H,some (.cJ k w),0,0)) (λu ⟨⟨P',K⟩,hbw,hbx,X⟩=>?_) λJ1 hJ1=>?_
  ·rw[X]at hR;exact hbx.rI rfl (hbx.rI rfl (gD (n:=U.size) K (.inl (.inr rfl)) hbw λw' K'=>hR w' L.ts K'.e (K'.fin h)))
  ·refine b6.rI rfl (aG (K6.h.hd.rS rfl (b6.rI rfl (GE K6.h.jA hc (d:=2) O ?_))));simp only[zB (show ¬(2=0) by omega),zB (show ¬(2=1) by omega)];refine cO (λheq=>b6.rI rfl ?_) λhne'=>hJ1 v6 ⟨⟨_,K6⟩,C,b6,?_⟩
   ·have heq':w=c.batch:=by simp only[zT]at heq;omega
    refine H6 K6.h hA hY (k:Int) λs v7 Q W hQ hs7 hcap h7=>?_;have K7:=K6.to W h7 λb _ i=>i.1;have b7:=K6.cT W b6 (.inr rfl);have B:=K6.cT W C (.inl (.inr rfl));refine cO (λh0=>b7.rI rfl ?_) λhn0=>?_
    ·have h0':ZW A (k:Int)=0:=by simpa using h0
     have X:Wt H t (.cH k w)=(QF (H.cC (H.own t) (Zv A (k:Int))) t k (Yq A (k:Int)),some .fill,0,0):=by
      simp only[Wt,hce,hAe,heq',h0',zR]
     rw[X]at hR;refine Gj K7.h (t:=t) ht k hs7 hcap (hne0 h0') (λb _ z E=>E.1.2 z) (K6.h.o.sub hQ) (λz=>K6.h.o2 (hQ _ z)) hlen' λv8 ts8 e8 h8=>?_;have K8:=K7.sA e8 h8 λb i z=>by
      rcases z with z|z
      ·exact z.imp id .inl
      ·exact .inr (.inr ⟨(K6.p b (hQ b z)).1,(K6.p b (hQ b z)).2.1⟩)
     exact gD (n:=U.size) K8 (.inl (.inr rfl)) (K7.cT e8 B (.inl (.inr rfl))) λw' K'=>hR w' ts8 K'.e (K'.fin h)
    ·have hn0':ZW A (k:Int)≠0:=by simpa using hn0
     have hsame:Zv A (k:Int)=A:=by unfold Zv;rw[zB hn0']
     rw[hsame,CD hA]at K7;refine hJ1 v7 ⟨⟨_,K7⟩,B,b7,?_⟩;simp only[Wt,hce,hAe,heq',zB hn0',zR]
   ·have hne2:w≠c.batch:=λe=>by rw[e]at hne';simp at hne'
    simp only[Wt,hce,zB hne2]
 | cJ k w=>
  refine kZ aB (jb aB (vq (nw (cs:=[.int .i64 0,.int .i64 0]) λv5 M Z N=>?_)));have K5:=K1.box Z M;refine N.s1 aA λv5b o5 b5=>b5.s1 aA λv6 o6 b6=>?_;have K6:=(K5.own o5 (.inr rfl)).own o6 (.inr rfl);have S:U.size≠v.size:=by omega
  have C:=Ws o6 (Ws o5 (Z.bT i id) S) S;refine b6.rI rfl (b6.rI rfl (NG K6.h hA hY (k:Int) (w:Int) λs v7 Q W hQ hs7 h7=>?_));have K7:=K6.to W h7 λb _ i=>i.1;have b7:=K6.cT W b6 (.inr rfl);have B:=K6.cT W C (.inl (.inr rfl));have hsl:s.len=(Yb A (k:Int) (w:Int)).length:=by have:=hs7.1;simp[ints]at this;omega
  by_cases hemp:Yb A (k:Int) (w:Int)=[]
  ·have X:Wt H t (.cJ k w)=(H.cC (H.own t) (Yu A (k:Int) (w:Int)),some (.grow k w),0,0):=by
    simp only[Wt,hAe,zC hemp]
   rw[X]at hR;refine fR (by rw[hsl,hemp];simp) (b7.rI rfl (b7.rI rfl ?_));exact gD (n:=U.size) K7 (.inl (.inr rfl)) B λw' K'=>hR w' L.ts K'.e (K'.fin h)
  ·have X:Wt H t (.cJ k w)=(QF (H.cC (H.own t) (Yu A (k:Int) (w:Int))) t k ((Yb A (k:Int) (w:Int)).map λ(x:Nat)=>(x:Int)),some .fill,0,0):=by
    simp only[Wt,hAe,zB hemp]
   rw[X]at hR;have hpos:=pC.2 hemp;refine lH (by rw[hsl];omega) (b7.rI rfl ?_);have hs7':=bR.gY hs7;rw[N2]at hs7';have hz6:=K6.e.1;refine Gj K7.h (t:=t) ht k hs7' (bR.qA hs7) (by simpa using hemp) (λb _ z E=>E.1.2 z) (K6.o.1.sub λb i=>by have:=hQ b i;omega) (λz=>K6.o.2 (by have:=hQ _ z;omega)) hlen' λv8 ts8 e8 h8=>?_;have K8:=K7.sA e8 h8 λb i z=>by
    rcases z with z|z
    ·exact z.imp id .inl
    ·have:=hQ b z;exact .inr (.inr ⟨.inr O,λhB=>by have:=(K6.b b hB).2;omega⟩)
   exact gD (n:=U.size) K8 (.inl (.inr rfl)) (K7.cT e8 B (.inl (.inr rfl))) λw' K'=>hR w' ts8 K'.e (K'.fin h)
 | grow k w=>
  refine kZ aB (jb aB (jb aB (vq (nw (cs:=[.int .i64 0,.int .i64 0]) λv5 M Z N=>?_))));have K5:=K1.box Z M;refine N.s1 aA λv5b o5 b5=>b5.s1 aA λv6 o6 b6=>?_;have K6:=(K5.own o5 (.inr rfl)).own o6 (.inr rfl);have S:U.size≠v.size:=by omega
  have C:=Ws o6 (Ws o5 (Z.bT i id) S) S;refine b6.rI rfl (LX K6.h hA hY (k:Int) λv7 W h7=>?_);have K7:=K6.to W h7 λb _ i=>i;have b7:=K6.cT W b6 (.inr rfl);have B:=K6.cT W C (.inl (.inr rfl));refine cO (λhn0=>?_) λh0=>?_
  ·have hn0':KA A H.sp (k:Int)≠0:=by simpa using hn0
   have X:Wt H t (.grow k w)=({H.cC (H.own t) (cL A H.sp (k:Int)).1 with sp:=(cL A H.sp (k:Int)).2},none,0,KA A H.sp (k:Int)):=by
    simp only[Wt,hAe,zB hn0']
   rw[X]at hR;exact gD (n:=U.size) K7 (.inl (.inr rfl)) B λw' K'=>hR w' L.ts K'.e (K'.fin h)
  ·have h0':KA A H.sp (k:Int)=0:=by simpa using h0
   have X:Wt H t (.grow k w)=({H.cC (H.own t) (cL A H.sp (k:Int)).1 with sp:=(cL A H.sp (k:Int)).2},some (.cJ k w),0,0):=by
    simp only[Wt,hAe,zC h0']
   rw[X]at hR;refine b7.rI rfl (b7.rI rfl ?_);exact gD (n:=U.size) K7 (.inl (.inr rfl)) B λw' K'=>hR w' L.ts K'.e (K'.fin h)
 | fill=>
  obtain⟨k,y,ys,r,hh,hk,hy9,hfit⟩:∃k x xs r,(H.jR t).bP=(k,x::xs)::r/\k<H.tb.length/\iE x/\((H.jR t).li k).os.length+xs.length<=256:=hp;rw[htg]at hh hfit;obtain⟨c,hc⟩:∃c,H.tb[k]?=some c:=⟨_,cV hk⟩;have hll:=h.AZ E hg;obtain⟨l,hl⟩:∃l,g.ls[k]?=some l:=⟨_,cV (by rw[hll];exact hk)⟩;have hce:=VV hc;have hle:=yd hl;rw[hle]at hfit;refine kZ aB (jb aB (jb aB (jb aB (AN (nw (cs:=[]) λv5 M Z N=>?_)))));have K5:=K1.box Z M;have hbv5:=Z.bT i id;obtain⟨G,D,hG,hD,hd,hBt,hr,hput⟩:=K5.h.wy (λb i=>(K5.p b i).2.2) E hg (λ_=>False) (λb _ _ z=>z) (K5.o.1.sub λb i=>i.elim) (λz=>z);rw[hh]at hBt;obtain⟨so,ps,Dn,hrow,hso1,hcap,hBr,hDn,hj,S,hxne⟩:=hBt.mh;have hz5':=K5.e.1;have hsol:so.len=ys.length+1:=by have:=hso1.1;simp[Wo]at this;omega
  refine aG (nC (K5.h.tc E hg ha (d:=1) O rfl) (EC (dH.gY hrow) λa ha0 ha1=>nB ha0 (nC ha1 ?_)));refine nw (cs:=[.int .i64 0,.slice none 0 0]) λv43 hz43 e43 hb43=>hb43.s1 aA λv44 o44 b44=>b44.s1 aA λv45 o45 b45=>?_;have e45:bK v5 v45:=(e43.only o44 (.inr (zD _))).only o45 (.inr (zD _));have hz45:v5.size<v45.size:=b45.lt;refine aG (hput v45 ⟨none,0,0⟩ [] (λ_=>False) (bK.to e45) (λb i=>i.elim) (im.nil _ _ _) ha λv46 e46 h46=>?_);have hz46:=e46.1;have e546:Ext _ v5 v46:=(bK.to e45).trans (e46.sub hD);have K46:=K5.to e546 h46 λb _ z=>by
   rcases z with z|z
   ·exact .inl z.1
   ·exact z.1.elim
  have hbv46:=K5.cT e546 hbv5 (.inl (.inr rfl));have b46:bX v46 v5.size _:=e46.bT b45 λE=>by have:=(K5.p _ (hD _ E)).2.2;omega
  have K46b:=K46.vT (B':=λb=>b=v5.size) λb i=>⟨O,O,λE=>by
   subst i;rcases E.1 with h1|h1
   ·have:=(K5.p _ h1.1).2.2;omega
   ·exact h1.1⟩
  have hso46:=aH.bS (aH.bO (aH.cut hso1) e45) e46 λb _ i E=>hd b (hDn b i.1.1) E;have hXn:∀b,(Dn b/\kF so b)/\b<v5.size->¬Cut (λb=>(Cut F U b/\¬G b)\/False/\b<v45.size) v46 b:=λb i E=>by
   rcases E.1 with h1|h1
   ·exact h1.2 (hDn b i.1.1)
   ·exact h1.1
  have hg46:({H with bQ:=H.bQ.set t {g with bP:=[]}}:Hw).bQ[t]?=some {g with bP:=[]}:=by simp[ht]
  have hx46:(L.ts.set t {x with h:=⟨none,0,0⟩})[t]?=some {x with h:=⟨none,0,0⟩}:=zL (cW.1 E).1;refine aG (uu (K46b.h.tc hx46 hg46 ha (d:=0) O rfl) (b46.rI rfl (b46.rS (a:=so.a) (n:=so.len) (c:=so.cap) rfl (iN (lo:=1) (by show 1<=so.len;omega) hcap (zD _) ?_))));have hsub:=cU.sub hso46 (lo:=1) (hi:=so.len) (mx:=so.cap) O (zD _) hcap;have hsx:((Wo (y::ys)).drop (1*1)).take ((so.len-1)*1)=Wo ys:=by
   rw[mG (by simp[Wo];omega)];rfl
  rw[hsx]at hsub;have hl46:({g with bP:=[]}:Th).ls[k]?=some l:=hl;refine NN K46b.h hx46 hg46 hc hl46 hsub hXn hfit λv47 ts47 e47 h47=>?_;have K47:=K46b.to e47 h47 λb _ i=>i;have hso47:=aH.bS hso46 e47 λb _ i E=>hXn b i E;have b47:=K46b.cT e47 b46 (.inr rfl);have hbv47:=K46b.cT e47 hbv46 (.inl (.inl (.inr rfl)));have X:Wt H t .fill=(Vm {H with bQ:=H.bQ.set t {g with ls:=g.ls.set k (eB ys.reverse l),bP:=[]}} y (c.size:Int) (k:Int),none,y,0):=by
   simp only[Wt,htg,hh,Zr hg,hle,hce]
  rw[X]at hR;obtain⟨b0,o0,ha0',hc0⟩:=hso47.cell (j:=0) (v:=.int .i64 y) rfl;have hS4:mU (λu=>((∃P ts H',HH u P {L with ts:=ts} H'/\H'.tb=H.tb)/\bX u v5.size [.int .i64 (k:Int),.slice so.a so.len so.cap])/\cell u ⟨b0,o0+0,none⟩=some (.int .i64 y)) L H.tb:=λm hm=>hm.1.1;refine⟨λu=>((∃P ts H',HH u P {L with ts:=ts} H'/\H'.tb=H.tb)/\bX u v5.size [.int .i64 (k:Int),.slice so.a so.len so.cap])/\cell u ⟨b0,o0+0,none⟩=some (.int .i64 y),⟨⟨⟨_,_,_,K47.h,rfl⟩,b47⟩,hc0⟩,⟨so,λu V=>by rw[add_lit,V.1.2.cell];rfl,?_⟩⟩;refine PT ha0' O ⟨y,λu V=>V.2,aG (hS4.dD ⟨(k:Int),λu V=>by rw[add_lit,V.1.2.cell];rfl,?_⟩)⟩;refine mU.rC (L:={L with ts:=ts47}) (H:=Hw.dS {H with bQ:=H.bQ.set t {g with bP:=[]}} t {g with bP:=[]} (g.ls.set k (eB ys.reverse l))) hS4 K47.h hc ⟨(k:Int),λu V=>by rw[add_lit,V.1.2.cell];rfl,?_⟩;refine Aw K47.h y (c.size:Int) (k:Int) hy9 λv48 e48 h48=>?_;have K48:=K47.to e48 h48 λb _ i=>.inl i;have hz4747:=e47.1;have hso48:=aH.bS hso47 e48 λb _ i E=>by
   rcases E.1 with h1|h1
   ·exact hXn b i h1
   ·have:=i.2;omega
  refine⟨⟨⟨⟨_,_,_,h48,rfl⟩,K47.cT e48 b47 (.inr rfl)⟩,?_⟩,?_⟩
  ·obtain⟨b1,o1,ha1',hc1⟩:=hso48.cell (j:=0) (v:=.int .i64 y) rfl;rw[ha0']at ha1';cases ha1';exact hc1
  ·have K49:=K48;simp only[Hw.dS,m9]at K49;exact gD (n:=U.size) K49 (.inl (.inl (.inr rfl))) (K47.cT e48 hbv47 (.inl (.inl (.inr rfl)))) λw' K'=>hR w' ts47 K'.e (K'.fin h)
 | eD m=>
  have hp:ZU (H.eA t) H.sp (m:Int) 1<=1000000:=hp;rw[hAe]at hp;refine kZ aB (jb aB (jb aB (jb aB (rU aB (Aj (nw (cs:=[.int .i64 0]) λv5 M Z N=>?_))))));have K5:=K1.box Z M;refine N.s0 aA λv6 o6 b6=>?_;have K6:=K5.own o6 (.inr rfl);have C:=Ws o6 (Z.bT i id) O;refine b6.rI rfl (PD K6.h hA hY (m:Int) 1 λv7 W h7=>?_);have K7:=K6.to W h7 λb _ i=>i;have b7:=K6.cT W b6 (.inr rfl);have B:=K6.cT W C (.inl (.inr rfl));refine cO (λhn0=>?_) λh0=>?_
  ·have hn0':Qi A H.sp (m:Int) 1≠0:=by simpa using hn0
   have X:Wt H t (.eD m)=({H.cC (H.own t) (cA A H.sp (m:Int) 1).1 with sp:=(cA A H.sp (m:Int) 1).2},none,0,Qi A H.sp (m:Int) 1):=by
    simp only[Wt,hAe,zB hn0']
   rw[X]at hR;exact gD (n:=U.size) K7 (.inl (.inr rfl)) B λw' K'=>hR w' L.ts K'.e (K'.fin h)
  ·have h0':Qi A H.sp (m:Int) 1=0:=by simpa using h0
   have hm:m<=64:=by
    unfold Qi at h0';split at h0'
    ·rename_i hpo;simp only[Q4,zF,zU]at hpo;omega
    ·omega
   have X:Wt H t (.eD m)=(Vm {H.cC (H.own t) (cA A H.sp (m:Int) 1).1 with sp:=(cA A H.sp (m:Int) 1).2} ((ZU A H.sp (m:Int) 1*256:Nat):Int) ((m*256:Nat):Int) (-1),none,((ZU A H.sp (m:Int) 1*256:Nat):Int),0):=by
    simp only[Wt,hAe,zC h0']
   rw[X]at hR;refine cP (m:=ZU A H.sp (m:Int) 1*256) O O (b7.rI rfl (cP (m:=m*256) O O ?_));refine Aw K7.h _ _ _ O λv8 e8 h8=>?_;have K8:=K7.to e8 h8 λb _ i=>.inl i;exact gD (n:=U.size) K8 (.inl (.inr rfl)) (K7.cT e8 B (.inl (.inr rfl))) λw' K'=>hR w' L.ts K'.e (K'.fin h)
 | find x=>
  obtain⟨hx9,hro,hlv⟩:iE x/\(bW H.live x=none->∀A∈H.bY,iI A)/\∀b,bW H.live x=some b->0<=x:=hp;refine kZ aB (jb aB (jb aB (jb aB (rU aB (kZ aB (Aj (nw (cs:=[.int .i64 0]) λv5 M Z N=>?_)))))));have K5:=K1.box Z M;refine N.s0 aA λv6 o6 b6=>?_;have K6:=K5.own o6 (.inr rfl);have C:=Ws o6 (Z.bT i id) O;refine b6.rI rfl (Sz K6.h ht x hx9 hro hlen' hlv λv7 ts7 W h7=>?_);have K7:=K6.to W h7 λb _ i=>i;have B:=K6.cT W C (.inl (.inr rfl));exact gD (n:=U.size) K7 (.inl (.inr rfl)) B λw' K'=>hR w' ts7 K'.e (K'.fin h)
 | put k y=>
  obtain⟨hk,hne0⟩:k<H.tb.length/\(H.jR t).bP≠[]:=hp;rw[htg]at hne0;obtain⟨c,hc⟩:∃c,H.tb[k]?=some c:=⟨_,cV hk⟩;have hll:=h.AZ E hg;obtain⟨l,hl⟩:∃l,g.ls[k]?=some l:=⟨_,cV (by rw[hll];exact hk)⟩;have hce:=VV hc;have hle:=yd hl;refine kZ aB (jb aB (jb aB (jb aB (rU aB (kZ aB (kZ aB (vq (nw (cs:=[.int .i64 0,.int .i64 0]) λv5 M Z N=>?_))))))));have K5:=K1.box Z M;refine N.s1 aA λv5b o5 b5=>b5.s1 aA λv6 o6 b6=>?_;have K6:=(K5.own o5 (.inr rfl)).own o6 (.inr rfl);have S:U.size≠v.size:=by omega
  have C:=Ws o6 (Ws o5 (Z.bT i id) S) S;generalize hgg:(if(dJ c y l).1=[]then({g with ls:=g.ls.set k (dJ c y l).2}:Th)else{g with ls:=g.ls.set k (dJ c y l).2,bP:=g.bP++[(k,(dJ c y l).1)]})=g2
  have hg2n:g2.bP≠[]/\g2.bP.length<=901:=by
   rw[←hgg];split
   ·exact⟨hne0,by simp;omega⟩
   ·exact⟨by simp,by simp;omega⟩
  refine tJ (λw=>∃P ts',HK F U (λb=>(False\/b=U.size)\/b=v.size) w P {L with ts:=ts'} {H with bQ:=H.bQ.set t g2}/\bX w U.size [.int .i64 0,.int .i64 0]) (λw ⟨P,ts2,K,hbw⟩=>?_) λJ2 hJ2=>?_
  ·have hg3:({H with bQ:=H.bQ.set t g2}:Hw).bQ[t]?=some g2:=by simp[ht]
   obtain⟨x2,_,hx2,_⟩:=K.h.th (t:=t) (by simpa using ht);obtain⟨G,D,hG,hD,hd,hBt,hr,hput⟩:=K.h.wy (λb i=>(K.p b i).2.2) hx2 hg3 (λ_=>False) (λb _ _ z=>z) (K.o.1.sub λb i=>i.elim) (λz=>z);have hbl:=hBt.len;have hbc:=hBt.cap;obtain⟨b0,r0,hbr⟩:∃b r,g2.bP=b::r:=by
    cases hh:g2.bP with
    | nil=>exact absurd hh hg2n.1
    | cons b r=>exact⟨b,r,rfl⟩
   have tG:g2.bP.drop 1=r0:=by rw[hbr];rfl
   rw[hbr]at hBt;have hpos:1<=x2.h.len:=by rw[hbl,hbr];simp
   refine aG (nC (K.h.tc hx2 hg3 ha (d:=1) O rfl) ?_);refine iN (lo:=1) hpos hbc (zD _) ?_;refine aG (hput w _ _ G (Ext.refl _ _) (λb i=>.inl i) hBt.lC ha λw1 e1 h1=>?_);have e1':=e1.sub hD;have K1b:=K.to e1' h1 λb _ z=>by
    rcases z with z|z
    ·exact .inl z.1
    ·exact .inl (hG b z.1)
   have hbw1:=K.cT e1' hbw (.inl (.inr rfl));have K3:=K1b;simp only[m9]at K3;generalize hg3':({g2 with bP:=r0}:Th)=g3 at K3;have hl3:g3.bP=r0/\g3.ls=g2.ls:=by rw[←hg3'];exact⟨rfl,rfl⟩
   have hr0:r0.length<=900:=by have:=hg2n.2;rw[hbr]at this;simp at this;omega
   have hg3e:({H with bQ:=H.bQ.set t g3}:Hw).bQ[t]?=some g3:=by simp[ht]
   have hpe:ir H t k y=(if H.cf.dA<QO H.tb g3.ls then{H with bQ:=H.bQ.set t {g3 with ls:=QS KE H.tb g3.ls,bP:=g3.bP++QX KE H.tb g3.ls}}else{H with bQ:=H.bQ.set t g3}):=by
    have e2:(if(dJ c y l).1=[]then H.dV t λh=>h.gM k (dJ c y l).2 else QF (H.dV t λh=>h.gM k (dJ c y l).2) t k (dJ c y l).1) = {H with bQ:=H.bQ.set t g2}:=by
     rw[←hgg];split
     ·rw[Zr hg];rfl
     ·rw[Zr hg];unfold QF Hw.dV;simp only;rw[KJ (t:=g.gM k (dJ c y l).2) (by simp[ht]),m9];rfl
    have e3:({H with bQ:=H.bQ.set t g2}:Hw).dV t (λh=>{h with bP:=h.bP.drop 1}) = {H with bQ:=H.bQ.set t g3}:=by
     rw[Zr hg3];simp only[m9,tG,hg3']
    unfold ir;simp only[hce,htg,hle,e2,e3,HV hg3e,Zr hg3e,m9]
   have hx3:(ts2.set t {x2 with h:=⟨if x2.h.cap=1 then x2.h.a else x2.h.a.map (·.add (1*2)),x2.h.len-1,x2.h.cap-1⟩})[t]?=some {x2 with h:=⟨if x2.h.cap=1 then x2.h.a else x2.h.a.map (·.add (1*2)),x2.h.len-1,x2.h.cap-1⟩}:=zL (cW.1 hx2).1
   generalize hx3':({x2 with h:=⟨if x2.h.cap=1 then x2.h.a else x2.h.a.map (·.add (1*2)),x2.h.len-1,x2.h.cap-1⟩}:eH)=x3 at hx3 K3
   generalize ts2.set t x3=ts3 at hx3 K3;refine tJ (λw=>∃P ts',HK F U (λb=>(False\/b=U.size)\/b=v.size) w P {L with ts:=ts'} (ir H t k y)/\bX w U.size [.int .i64 0,.int .i64 0]) (λw ⟨P,ts',K,hbw⟩=>?_) λJ3 hJ3=>?_
   ·have X:Wt H t (.put k y)=(ir H t k y,jV (ir H t k y) t,0,0):=rfl;rw[X]at hR;refine VL K.h (t:=t) ?_ ?_
    ·rw[hpe];split<;>simpa using ht
    ·exact gD (n:=U.size) K (.inl (.inr rfl)) hbw λw' K'=>hR w' ts' K'.e (K'.fin h)
   ·refine aG (uu (K3.h.tc hx3 hg3e ha (d:=0) O rfl) ?_);refine Iq K3.h hx3 hg3e λv10 e10=>?_;have K10:=K3.fr e10;have hbw10:=e10.bT hbw1 id;refine cQ (λhov=>?_) λhno=>hJ3 v10 ⟨_,ts3,by rw[hpe,zB hno];exact K10,hbw10⟩;refine⟨λu=>cell u (Addr.add ⟨tb0,to0+3*t,none⟩ 1)=some (.slice x3.h.a x3.h.len x3.h.cap)/\cell u (Addr.add ⟨tb0,to0+3*t,none⟩ 0)=some (.pointer (some ⟨x3.c.p,0,none⟩)),⟨K10.h.tc hx3 hg3e ha (d:=1) O rfl,K10.h.tc hx3 hg3e ha (d:=0) O rfl⟩,aG ⟨x3.h,λu V=>V.1,aG ⟨some ⟨x3.c.p,0,none⟩,λu V=>V.2,?_⟩⟩⟩;refine Ll hso K10.h hx3 hg3e λv11 s Q e11 hQ hB h11=>?_;have K11:=K10.to e11 h11 λb _ i=>i.1;have hbw11:=K10.cT e11 hbw10 (.inl (.inr rfl));have hg11:(Hw.dS {H with bQ:=H.bQ.set t g3} t g3 (QS KE H.tb g3.ls)).bQ[t]?=some {g3 with ls:=QS KE H.tb g3.ls}:=by simp[Hw.dS,ht]
    refine⟨⟨K11.h.tc hx3 hg11 ha (d:=1) O rfl,K11.h.tc hx3 hg11 ha (d:=0) O rfl⟩,?_⟩;have hz0:=K10.e.1;obtain⟨G,D,hG,hD,hd,hBt,hr,hput⟩:=K11.h.wy (λb i=>i.2) hx3 hg11 (λb=>Q b\/v11.size<=b) (λb i hP z=>z.elim (λz=>hP.1.2 z) λz=>O) (K10.o.1.sub λb i=>i.elim (λi=>by have:=hQ b i;omega) λi=>by have:=K11.e.1;omega) (λz=>K10.o.2 (z.elim (λi=>by have:=hQ _ i;omega) λi=>by have:=K11.e.1;omega));refine im.app hBt hB (λb hg z=>(hG b hg).1.2 z) ?_ λs' v12 e12 hB12=>?_
    ·have:=GL KE H.tb g3.ls;have:H.tb.length<=40:=K3.h.qy;simp only[hl3.1];omega
    have hcell:∀{d:Nat} {w:Value},d<3->(jj (x3,({g3 with ls:=QS KE H.tb g3.ls}:Th)))[d]?=some w->cell v12 (Addr.add ⟨tb0,to0+3*t,none⟩ d)=some w:=λhd3 hv=>by
     obtain⟨b',o',ha',hc'⟩:=GQ (hr v12 e12) hx3 hg11 hd3 hv;rw[ha]at ha';cases ha';rw[add_lit,vN];exact hc'
    refine⟨⟨hcell (d:=1) O rfl,hcell (d:=0) O rfl⟩,aG (hput v12 s' _ _ e12 (λb i=>i.imp id id) hB12 ha λv13 e13 h13=>?_)⟩;have e13':=(e12.sub hG).trans (e13.sub hD);have K13:=K11.sA e13' h13 λb i z=>by
     rcases z with z|z
     ·exact .inl z.1
     ·rcases z.1 with h1|h1|h1
      ·exact .inl (hG b h1)
      ·have:=hQ b h1;exact .inr (.inr ⟨.inr O,λhB=>by have:=(K10.b b hB).2;omega⟩)
      ·exact .inr (.inl h1)
    have hbw13:=K11.cT e13' hbw11 (.inl (.inr rfl));have K14:=K13;simp only[Hw.dS,m9]at K14;have hpe':=hpe;rw[zC hov]at hpe';rw[hpe']at hJ3;exact hJ3 v13 ⟨_,_,K14,hbw13⟩
  ·refine⟨λu=>u=v6,rfl,aG ⟨some ⟨x.c.p,0,none⟩,λu V=>by cases V;exact K6.h.tc E hg ha (d:=0) O rfl,⟨(k:Int),λu V=>by cases V;rw[add_lit,b6.cell];rfl,⟨y,λu V=>by cases V;rw[add_lit,b6.cell];rfl,?_⟩⟩⟩⟩;refine L9 K6.h E hg hc hl y λv7 ts7 s ee Q W hQ hs7 h7=>?_;have K7:=K6.to W h7 λb _ i=>i.1;have b7:=K6.cT W b6 (.inr rfl);have B:=K6.cT W C (.inl (.inr rfl));have hsl:s.len=(dJ c y l).1.length:=by have:=hs7.1;simp[Wo]at this;omega
   by_cases hemp:(dJ c y l).1=[]
   ·rw[zC hemp]at hgg;rw[←hgg]at hJ2;exact fR (by rw[hsl,hemp];simp) (hJ2 v7 ⟨_,ts7,K7,B⟩)
   ·rw[zB hemp]at hgg;have hpos:=pC.2 hemp;have hz6:=K6.e.1;refine lH (by rw[hsl];omega) (b7.rI rfl ?_);refine Gj K7.h (t:=t) (by simpa[Hw.dS]using ht) k (bR.gY hs7) (bR.qA hs7) hemp (λb _ z E=>E.1.2 z) (K6.o.1.sub λb i=>by have:=hQ b i;omega) (λz=>K6.o.2 (by have:=hQ _ z;omega)) (λg' hg'=>?_) λv8 ts8 e8 h8=>?_
    ·have:(H.dS t g (g.ls.set k (dJ c y l).2)).bQ[t]?=some {g with ls:=g.ls.set k (dJ c y l).2}:=by simp[Hw.dS,ht]
     rw[this]at hg';cases hg';simp only;omega
    ·have K8:=K7.sA e8 h8 λb i z=>by
      rcases z with z|z
      ·exact z.imp id .inl
      ·have:=hQ b z;exact .inr (.inr ⟨.inr O,λhB=>by have:=(K6.b b hB).2;omega⟩)
     have e9:QF (H.dS t g (g.ls.set k (dJ c y l).2)) t k (dJ c y l).1 = {H with bQ:=H.bQ.set t g2}:=by
      rw[←hgg];unfold QF Hw.dV Hw.dS;simp only;rw[KJ (t:={g with ls:=g.ls.set k (dJ c y l).2}) (by simp[ht]),m9]
     rw[e9]at K8;exact hJ2 v8 ⟨_,ts8,K8,K7.cT e8 B (.inl (.inr rfl))⟩
 | back=>
  obtain⟨k,xs,r,hh,hxs,hxl⟩:∃k xs r,(H.jR t).bP=(k,xs)::r/\(∀x∈xs,iE x/\0<=XO H.bY x)/\xs.length<=1000000:=hp;rw[htg]at hh;refine kZ aB (jb aB (jb aB (jb aB (rU aB (kZ aB (kZ aB (jb aB (AN (nw (cs:=[]) λv5 M Z N=>?_)))))))));have K5:=K1.box Z M;have hbv5:=Z.bT i id;obtain⟨G,D,hG,hD,hd,hBt,hr,hput⟩:=K5.h.wy (λb i=>(K5.p b i).2.2) E hg (λb=>v5.size<=b) (λb i _ z=>O) K5.h.my.1 K5.h.my.2;have hbl:=hBt.len;have hbc:=hBt.cap;rw[hh]at hBt;obtain⟨so,ps,Dn,hrow,hso1,hcap,hBr,hDn,hj,S,hxne⟩:=hBt.mh;have hz5':=K5.e.1;refine aG (nC (K5.h.tc E hg ha (d:=1) O rfl) (EC (dH.gY hrow) λa ha0 ha1=>nB ha0 (nC ha1 ?_)));refine nw (cs:=[.int .i64 0,.slice none 0 0]) λv81 hz81 e81 hb81=>hb81.s1 aA λv82 o82 b82=>b82.s1 aA λv83 o83 b83=>?_;have e83:bK v5 v83:=(e81.only o82 (.inr (zD _))).only o83 (.inr (zD _));have hz83:v5.size<v83.size:=b83.lt;have hcell:∀{u1:Hp},Ext G v5 u1->∀{d:Nat} {w:Value},d<3->(jj (x,g))[d]?=some w->cell u1 (Addr.add ⟨tb0,to0+3*t,none⟩ d)=some w:=λhe _ _ hd3 hv=>by
   obtain⟨b',o',ha',hc'⟩:=GQ (hr _ he) E hg hd3 hv;rw[ha]at ha';cases ha';rw[add_lit,vN];exact hc'
  refine aG (nC (hcell (bK.to e83) (d:=1) (w:=.slice x.h.a x.h.len x.h.cap) O rfl) ?_);have hpos:1<=x.h.len:=by rw[hbl,hh];simp
  refine iN (lo:=1) hpos hbc (zD _) ?_;have hrow':=aH.bO (aH.cut (dH.gY (hrow.from (lo:=1) hpos))) e83;have tG:(fE ((k,so)::ps)).drop (1*2)=fE ps:=rfl;rw[tG]at hrow';refine Sn hrow' aC λs' v84 hs'l e84 hs'=>?_;have hBt':im s' r v84 (λb=>Dn b/\¬kF so b/\b<v5.size\/v83.size<=b):=by
   refine⟨ps,λb=>Dn b/\¬kF so b/\b<v5.size,(dH.loc _ _ _).mono hs'.o λb _ i=>⟨.inr i,λE=>O⟩,(kj.loc _ _).bO ((kj.loc _ _).bO ((kj.loc _ _).mono ((kj.loc _ _).cut hBr) λb _ i=>⟨i.1.1,i.1.2,i.2⟩) e83) e84,λb i=>.inl i,hj,S⟩
  have e584:bK v5 v84:=e83.trans e84;refine aG (hput v84 s' r _ (bK.to e584) (λb i=>i.elim (λi=>.inl (hDn b i.1)) λi=>.inr O) hBt' ha λv85 e85 h85=>?_);have hz84:=e84.1;have hz85:=e85.1;have e585:Ext _ v5 v85:=(bK.to e584).trans (e85.sub hD);have K85:=K5.to e585 h85 λb _ z=>by
   rcases z with z|z
   ·exact .inl z.1
   ·rcases z.1 with h1|h1
    ·exact .inl (hG b (hDn b h1.1))
    ·exact .inr O
  have hbv85:=K5.cT e585 hbv5 (.inl (.inr rfl));have b85:bX v85 v5.size _:=e85.bT (e84.bT b83 id) λE=>by have:=(K5.p _ (hD _ E)).2.2;omega
  have K85b:=K85.vT (B':=λb=>b=v5.size) λb i=>⟨O,O,λE=>by
   subst i;rcases E.1 with h1|h1
   ·have:=(K5.p _ h1.1).2.2;omega
   ·rcases h1.1 with h2|h2<;>omega⟩
  have hso5:=aH.bS (aH.bO (aH.cut hso1) e584) e85 λb _ i E=>hd b (hDn b i.1.1) E;have X:Wt H t .back=(Hb {H with bQ:=H.bQ.set t {g with bP:=r}} (H.own t) k xs,jV (Hb {H with bQ:=H.bQ.set t {g with bP:=r}} (H.own t) k xs) t,0,0):=by
   simp only[Wt,htg,hh,Zr hg]
  rw[X]at hR;refine⟨λu=>u=v85,rfl,⟨(k:Int),λu V=>by cases V;rw[add_lit,b85.cell];rfl,⟨so,λu V=>by cases V;rw[add_lit,b85.cell];rfl,?_⟩⟩⟩;refine E4 K85b.h t ⟨rfl,RN K85b.h hol k hso5 (λb _ i E=>?_) hcap hxs hxl λv87 e87 h87=>?_⟩
  ·rcases E.1 with h1|h1
   ·exact h1.2 (hDn b i.1.1)
   ·rcases h1.1 with h2|h2
    ·exact h2.2.1 i.1.2
    ·have:=i.2;omega
  have K87:=K85b.to e87 h87 λb _ i=>i;have hbl7:(Hb {H with bQ:=H.bQ.set t {g with bP:=r}} (H.own t) k xs).bQ.length=H.bQ.length:=by
   rw[G9];simp
  refine VL K87.h (t:=t) (by rw[hbl7];exact ht) ?_;exact gD (n:=U.size) K87 (.inl (.inl (.inr rfl))) (K85b.cT e87 hbv85 (.inl (.inl (.inr rfl)))) λw' K'=>hR w' _ K'.e (K'.fin h)
 | dC s a=>
  obtain⟨ha0,hal,hru⟩:0<=a/\a.toNat<H.bY.length/\∀A∈H.bY,∀r∈A.runs,r.1<=1000000:=hp;obtain⟨A2,hA2⟩:∃A,H.bY[a.toNat]?=some A:=⟨_,cV hal⟩;have hae:a=((a.toNat:Nat):Int):=by omega
  refine kZ aB (jb aB (jb aB (jb aB (rU aB (kZ aB (kZ aB (jb aB (rU aB (vq (nw (cs:=[.int .i64 0,.int .i64 0]) λv5 M Z N=>?_))))))))));have K5:=K1.box Z M;refine N.s1 aA λv5b o5 b5=>b5.s1 aA λv6 o6 b6=>?_;have K6:=(K5.own o5 (.inr rfl)).own o6 (.inr rfl);have S:U.size≠v.size:=by omega
  have C:=Ws o6 (Ws o5 (Z.bT i id) S) S;obtain⟨Y2,hY2,_,_⟩:=K6.h.ar hA2;refine aG (K6.h.hd.rS rfl (b6.rI (x:=((a.toNat:Nat):Int)) (by rw[←hae];rfl) (K6.h.rA hY2 (b6.rI rfl ?_))));refine Pm K6.h hA2 hY2 s (hru A2 (zG hA2)) λv7 W h7=>?_;have K7:=K6.to W h7 λb _ i=>i;have B:=K6.cT W C (.inl (.inr rfl));have X:Wt H t (.dC s a)=(H.cC a.toNat (Qq A2 s),none,0,0):=by
   simp only[Wt,hA2]
  refine hJ v7 ⟨_,L.ts,⟨?_,K7.e,λb i=>⟨(K7.p b i).1,λE=>(K7.p b i).2.1 (.inl E),(K7.p b i).2.2⟩,λb i=>K7.b b (.inl i),K7.o⟩,B,by rw[X]⟩;rw[X];exact K7.h
 | drain=>
  refine kZ aB (jb aB (jb aB (jb aB (rU aB (kZ aB (kZ aB (jb aB (rU aB (jb aB (AN (nw (cs:=[]) λv5 M Z N=>?_)))))))))));have K5:=K1.box Z M;have hbv5:=Z.bT i id;refine aG (uu (K5.h.tc E hg ha (d:=0) O rfl) ?_);refine OS hso K5.h E hg λv7 s Q W hQ hB h7=>?_;have K7:=K5.to W h7 λb _ i=>i.1;have B:=K5.cT W hbv5 (.inl (.inr rfl));have hz0:=K5.e.1;have hg7:(H.dS t g (QS ZF H.tb g.ls)).bQ[t]?=some {g with ls:=QS ZF H.tb g.ls}:=by simp[Hw.dS,ht]
  obtain⟨G,D,hG,hD,hd,hBt,hr,hput⟩:=K7.h.wy (λb i=>i.2) E hg7 Q (λb _ i z=>i.1.2 z) (K5.o.1.sub λb i=>by have:=hQ b i;omega) (λz=>K5.o.2 (by have:=hQ _ z;omega));refine aG (hput v7 s _ Q (Ext.refl _ _) (λb i=>.inr i) hB ha λv8 e8 h8=>?_);have e8':=e8.sub hD;have K8:=K7.sA e8' h8 λb _ z=>by
   rcases z with z|z
   ·exact .inl z.1
   ·have:=hQ b z.1;exact .inr (.inr ⟨.inr O,λhB=>by have:=(K5.b b hB).2;omega⟩)
  have hbv8:=K7.cT e8' B (.inl (.inr rfl));have X:Wt H t .drain=({H with bQ:=H.bQ.set t {g with ls:=QS ZF H.tb g.ls,bP:=QX ZF H.tb g.ls}},jV {H with bQ:=H.bQ.set t {g with ls:=QS ZF H.tb g.ls,bP:=QX ZF H.tb g.ls}} t,0,0):=by
   simp only[Wt,Zr hg]
  have K9:=K8;simp only[Hw.dS,m9]at K9;rw[X]at hR;refine VL K9.h (t:=t) (by simpa using ht) ?_;exact gD (n:=U.size) K9 (.inl (.inr rfl)) hbv8 λw' K'=>hR w' _ K'.e (K'.fin h)
def eN (H:Hw)(t:Nat)(p:Option Ph):Hw:=H.dV t λh=>{h with ph:=p}
theorem Vf (H:Hw)(t:Nat)(f:Th->Th):(H.dV t f).bQ.length=H.bQ.length:=by simp[Hw.dV]
theorem IK (H:Hw)(t k:Nat)(x:Int):(ir H t k x).bQ.length=H.bQ.length:=by
 unfold ir;simp only;split<;>split<;>simp[Vf,QF]
theorem Ff (H:Hw)(t:Nat)(p:Ph):(Wt H t p).1.bQ.length=H.bQ.length:=by
 cases p with
 | take k=>simp only[Wt];split<;>simp[Vm,Vf]
 | cH k w=>
  simp only[Wt];split
  ·split<;>simp[QF,Vf,Hw.cC]
  ·rfl
 | cJ k w=>simp only[Wt];split<;>simp[QF,Vf,Hw.cC]
 | grow k w=>simp only[Wt];split<;>simp[Hw.cC]
 | fill=>simp only[Wt];split<;>simp[Vm,Vf]
 | eD m=>simp only[Wt];split<;>simp[Vm,Hw.cC]
 | find x=>
  simp only[Wt,UI];split
  ·rfl
  ·split<;>simp[QF,Vf]
 | put k x=>exact IK H t k x
 | back=>simp only[Wt];split<;>simp[G9,Vf]
 | dC s a=>simp only[Wt];split<;>simp[Hw.cC]
 | drain=>simp[Wt,Vf]
def uo (H:Hw)(t:Nat)(p:Ph):Prop:=tO H t p/\∀g,H.bQ[t]?=some g->g.bP.length<=900
def Qr (H:Hw)(t:Nat)(p:Ph):Hw:=eN (Wt H t p).1 t (Wt H t p).2.1
theorem Lq (hso:H4)(h:HH U F L H)(hg:H.bQ[t]?=some g){p:Ph}(hp:g.ph=some p)(hok:uo H t p){R:Bool->Int->Int->Int->Hp->Prop}
 (hR:∀σ' ts',Ext F U σ'->HH σ' (Grow F U) {L with ts:=ts'} (Qr H t p)->R (Wt H t p).2.1.isNone (Wt H t p).2.2.1 (Wt H t p).2.2.2 0 σ'):YX.c (aW L.p) (t:Int) U R:=by
 refine YX.o ?_;unfold YX.v;have C:=(cW.1 hg).1;refine nw (cs:=[.int .i64 0,.int .i64 0]) λv S e w=>?_;have K1:=(HK.start h).box e S;obtain⟨x,g',Q,r⟩:=h.th C;rw[hg]at r;cases r;refine Uj K1.h (cB rfl (BC K1.h (t:Int) (cB (by rw[zJ O];rfl) ?_)));refine aG (K1.h.hd.rS rfl (K1.h.tR Q hg ?_));rw[hp];refine⟨ue _,cB (by rw[GY];rfl) (aG (K1.h.hd.rS rfl (K1.h.tR Q hg ?_)))⟩;rw[hp];refine MT hso K1.h C p hok.1 hok.2 λX J P h9=>?_;have K9:=K1.to P h9 λb _ w=>w;have m:=K1.cT P w (.inr rfl);refine nw (cs:=[.int .i64 0,.int .i64 0]) λaa s z y=>?_;have K10:=K9.box z s;refine y.s1 aA λY u N=>N.s1 aA λZ A E=>?_;have K12:=(K10.own u (.inr rfl)).own A (.inr rfl);have B:U.size≠X.size:=by have:=(K9.b U.size (.inr rfl)).2;omega
 have i:=Ws A (Ws u (z.bT m id) B) B;have K:t<(Wt H t p).1.bQ.length:=by rw[Ff];exact C
 obtain⟨x9,V,G,j⟩:=K12.h.th K;have D:Qr H t p = {(Wt H t p).1 with bQ:=(Wt H t p).1.bQ.set t {V with ph:=(Wt H t p).2.1}}:=Zr j _;refine aG (K12.h.hd.rS rfl (K12.h.rq G j (Wt H t p).2.1 λv13 d M=>?_));have K13:=K12.to d M λb _ w=>.inl w;have a:=K12.cT d E (.inr rfl);rw[←D]at K13;refine⟨ue _,a.rI rfl (a.rI rfl ?_)⟩;refine gD (n:=U.size) K13 (.inl (.inr rfl)) (K12.cT d i (.inl (.inr rfl))) λW K'=>?_;rw[GY];exact hR W J K'.e (K'.fin h)
theorem AP {p:Nat->Prop}(h:∃n,p n):∃n,p n/\∀m,p m->n<=m:=by
 obtain⟨n,d⟩:=h
 induction n using Nat.strongRecOn with
 | _ n ih=>
  by_cases hm:∃m,m<n/\p m
  ·obtain⟨m,b,a⟩:=hm;exact ih m b a
  ·exact⟨n,d,λm a=>Nat.le_of_not_lt λb=>hm ⟨m,b,a⟩⟩
theorem Pt {start:eL []->Prop}{round:eL []->eL []}(Inv:Nat->Hp->Prop)(h0:start λh=>∃n,Inv n h)(hr:∀n h,Inv n h->∀J:Hp->Prop,(∀m h',m<n->Inv m h'->J h')->round J h):Ys [] start round:=by
 classical
 refine Dk (λh=>∃n,Inv n h) (λh=>if hx:∃n,Inv n h then(AP hx).choose else 0) h0 λh d=>?_
 have e:=(AP d).choose_spec;refine hr _ h e.1 _ λm h' g b=>⟨⟨m,b⟩,?_⟩;have a:∃n,Inv n h':=⟨m,b⟩;rw[dif_pos a,dif_pos d];exact BK ((AP a).choose_spec.2 m b) g
inductive iC:Nat->Hw->Nat->Ph->Hw->Int->Int->Prop
 | done {H:Hw} {t:Nat} {p:Ph}:uo H t p->(Wt H t p).2.1=none->iC 1 H t p (Qr H t p) (Wt H t p).2.2.1 (Wt H t p).2.2.2
 | next {n:Nat} {H:Hw} {t:Nat} {p p':Ph} {H':Hw} {a e:Int}:uo H t p->(Wt H t p).2.1=some p'->iC n (Qr H t p) t p' H' a e->iC (n+1) H t p H' a e
theorem Cx {p:Ph}(ht:t<H.bQ.length):∃g,(Qr H t p).bQ[t]?=some g/\g.ph=(Wt H t p).2.1:=by
 have a:t<(Wt H t p).1.bQ.length:=by rw[Ff];exact ht
 exact⟨{(Wt H t p).1.bQ[t]with ph:=(Wt H t p).2.1},by simp[Qr,eN,Hw.dV,sC,cV a],rfl⟩
end Go.Ar
namespace Go.Ar
open Go Go.Vc Go.Proofs
open Go.Bu (eU)
variable {U:Hp}{F:Rg}
def Uw (size align:Int):Bool:=decide (1<=size)&&(decide (1<=align)&&(decide (align<=256)&&eU align))
def gL (tb:List bZ)(size align:Int):Option Nat:=tb.findIdx? λc=>decide (size<=(c.size:Int))&&((c.size:Int)%align==0)
theorem Pk (n:Int)(h1:1<=n)(h2:n<=256){R:aN}(hR:∀p:Int,(p != n) = !eU n->R p U):Z3.c n U R:=by
 refine Z3.o ?_;unfold Z3.v;refine UH (a:=bN) (bb:=bN) (λ(p q:Int) w=>w=U/\(p=0/\q=1\/∃k:Nat,k<=8/\p=((2^k:Nat):Int)/\q=((2^(k+1):Nat):Int)/\p<=n)) (λp q _=>1000-q.toNat) ⟨rfl,.inl ⟨rfl,rfl⟩⟩ ?_;rintro(p:Int) (q:Int) w ⟨rfl,hpq⟩;refine cQ (λb=>?_) λs=>?_
 ·rcases hpq with⟨rfl,rfl⟩|⟨k,hk,rfl,rfl,hp⟩
  ·exact cP (m:=2) O O ⟨⟨rfl,.inr ⟨0,O,by simp,by simp,O⟩⟩,by simp⟩
  ·have g:k<=7:=by
    apply Classical.byContradiction;intro hc;have:2^9<=2^(k+1):=om aB O;omega
   have r:=kE (k+1);exact cP (m:=2^(k+1+1)) (by rw[mj 2 (k+1)];omega) (by rw[mj 2 (k+1)];omega) ⟨⟨rfl,.inr ⟨k+1,O,rfl,rfl,b⟩⟩,by rw[mj 2 (k+1)];omega⟩
 ·rcases hpq with⟨rfl,rfl⟩|⟨k,hk,rfl,rfl,hp⟩
  ·omega
  ·refine hR _ ?_;by_cases e:((2^k:Nat):Int)=n
   ·have:eU n=true:=by
     unfold eU;rw[ko];exact⟨k,zg.2 O,by simp[←e]⟩
    rw[this,e];simp
   ·have:eU n=false:=by
     unfold eU;rw[l6];intro j hj he;have d:n=((2^j:Nat):Int):=by simpa using he
     rcases pF j k with h3|h3|h3
     ·have:2^(j+1)<=2^k:=om aB h3;rw[mj]at this;have:=kE j;omega
     ·subst h3;exact e d.symm
     ·have:2^(k+1)<=2^j:=om aB h3;omega
    rw[this];simpa using e
theorem Sb {s:Sl}{xs:List (Int×Int×Int)}(ha:ic U s xs)(hv:Qe xs=true)(size align:Int){R:Int->Int->Hp->Prop}
 (hR:∀σ',bK U σ'->R (if Uw size align then((gL (xs.map Z0) size align).getD 0:Nat)else 0) (if Uw size align then(if(gL (xs.map Z0) size align).isSome then 0 else 4)else 1) σ'):Z2.c s size align U R:=by
 refine Z2.o ?_;unfold Z2.v;refine nw (cs:=[.int .i64 size]) λv hz e hb=>nw (cs:=[.int .i64 align]) λv1 Z e1 W=>?_;have S:=e1.bT hb id;refine Ga (ZP ha (e.trans e1)) λu e2=>?_;rw[hv];have E:=e2.bT S id;have y:=e2.bT W id;have g:=(e.trans e1).trans e2;refine cB rfl ?_;have key:∀r,r = !Uw size align->(If r (R 0 1 u) (Wl.c s ⟨203,#[],#[.pointer (some ⟨U.size,0,none⟩),.pointer (some ⟨v.size,0,none⟩)]⟩ u λk v4=>If (decide (k<0)) (R 0 4 v4) (R k 0 v4))):=by
  intro r b;cases hok:Uw size align with
  | false=>
   rw[hok]at b;have:=hR u g;rw[hok]at this;exact cD (by rw[b];rfl) this
  | true=>
   rw[hok]at b;refine cB (by rw[b];rfl) ?_;have L:=hok;simp only[Uw,zF,zU]at L;refine Wl.o ?_;unfold Wl.v;have ae:=ha.1;have hxl:=((Qb xs).1 hv).2.1;refine Z6 (a:=bN) (λ(z:Int) w=>∃i:Nat,z=(i:Int)/\i<=xs.length/\bK u w/\∀j c,j<i->(xs.map Z0)[j]?=some c->(decide (size<=(c.size:Int))&&((c.size:Int)%align==0))=false) (λz _=>xs.length-z.toNat) ⟨0,rfl,O,Ext.refl _ _,λj c h=>O⟩ ?_;rintro(z:Int) w ⟨i,rfl,hi,ew,hno⟩;refine cQ (λhlt=>?_) λac=>?_
   ·have M:i<xs.length:=by omega
    have B:(xs.map Z0)[i]?=some (Z0 xs[i]):=by simp[M]
    generalize Z0 xs[i]=c at B;have G:=ZP ha (g.trans ew);obtain⟨hx,af⟩:=U5 G hv B;refine xD G hx ?_;refine pd (all := #[.agg #[.int .i64 (c.size:Int),.int .i64 (c.aF:Int),.int .i64 (c.batch:Int)],.pointer (some ⟨U.size,0,none⟩),.pointer (some ⟨v.size,0,none⟩)]) (by kernel_rfl) aA ?_;refine ZK.o ?_;unfold ZK.v;refine nw (cs:=[.int .i64 (c.size:Int),.int .i64 (c.aF:Int),.int .i64 (c.batch:Int)]) λK Z e1 D=>?_;have ab:=e1.bT (ew.bT E id) id;have V:=e1.bT (ew.bT y id) id;have H:=ew.trans e1;have go:∀r,r=(decide (size<=(c.size:Int))&&((c.size:Int)%align==0))->If r (If (decide ((i:Int)<0)) (R 0 4 K) (R (i:Int) 0 K)) (Ar .i64 ((i:Int)+1) λC=>(∃i:Nat,C=(i:Int)/\i<=xs.length/\bK u K/\∀j c,j<i->(xs.map Z0)[j]?=some c->(decide (size<=(c.size:Int))&&((c.size:Int)%align==0))=false)/\xs.length-C.toNat<xs.length-(i:Int).toNat):=by
     intro r b;refine cO (λN=>fR O ?_) λh0=>?_
     ·have Y:gL (xs.map Z0) size align=some i:=by
       obtain⟨P,rfl⟩:=cW.1 B;exact nm.2 ⟨P,by rw[←b];exact N,λj F=>by rw[hno j _ F (cV O)];simp⟩
      have:=hR K (g.trans H);rw[hok,Y]at this;exact this
     ·exact cP (m:=i+1) O O ⟨⟨i+1,rfl,O,H,λj d F hd=>by
       by_cases e:j=i
       ·subst e;rw[B]at hd;cases hd;rw[←b];exact h0
       ·exact hno j d O hd⟩,O⟩
    refine D.rI rfl (ab.tP rfl ?_);refine KF (λr w=>w=K/\r=(decide (size<=(c.size:Int))&&((c.size:Int)%align==0))) (λr w ⟨Q,b⟩=>by subst Q;exact go r b) λJ A=>?_;refine cQ (λac=>D.rI rfl (V.tP rfl (nz O (A _ _ ⟨rfl,?_⟩)))) λad=>A _ _ ⟨rfl,?_⟩
    ·rw[Qg O,zJ (by omega:size<=(c.size:Int)),qE]
    ·rw[zM O,uM]
   ·have Y:gL (xs.map Z0) size align=none:=by
     unfold gL;rw[ui];intro c B;obtain⟨j,F⟩:=zQ B;have:=(cW.1 F).1;simp at this;exact hno j c O F
    have:=hR w (g.trans ew);rw[hok,Y]at this;exact lH aB this
 refine yC (λr w=>w=u/\r = !Uw size align) (λr w ⟨Q,b⟩=>by subst Q;exact key r b) λJ A=>?_;have aa:∀m,m=u->cell m ⟨U.size,0,none⟩=some (.int .i64 size):=λm X=>by rw[X,E.cell];rfl
 have x:∀m,m=u->cell m ⟨v.size,0,none⟩=some (.int .i64 align):=λm X=>by rw[X,y.cell];rfl
 refine⟨λm=>m=u,rfl,⟨size,aa,?_⟩⟩;refine cQ (λN=>A _ _ ⟨rfl,?_⟩) λN=>⟨align,x,cQ (λh2=>A _ _ ⟨rfl,?_⟩) λh2=>⟨align,x,cQ (λh3=>A _ _ ⟨rfl,?_⟩) λh3=>⟨align,x,⟨align,x,?_⟩⟩⟩⟩
 ·simp only[Uw,zM (by omega:¬1<=size),uM,vt]
 ·simp only[Uw,zM (by omega:¬1<=align),uM,ta,vt]
 ·simp only[Uw,zM (by omega:¬align<=256),uM,ta,vt]
 ·refine Pk align O O λp hp=>⟨rfl,A _ _ ⟨rfl,?_⟩⟩;rw[hp];simp only[Uw,zJ (by omega:1<=size),zJ (by omega:1<=align),zJ (by omega:align<=256),qE]
end Go.Ar
namespace Go.Ar
open Go Go.Vc Go.Proofs
variable {U u u':Hp}{F B P Q:Rg}{L:dK}{H H':Hw}{t k n pb:Nat}{A:AR}{Y:Lay}{x:eH}{g:Th}{c:bZ}{l:Li}{cs:List Value}
def mb (c:bZ):Int×Int×Int:=((c.size:Int),(c.aF:Int),(c.batch:Int))
theorem Ry (tb:List bZ):(tb.map mb).map Z0=tb:=by
 rw[lb]
 conv=>rhs;rw[←tU tb]
 apply j2;intro c _;rfl
theorem Jr {s:Sl}{tb:List bZ}(h:cU s 3 (fY tb) U F):ic U s (tb.map mb):=by
 have A:=h.1;rw[VE]at A;refine⟨by simp;omega,λi x y z j=>?_⟩;rw[zd,oy]at j;obtain⟨c,p,g⟩:=j;obtain⟨C,r,w⟩:=Gk p;simp only[mb,Prod.mk.injEq]at g;obtain⟨rfl,rfl,rfl⟩:=g;obtain⟨b,o,d,e⟩:=h.cell C;obtain⟨B,D,a,u⟩:=h.cell r;rw[d]at a;cases a;obtain⟨B,D,a,m⟩:=h.cell w;rw[d]at a;cases a;exact⟨b,o,d,QZ e,by rw[show o+i*3=o+3*i by omega];exact e,by rw[show o+i*3+1=o+(3*i+1) by omega];exact u,by rw[show o+i*3+2=o+(3*i+2) by omega];exact m⟩
def mo (tb:List bZ):Prop:=Qe (tb.map mb)=true
def iH (tb:List bZ)(kind size align addr:Int):Option Ph:=
 if kind=0 then(if 1<=size/\size<=16384 then(if Uw size align then(match gL tb size align with
  | some k=>some (.take k)
  | none=>some (.eD ((size+255).toNat/256)))else none)else none)
 else if kind=1 then some (.find addr)else if kind=2 then some .drain else none
theorem SR (h:HH U F L H)(hv:mo H.tb)(kind size align addr:Int){R:Value->Hp->Prop}(hR:∀σ',bK U σ'->R (mH (iH H.tb kind size align addr)) σ'):Yn.c (aW L.p) kind size align addr U R:=by
 refine Yn.o ?_;unfold Yn.v;refine nw (cs:=[.int .i64 kind,.int .i64 size,.int .i64 align,.int .i64 addr]) λv M e s=>s.rI rfl ?_;have C:=h.bO e;have a:=hR v e;refine cO (λz=>?_) λz=>?_
 ·have i:kind=0:=by simpa using z
  have D:iH H.tb kind size align addr=(if 1<=size/\size<=16384 then(if Uw size align then(match gL H.tb size align with
   | some k=>some (.take k)
   | none=>some (.eD ((size+255).toNat/256)))else none)else none):=by unfold iH;rw[zC i]
  rw[D]at hR a;refine s.rI rfl (KF (λr w=>w=v/\r = !decide (1<=size/\size<=16384)) (λr w ⟨K,y⟩=>?_) λJ B=>?_)
  ·subst K;by_cases hs:1<=size/\size<=16384
   ·rw[zC hs]at hR;rw[zJ hs]at y;refine cB (by rw[y];rfl) ⟨λm=>m=w,rfl,aG ⟨L.dD,λm x=>by rw[x,add_lit,C.hd.cell];rfl,⟨size,λm x=>by rw[x,add_lit,s.cell];rfl,⟨align,λm x=>by rw[x,add_lit,s.cell];rfl,?_⟩⟩⟩⟩;refine Sb (Jr C.jA) hv size align λE e2=>?_;rw[Ry];have A:=e2.bT s id;have b:=hR E (e.trans e2);cases hok:Uw size align with
    | false=>
     rw[hok]at b;exact cB rfl (cB rfl b)
    | true=>
     rw[hok]at b;simp only[zR]at b ⊢;cases hcl:gL H.tb size align with
     | some k=>rw[hcl]at b;exact cD rfl b
     | none=>
      rw[hcl]at b;refine cB rfl (cD rfl (A.rI rfl (ar O O (ar O O (nz aB (ar (by rw[XP O];omega) (by rw[XP O];omega) ?_))))));rw[XP O];have:(size+256-1)/256=(((size+255).toNat/256:Nat):Int):=by omega
      rw[this];exact b
   ·rw[zB hs]at a;rw[zM hs]at y;exact cD (by rw[y];rfl) a
  ·refine cQ (λG=>B _ _ ⟨rfl,?_⟩) λG=>s.rI rfl (B _ _ ⟨rfl,?_⟩)
   ·rw[zM O];rfl
   ·by_cases h2:size>16384
    ·rw[zJ h2,zM O];rfl
    ·rw[zM h2,zJ O];rfl
 ·have i:kind≠0:=by simpa using z
  refine cO (λu=>s.rI rfl ?_) λu=>?_
  ·have d:kind=1:=by simpa using u
   unfold iH at a;rw[zB i,zC d]at a;exact a
  ·have d:kind≠1:=by simpa using u
   refine cO (λj=>?_) λj=>?_
   ·have g:kind=2:=by simpa using j
    unfold iH at a;rw[zB i,zB d,zC g]at a;exact a
   ·have g:kind≠2:=by simpa using j
    unfold iH at a;rw[zB i,zB d,zB g]at a;exact a
def Kd (H:Hw)(thread kind size align addr:Int):Int ⊕ (Nat×Ph):=
 if 0<=thread/\thread<(H.bQ.length:Int)then(match H.bQ[thread.toNat]? with
  | some g=>(if g.ph=none then(match iH H.tb kind size align addr with
   | some p=>.inr (thread.toNat,p)
   | none=>.inl 1)else .inl 5)
  | none=>.inl 1)else .inl 1
theorem JG (h:HH U F L H)(hv:mo H.tb)(thread kind size align addr:Int){R:aN}(h0:∀e,Kd H thread kind size align addr=.inl e->e≠0->∀σ',Ext F U σ'->HH σ' (Grow F U) L H->R e σ')
 (h1:∀t p,Kd H thread kind size align addr=.inr (t,p)->thread=(t:Int)->t<H.bQ.length->∀σ',Ext F U σ'->HH σ' (Grow F U) L (eN H t (some p))->R 0 σ'):YZ.c (aW L.p) thread kind size align addr U R:=by
 refine YZ.o ?_;unfold YZ.v;refine nw (cs:=[.int .i64 kind,.int .i64 size,.int .i64 align,.int .i64 addr]) λv y e d=>?_;have K1:=(HK.start h).box e y;refine Uj K1.h (cB rfl (BC K1.h thread ?_));by_cases hth:0<=thread/\thread<(H.bQ.length:Int)
 ·obtain⟨t,rfl⟩:∃t:Nat,thread=(t:Int):=⟨thread.toNat,O⟩;have j:t<H.bQ.length:=by omega
  obtain⟨x,g,m,i⟩:=h.th j;have a:Kd H (t:Int) kind size align addr=(if g.ph=none then(match iH H.tb kind size align addr with
   | some p=>.inr (t,p)
   | none=>.inl 1)else .inl 5):=by
   unfold Kd;rw[zC hth,dE,i]
  refine cB (by rw[zJ hth];rfl) (aG (K1.h.hd.rS rfl (K1.h.tR m i ⟨ue _,?_⟩)));cases hp:g.ph with
  | some p=>
   rw[hp,zB aA]at a;exact cD (by rw[GY];rfl) (h0 5 a aB v K1.e (K1.fin h))
  | none=>
   rw[hp,zC rfl]at a;refine cB rfl (d.rI rfl (d.rI rfl (d.rI rfl (d.rI rfl (SR K1.h hv kind size align addr λv3 z=>⟨ue _,?_⟩)))));have K3:=K1.fr z;rw[GY];cases hq:iH H.tb kind size align addr with
   | none=>
    rw[hq]at a;exact cD rfl (h0 1 a aB v3 K3.e (K3.fin h))
   | some p=>
    rw[hq]at a;refine cB rfl (aG (K3.h.hd.rS rfl (K3.h.rq m i (some p) λs r w=>?_)));have K4:=K3.to r w λb _ d=>.inl d;have u:eN H t (some p) = {H with bQ:=H.bQ.set t {g with ph:=some p}}:=Zr i _;rw[←u]at K4;exact h1 t p a rfl j s K4.e (K4.fin h)
 ·have a:Kd H thread kind size align addr=.inl 1:=by unfold Kd;rw[zB hth]
  exact cD (by rw[zM hth];rfl) (h0 1 a aB v K1.e (K1.fin h))
theorem Mf {p:Option Ph}(ht:t<H.bQ.length):∃g,(eN H t p).bQ[t]?=some g/\g.ph=p:=
 ⟨{H.bQ[t]with ph:=p},by simp[eN,Hw.dV,sC,cV ht],rfl⟩
theorem C7 (hso:H4)(h:HH U F L H)(hv:mo H.tb)(thread kind size align addr:Int){R:Int->Int->Hp->Prop}(h0:∀e,Kd H thread kind size align addr=.inl e->e≠0->∀σ',Ext F U σ'->HH σ' (Grow F U) L H->R 0 e σ')
 (h1:∀t p,Kd H thread kind size align addr=.inr (t,p)->∃n H' a e,iC n (eN H t (some p)) t p H' a e/\∀σ' ts',Ext F U σ'->HH σ' (Grow F U) {L with ts:=ts'} H'->R a e σ'):XS.c (aW L.p) thread kind size align addr U R:=by
 refine XS.o ?_;unfold XS.v;refine nw (cs:=[.int .i64 kind,.int .i64 size,.int .i64 align,.int .i64 addr]) λv hz e i=>i.rI rfl (i.rI rfl (i.rI rfl (i.rI rfl ?_)));have K1:=(HK.start h).box e hz;refine JG K1.h hv thread kind size align addr (λA he E v1 e1 u=>?_) λt p aa ag ht v1 e1 u=>?_
 ·have K2:=K1.to e1 u λb _ i=>i;exact cD (by simpa using E) (h0 A he E v1 K2.e (K2.fin h))
 ·subst ag;have K2:=K1.to e1 u λb _ i=>i;obtain⟨n,Hf,a,A,d,C⟩:=h1 t p aa;refine cB rfl (Pt (λn w=>∃(B P:Rg) (ts:List eH) (H:Hw) (p:Ph),HK F U B w P {L with ts:=ts} H/\(∃g,H.bQ[t]?=some g/\g.ph=some p)/\iC n H t p Hf a A) ⟨n,_,_,L.ts,_,p,K2,Mf ht,d⟩ ?_);rintro n w ⟨B,P,ts,H2,j,K,⟨g,hg,Z⟩,d⟩ J hJ;have go:uo H2 t j->((Wt H2 t j).2.1.isNone=true->(Wt H2 t j).2.2.1=a/\(Wt H2 t j).2.2.2=A/\Qr H2 t j=Hf)->((Wt H2 t j).2.1.isNone=false->∃m M,m<n/\(Wt H2 t j).2.1=some M/\iC m (Qr H2 t j) t M Hf a A)->YX.c (aW L.p) (t:Int) w λN z D t223 v3=>Nw (.cells #[.int .i64 0,.int .i64 0] 125 (0,0)) v3 λr v4=>dN (r.add 0) (.int .i64 z) v4 λv5=>dN (r.add 1) (.int .i64 D) v5 λs=>If N (gp .i64 (r.add 0) s λS=>gp .i64 (r.add 1) s λab=>R S ab s) (J s):=by
   intro hok hd hn;refine Lq hso K.h hg Z hok λv3 y e3 af=>?_;have K3:=K.to e3 af λb _ i=>i;refine nw (cs:=[.int .i64 0,.int .i64 0]) λv4 V e4 Q=>?_;have K4:=K3.box e4 V;refine Q.s1 aA λv5 o5 b5=>b5.s1 aA λs o6 b6=>?_;have K6:=(K4.own o5 (.inr rfl)).own o6 (.inr rfl);refine cO (λY=>?_) λW=>?_
   ·obtain⟨q1,q2,q3⟩:=hd Y;rw[q3]at K6;refine b6.rI rfl (b6.rI rfl ?_);rw[q1,q2];exact C s y K6.e (K6.fin h)
   ·obtain⟨m,M,hm,ae,ac⟩:=hn W;have X:t<H2.bQ.length:=(cW.1 hg).1;obtain⟨g',ad,G⟩:=Cx (p:=j) X;exact hJ m s hm ⟨_,_,y,_,M,K6,⟨g',ad,by rw[G,ae]⟩,ac⟩
  cases d with
  | done hok hnone=>exact go hok (λ_=>⟨rfl,rfl,rfl⟩) λx=>by rw[hnone]at x;cases x
  | next hok hsome hrun'=>exact go hok (λx=>by rw[hsome]at x;cases x) λ_=>⟨_,_,Nat.lt_succ_self _,hsome,hrun'⟩
end Go.Ar
namespace Go.Ar
open Go Go.Vc Go.Proofs
variable {U u w w':Hp}{F B P Q:Rg}{n:Nat}{cs:List Value}{tb:List bZ}{cf:Cf}
def VJ (tb:List bZ)(cf:Cf):Hw:=⟨tb,cf,K0 cf.aF,List.replicate cf.hU (fo cf.aF cf.room tb),List.replicate cf.threads ⟨List.replicate tb.length ia,[],none⟩,[]⟩
def q9 (p a t b r:Int):Bool:=decide (32<=p)&&decide (p<=1024)&&(p%16==0)&&decide (1<=a)&&decide (a<=4)&&decide (1<=t)&&decide (t<=4)&&decide (0<=b)&&decide (b<=65536)&&decide (0<=r)&&decide (r<=8)
theorem lvl {K:aO}{r:Bool}{a:Addr}{x:Int}{k:IntKind}{f:Int->Bool}(hl:∀{K':Int->Prop},K' x->gp k a w K')(h:K (r&&f x) w):bV K λJ=>If r (gp k a w λt=>J (f t) w) (J false w):=
 bV.intro (cO (λb=>hl (by rw[b]at h;exact h)) λb=>by rw[b]at h;exact h)
theorem SL (p a t b r:Int){R:aO}(hR:∀σ',bK U σ'->R (q9 p a t b r) σ'):Qm.c p a t b r U R:=by
 refine Qm.o ?_;unfold Qm.v;refine nw (cs:=[.int .i64 p,.int .i64 a,.int .i64 t,.int .i64 b,.int .i64 r]) λv A e g=>g.rI rfl ?_;have i:=hR v e;unfold q9 at i;refine KF (λj w=>w=v/\j=(decide (32<=p)&&decide (p<=1024))) (λj w ⟨u,x⟩=>?_) λJ m=>?_
 ·subst u;subst x;refine KF (λj z=>z=w/\j=(decide (32<=p)&&decide (p<=1024)&&(p%16==0))) (λj z ⟨u,x⟩=>?_) λJ m=>?_
  ·rw[u];subst x;exact lvl (λd=>g.rI rfl d) (lvl (λd=>g.rI rfl d) (lvl (λd=>g.rI rfl d) (lvl (λd=>g.rI rfl d) (lvl (λd=>g.rI rfl d) (lvl (λd=>g.rI rfl d) (lvl (λd=>g.rI rfl d) (lvl (λd=>g.rI rfl d) i)))))))
  ·refine cO (λs=>g.rI rfl (nz aB (m _ _ ⟨rfl,?_⟩))) λy=>m _ _ ⟨rfl,?_⟩
   ·simp only[zF,zU]at s;rw[Qg O,zJ s.1,zJ s.2];rfl
   ·rw[y];rfl
 ·refine cQ (λs=>g.rI rfl (m _ _ ⟨rfl,?_⟩)) λy=>m _ _ ⟨rfl,?_⟩
  ·rw[zJ (by omega:32<=p)];rfl
  ·rw[zM O];rfl
structure oF where
 p:Nat
 dD:Sl
 lm:Nat
 hs:Option Nat
 hp:Option Nat
 aw:Sl
 al:List Nat
 ha:Sl
 tw:Sl
 tl:List Value
 ht:Sl
 ys:List Lay
 cs:List gN
def pL (cf:Cf)(N:oF):List Value:=[.slice N.dD.a N.dD.len N.dD.cap,.int .i64 (cf.aF:Int),.int .i64 (cf.hU:Int),.int .i64 (cf.threads:Int),.int .i64 (cf.dA:Int),.int .i64 (cf.room:Int),
 .pointer (N.hp.map λq=>⟨q,0,none⟩),.slice N.ha.a N.ha.len N.ha.cap,.slice N.ht.a N.ht.len N.ht.cap,.map (some N.lm)]
def qV (n room:Nat)(tb:List bZ)(y:Option Lay):Hp->Rg->Prop:=λU F=>match y with
 | some Y=>dG U F Y (fo n room tb) (cK (fo n room tb) Y)
 | none=>True
def rW (tb:List bZ)(bud:Nat)(y:Option gN):Hp->Rg->Prop:=λU F=>match y with
 | some Y=>dZ U F Y tb bud (List.replicate tb.length ia)
 | none=>True
def xj (n:Nat)(q:Option Nat):Hp->Rg->Prop:=λU F=>match q with
 | some q=>dL U F q (K0 n)
 | none=>True
def iP (tb:List bZ)(cf:Cf)(N:oF):kC->Hp->Rg->Prop
 | .hd=>iu N.p (pL cf N)
 | .dD=>cU N.dD 3 (fY tb)
 | .sp=>xj cf.aF N.hs
 | .fL=>bR N.aw 1 (fK N.al)
 | .cN=>bR N.tw 3 N.tl
 | .live=>jx N.lm .i64 (.ag 4) []
 | .ar k=>qV cf.aF cf.room tb N.ys[k]?
 | .ca k=>rW tb cf.dA N.cs[k]?
 | .hn _=>λ_ _=>True
theorem qV.loc (n room:Nat)(tb:List bZ)(y:Option Lay):dM (qV n room tb y):=by
 intro U σ' F G h hz hs;cases y with
 | some Y=>exact dG.loc _ _ _ _ h hz hs
 | none=>trivial
theorem rW.loc (tb:List bZ)(bud:Nat)(y:Option gN):dM (rW tb bud y):=by
 intro U σ' F G h hz hs;cases y with
 | some Y=>exact dZ.loc _ _ _ _ h hz hs
 | none=>trivial
theorem xj.loc (n:Nat)(q:Option Nat):dM (xj n q):=by
 intro U σ' F G h hz hs;cases q with
 | some q=>exact dL.loc _ _ _ _ h hz hs
 | none=>trivial
theorem iP.loc {N:oF}:∀i,dM (iP tb cf N i)
 | .hd=>iu.loc _ _
 | .dD=>cU.loc _ _ _
 | .sp=>xj.loc _ _
 | .fL=>bR.loc _ _ _
 | .cN=>bR.loc _ _ _
 | .live=>jx.loc _ _ _ _
 | .ar k=>qV.loc _ _ _ _
 | .ca k=>rW.loc _ _ _
 | .hn _=>λ_ _ _ _ _ _ _=>trivial
structure NK (U:Hp) (B:Rg) (w:Hp) (P:Rg) (tb:List bZ) (cf:Cf) (N:oF):Prop where
 sep:Sep (iP tb cf N) w P
 e:bK U w
 p:∀b,P b->U.size<=b/\¬B b/\b<w.size
 b:∀b,B b->U.size<=b/\b<w.size
variable {N N':oF}
theorem NK.fr (K:NK U B w P tb cf N)(e:bK w w'):NK U B w' P tb cf N:=
 ⟨(Sep.loc iP.loc).bO K.sep e,K.e.trans e,λb a=>⟨(K.p b a).1,(K.p b a).2.1,by have:=(K.p b a).2.2;have:=e.1;omega⟩,λb a=>by have:=K.b b a;have:=e.1;omega⟩
theorem NK.box (K:NK U B w P tb cf N)(e:bK w w')(hz:w'.size=w.size+1):NK U (λb=>B b\/b=w.size) w' P tb cf N:=by
 have h:=K.fr e;have i:=K.e.1;exact⟨h.sep,h.e,λb a=>⟨(K.p b a).1,λd=>d.elim (K.p b a).2.1 λg=>by have:=(K.p b a).2.2;omega,(h.p b a).2.2⟩,λb a=>a.elim (h.b b) λg=>O⟩
theorem NK.drop (K:NK U B w P tb cf N){B':Rg}(hb:∀b,B' b->B b):NK U B' w P tb cf N:=⟨K.sep,K.e,λb h=>⟨(K.p b h).1,λa=>(K.p b h).2.1 (hb b a),(K.p b h).2.2⟩,λb h=>K.b b (hb b h)⟩
theorem NK.put (K:NK U B w P tb cf N)(e:bK w w')(i:kC)(hj:∀j,j≠i->iP tb cf N' j=iP tb cf N j)(hi:iP tb cf N' i w' (λb=>w.size<=b)):NK U B w' (λb=>P b\/w.size<=b/\b<w'.size) tb cf N':=by
 have h:=K.fr e;have m:=K.e.1;refine⟨h.sep.put iP.loc i (G:=λb=>w.size<=b/\b<w'.size) (λb a g=>by have:=(K.p b g).2.2;omega) hj ((iP.loc i).mono hi λb a d=>⟨d,a⟩) (iP.loc i),h.e,λb a=>?_,h.b⟩;rcases a with a|a
 ·exact h.p b a
 ·exact⟨O,λd=>by have:=(K.b b d).2;omega,a.2⟩
theorem NK.step (K:NK U B w P tb cf N)(i:kC):∃G:Rg,(∀b,G b->P b)/\iP tb cf N i w G/\∀(w':Hp) (N':oF) (G':Rg),(∀j,j≠i->iP tb cf N' j=iP tb cf N j)->Ext G w w'->(∀b,G' b->G b\/w.size<=b/\¬B b)->iP tb cf N' i w' G'->(∀b,B b->b<w'.size) →
 NK U B w' (λb=>(P b/\¬G b\/G' b)/\b<w'.size) tb cf N':=by
 obtain⟨G,m,s,_,g⟩:=K.sep.jK iP.loc i;refine⟨G,m,s,λw' N' G' x e r u y=>⟨?_,?_,λb a=>?_,λb a=>⟨(K.b b a).1,y b a⟩⟩⟩
 ·have:=g w' (iP tb cf N') G' x e (λb a=>(r b a).imp id λd=>d.1) u (iP.loc _);refine(Sep.loc iP.loc).mono this λb a d=>⟨?_,a⟩;exact d.imp (λd=>⟨d.1,d.2.2⟩) id
 ·exact Ext.dT K.e e λb a=>.inr (K.p b (m b a)).1
 ·have z:=K.e.1;rcases a.1 with h1|h1
  ·exact⟨(K.p b h1.1).1,(K.p b h1.1).2.1,a.2⟩
  ·rcases r b h1 with h2|h2
   ·exact⟨(K.p b (m b h2)).1,(K.p b (m b h2)).2.1,a.2⟩
   ·exact⟨O,h2.2,a.2⟩
theorem B0 {K:eL [.p]}{body:eL [.p]->Prop}(P:Option Addr->Hp->Prop)(h1:∀r w,P r w->K r w)(h2:∀J:eL [.p],(∀r w,P r w->J r w)->body J):Jn [.p] K body:=Jn.intro (h2 K h1)
def gF:Sl:=⟨none,0,0⟩
def pD (cs:List gN):List Value:=cs.flatMap λc=>[.pointer (some ⟨c.p,0,none⟩),.slice none 0 0,.nilIface]
def N0 (p:Nat)(dD:Sl)(lm:Nat):oF:=⟨p,dD,lm,none,none,gF,[],gF,gF,[],gF,[],[]⟩
def NB (p:Nat)(dD:Sl)(lm q:Nat)(aw:Sl)(ys:List Lay)(tw:Sl)(cs:List gN):oF:=⟨p,dD,lm,some q,some q,aw,ys.map (·.p),aw,tw,pD cs,tw,ys,cs⟩
theorem DZ {p lm:Nat}{dD:Sl}{D:Rg}(e:bK U w)(hz:U.size<w.size)(hp:bX w p (pL cf (N0 p dD lm)))(hm:dI w lm .i64 (.ag 4) [])(ht:cU dD 3 (fY tb) w D)(hD:∀b,D b->U.size<b/\b<w.size/\b≠p/\b≠lm)(hpl:p≠lm)(h1:U.size<p)(h2:U.size<lm) :
 NK U (· = U.size) w (λb=>D b\/b=p\/b=lm) tb cf (N0 p dD lm):=by
 have d:=hp.lt;have g:=hm.lt;refine⟨⟨λb=>if b=p then .hd else if b=lm then .live else .dD,λi=>?_⟩,e,λb a=>?_,λb a=>O⟩
 ·cases i with
  | hd=>exact⟨⟨.inr (.inl rfl),zC rfl⟩,hp⟩
  | live=>exact⟨⟨.inr (.inr rfl),by show(if lm=p then kC.hd else if lm=lm then kC.live else kC.dD)=.live;rw[zB (Ne.symm hpl),zC rfl]⟩,hm⟩
  | dD=>exact aH.mono ht λb _ a=>⟨.inl a,by show(if b=p then kC.hd else if b=lm then kC.live else kC.dD)=.dD;rw[zB (hD b a).2.2.1,zB (hD b a).2.2.2]⟩
  | sp=>trivial
  | fL=>exact bR.nil _ _ _ _
  | cN=>exact bR.nil _ _ _ _
  | ar k=>trivial
  | ca k=>trivial
  | hn k=>trivial
 ·rcases a with a|a|a
  ·have:=hD b a;omega
  ·omega
  ·omega
theorem NK.yx (K:NK U B w P tb cf N):P N.p/\bX w N.p (pL cf N):=by
 obtain⟨G,b,a⟩:=K.sep.get .hd;exact⟨b _ a.1,a.2⟩
theorem NK.tG (K:NK U B w P tb cf N)(N':oF)(hN':∀j,j≠.hd->iP tb cf N' j=iP tb cf N j)(hp:N'.p=N.p){i:Nat}{v:Value}(hs:(pL cf N).set i v=pL cf N')(hi:i<10){Kk:aP}(hK:∀w' P',NK U B w' P' tb cf N'->Qo w w' N.p->Kk w'):dN (Addr.add ⟨N.p,0,none⟩ i) v w Kk:=by
 obtain⟨G,m,a,e⟩:=K.step .hd;have a:iu N.p (pL cf N) w G:=a;refine a.2.s1 (by simpa[pL]using hi) λw' o g=>hK w' _ (e w' N' G hN' (o.ext.sub λx d=>by rw[d];exact a.1) (λx d=>.inl d) ?_ λx d=>by have:=(K.b x d).2;have:=o.1;omega) o;show iu N'.p (pL cf N') w' G;rw[zH,hs]at g;rw[hp];exact⟨a.1,g⟩
theorem LC {Y:Lay}(h:N'.ys=N.ys++[Y])(hr:∀j,(∀k,j≠.ar k)->iP tb cf N' j=iP tb cf N j):∀j,j≠kC.ar N.ys.length->iP tb cf N' j=iP tb cf N j:=by
 intro j hj;cases j with
 | ar k=>
  have a:k≠N.ys.length:=λe=>hj (by rw[e]);show qV _ _ _ N'.ys[k]?=qV _ _ _ N.ys[k]?;rw[h]
  congr 1
  rcases Nat.lt_or_gt_of_ne a with h1|h1
  ·rw[ze h1]
  ·rw[zV aE,zV O]
 | _=>exact hr _ (λk e=>by cases e)
theorem Rk {Y:gN}(h:N'.cs=N.cs++[Y])(hr:∀j,(∀k,j≠.ca k)->iP tb cf N' j=iP tb cf N j):∀j,j≠kC.ca N.cs.length->iP tb cf N' j=iP tb cf N j:=by
 intro j hj;cases j with
 | ca k=>
  have a:k≠N.cs.length:=λe=>hj (by rw[e]);show rW _ _ N'.cs[k]?=rW _ _ N.cs[k]?;rw[h]
  congr 1
  rcases Nat.lt_or_gt_of_ne a with h1|h1
  ·rw[ze h1]
  ·rw[zV aE,zV O]
 | _=>exact hr _ (λk e=>by cases e)
end Go.Ar
namespace Go.Ar
open Go Go.Vc Go.Proofs
variable {U u w w':Hp}{F B P Q:Rg}{n:Nat}{cs:List Value}{tb:List bZ}{cf:Cf}{N:oF}
theorem F6 (p a t b r:Int):q9 p a t b r=true↔(32<=p/\p<=1024/\p%16=0)/\(1<=a/\a<=4)/\(1<=t/\t<=4)/\(0<=b/\b<=65536)/\0<=r/\r<=8:=by
 simp only[q9,zF,zU,zT];omega
theorem Av (g:Gl U)(gd:Gd U):iR (λb=>U.size<=b)/\¬(U.size<=1):=by
 refine⟨?_,λh=>by have:=B2 gd;omega⟩;have d:iR (λ_=>False):=λb a=>a.elim;exact(d.grow g).sub λb a=>.inr a
theorem J5 (cs:List gN)(ls:List Li):gR (cs.map λc=>⟨c,gF⟩) (List.replicate cs.length ⟨ls,[],none⟩)=pD cs:=by
 induction cs with
 | nil=>rfl
 | cons c cs ih=>
  have e1:gR ((c::cs).map λc=>(⟨c,gF⟩:eH)) (List.replicate (c::cs).length ⟨ls,[],none⟩)=jj (⟨c,gF⟩,⟨ls,[],none⟩)++gR (cs.map λc=>(⟨c,gF⟩:eH)) (List.replicate cs.length ⟨ls,[],none⟩):=rfl;rw[e1,ih];rfl
theorem Nj (cs:List gN):(pD cs).length=cs.length*3:=by
 induction cs with
 | nil=>rfl
 | cons c cs ih=>simp only[pD,oS,zO,zY,lK]at *;omega
set_option maxRecDepth 8000 in
theorem B3 {s:Sl}{xs:List (Int×Int×Int)}(ha:ic U s xs)(g:Gl U)(gd:Gd U)(p a t b r:Int){R:Option Addr->Int->Hp->Prop}
 (h2:Qe xs=false->∀σ',bK U σ'->R none 2 σ')
 (h1:Qe xs=true->q9 p a t b r=false->∀σ',bK U σ'->R none 1 σ')
 (h0:Qe xs=true->q9 p a t b r=true->∀σ' L,bK U σ'->HH σ' (λq=>U.size<=q) L (VJ (xs.map Z0) ⟨p.toNat,a.toNat,t.toNat,b.toNat,r.toNat⟩)->R (some ⟨L.p,0,none⟩) 0 σ') :
 Kn.c s p a t b r U R:=by
 refine Kn.o ?_;unfold Kn.v;refine nw (cs:=[.int .i64 p,.int .i64 a,.int .i64 t,.int .i64 b,.int .i64 r]) λv hz e y=>?_;refine Ga (ZP ha e) λv1 e1=>?_;cases hv:Qe xs with
 | false=>exact cD rfl (h2 hv v1 (e.trans e1))
 | true=>
 have aa:=e1.bT y id;refine cB rfl (aa.rI rfl (aa.rI rfl (aa.rI rfl (aa.rI rfl (aa.rI rfl (SL p a t b r λv2 e2=>?_))))));have W:=(e.trans e1).trans e2;cases hc:q9 p a t b r with
 | false=>exact cD rfl (h1 hv hc v2 W)
 | true=>
 have hcf:=(F6 p a t b r).1 hc;obtain⟨p,rfl⟩:∃n:Nat,p=(n:Int):=⟨p.toNat,O⟩;obtain⟨a,rfl⟩:∃n:Nat,a=(n:Int):=⟨a.toNat,O⟩;obtain⟨t,rfl⟩:∃n:Nat,t=(n:Int):=⟨t.toNat,O⟩;obtain⟨b,rfl⟩:∃n:Nat,b=(n:Int):=⟨b.toNat,O⟩;obtain⟨r,rfl⟩:∃n:Nat,r=(n:Int):=⟨r.toNat,O⟩;simp only[dE]at h0;have h0:=h0 hv hc;have A:=e2.bT aa id;have hxl:=(Qb xs).1 hv;have hz2:=W.1;have hz02:U.size<v2.size:=A.lt;generalize hcfd:(⟨p,a,t,b,r⟩:Cf)=cf at h0;generalize htbd:xs.map Z0=tb at h0;have hdE:∀(q:Nat) (dD:Sl) (C:Nat),pL cf (N0 q dD C)=[.slice dD.a dD.len dD.cap,.int .i64 (p:Int),.int .i64 (a:Int),.int .i64 (t:Int),.int .i64 (b:Int),.int .i64 (r:Int),.pointer none,.slice none 0 0,.slice none 0 0,.map (some C)]:=λq dD C=>by rw[←hcfd];rfl
 refine cB rfl (B0 (λvh w=>∃P q dD C,vh=some ⟨q,0,none⟩/\NK U (· = U.size) w P tb cf (N0 q dD C)/\bX w U.size [.int .i64 (p:Int),.int .i64 (a:Int),.int .i64 (t:Int),.int .i64 (b:Int),.int .i64 (r:Int)]) (λvh w ⟨P,q,dD,C,hvh,K,hbw⟩=>?_) λJ hJ=>?_)
 ·subst hvh;refine hbw.rI rfl (JK (n:=p) O O λv4 sp e4 _ hS=>?_);have hp:cf.aF=p:=by rw[←hcfd]
  have hroom:cf.room=r:=by rw[←hcfd]
  have hbud:cf.dA=b:=by rw[←hcfd]
  have K1:NK U (· = U.size) v4 _ tb cf {N0 q dD C with hs:=some sp}:=K.put e4 .sp (λj H=>by cases j<;>first|rfl|exact absurd rfl H) (by
   show dL v4 _ sp (K0 cf.aF);rw[hp];exact hS)
  have hbw4:=e4.bT hbw id;refine aG (K1.tG (NB q dD C sp gF [] gF []) (λj H=>by cases j<;>first|rfl|exact absurd rfl H) rfl (i:=6) rfl O λv5 P5 K5 o5=>?_)
  have af:∀{w:Hp} {P:Rg} {N:oF},NK U (· = U.size) w P tb cf N->U.size≠N.p:=λK e=>(K.p _ K.yx.1).2.1 e.symm;have hbw5:=Ws o5 hbw4 (af K1);refine hbw5.rI rfl ?_;refine Z6 (a:=bN) (λ(z:Int) w=>∃(P:Rg) (aw:Sl) (ys:List Lay),z=(ys.length:Int)/\ys.length<=a/\(∀Y∈ys,Y.hs=sp)/\NK U (· = U.size) w P tb cf (NB q dD C sp aw ys gF [])/\bX w U.size [.int .i64 (p:Int),.int .i64 (a:Int),.int .i64 (t:Int),.int .i64 (b:Int),.int .i64 (r:Int)]) (λz _=>a-z.toNat) ⟨P5,gF,[],rfl,by simp,by simp,K5,hbw5⟩ ?_;rintro(z:Int) w6 ⟨P6,aw,ys,rfl,hyl,hys,K6,hbw6⟩;refine cQ (λhlt=>?_) λhge=>?_
  ·refine⟨λu=>u=w6,rfl,aG ⟨some ⟨sp,0,none⟩,λu hu=>by cases hu;rw[add_lit];exact(bX.cell (b:=q) K6.yx.2).trans rfl,⟨(r:Int),λu hu=>by cases hu;rw[add_lit,hbw6.cell];rfl,?_⟩⟩⟩;obtain⟨GS,hGS,hSp⟩:=K6.sep.get .sp;have hSp:dL w6 GS sp (K0 cf.aF):=hSp;have hnl:(K0 cf.aF).st.length=p:=by rw[hp];simp[K0]
   have hnE:kX xs (K0 cf.aF).st.length (r:Int)=0:=by
    unfold kX;rw[zC hv,hnl,zC O]
   refine I5 (ZP ha K6.e) hSp (r:Int) (λhne=>absurd hnE hne) λ_ v7 Y e7 hYh hA=>?_;rw[hnl,dE,htbd]at hA;have K7:NK U (· = U.size) v7 _ tb cf {NB q dD C sp aw ys gF []with ys:=ys++[Y]}:=K6.put e7 (.ar ys.length) (LC (N:=NB q dD C sp aw ys gF []) rfl (λj H=>by
    cases j with
    | ar k=>exact absurd rfl (H k)
    | _=>rfl)) (by
    show qV cf.aF cf.room tb (ys++[Y])[ys.length]? v7 _;rw[zp (zD _),pV,hp,hroom];exact hA)
   have S:=e7.bT hbw6 id;refine aG (K7.yx.2.rS (a:=aw.a) (n:=aw.len) (c:=aw.cap) rfl (nw (cs:=[.pointer (some ⟨Y.p,0,none⟩)]) λv8 hz8 e8 hb8=>?_));have K8:=K7.box e8 hz8;obtain⟨G,hG,d,ae⟩:=K8.step .fL;have d:bR aw 1 (fK (ys.map (·.p))) v8 G:=d;have hal:aw.len=ys.length:=by have:=d.1;simp[fK]at this;omega
   refine d.app (ys:=[.pointer (some ⟨Y.p,0,none⟩)]) rfl rfl ?_ (by simp[dQ]) ?_ ?_ mT λs' v9 _ e9 hr9=>?_
   ·intro j u hu;rw[add_lit,zH,hb8.cell];exact hu
   ·simp only;omega
   ·simp only;omega
   have hz9:=e9.1;have hbw9:bX v9 U.size _:=e9.bT (e8.bT S id) λE=>(K8.p _ (hG _ E)).2.1 (.inl rfl);have K9:=(ae v9 {NB q dD C sp aw ys gF []with ys:=ys++[Y],aw:=s',al:=(ys++[Y]).map (·.p)} (λb=>Grow G v8 b/\b<v9.size) (λj H=>by cases j<;>first|rfl|exact absurd rfl H) e9 (λb y=>y.1.imp id λE=>⟨E,λhB=>by have:=(K8.b b hB).2;omega⟩) (by
    show bR s' 1 (fK ((ys++[Y]).map (·.p))) v9 _;have:fK ((ys++[Y]).map (·.p))=fK (ys.map (·.p))++[.pointer (some ⟨Y.p,0,none⟩)]:=by simp[fK]
    rw[this];exact aI.mono hr9 λb y E=>⟨E,y⟩) λb hB=>by have:=(K8.b b hB).2;omega).drop (B':=(· = U.size)) λb y=>.inl y
   refine aG (K9.tG (NB q dD C sp s' (ys++[Y]) gF []) (λj H=>by cases j<;>first|rfl|exact absurd rfl H) rfl (i:=7) rfl O λah P10 K10 gH=>?_)
   have M:=Ws gH hbw9 (af K9);exact cP (m:=ys.length+1) O O ⟨⟨P10,s',ys++[Y],by simp,by simp;omega,λZ hZ=>(zK.1 hZ).elim (hys Z) λh=>by
    rw[zN]at h;rw[h];exact hYh,K10,M⟩,O⟩
  ·have hya:ys.length=a:=by omega
   refine hbw6.rI rfl ?_;refine Z6 (a:=bN) (λ(z:Int) w=>∃(P:Rg) (tw:Sl) (cs:List gN),z=(cs.length:Int)/\cs.length<=t/\NK U (· = U.size) w P tb cf (NB q dD C sp aw ys tw cs)/\bX w U.size [.int .i64 (p:Int),.int .i64 (a:Int),.int .i64 (t:Int),.int .i64 (b:Int),.int .i64 (r:Int)]) (λz _=>t-z.toNat) ⟨P6,gF,[],rfl,by simp,K6,hbw6⟩ ?_;rintro(z:Int) w7 ⟨P7,tw,cs,rfl,hcsl,K7,S⟩;refine cQ (λhlt=>?_) λhge2=>?_
   ·refine S.rI rfl (NS (ZP ha K7.e) (b:Int) (λhvf=>by rw[hv]at hvf;cases hvf) (λ_ hn=>absurd ⟨O,O⟩ hn) λ_ _ _ v8 Y e8 hC=>?_);rw[dE,htbd]at hC;have K8:NK U (· = U.size) v8 _ tb cf {NB q dD C sp aw ys tw cs with cs:=cs++[Y]}:=K7.put e8 (.ca cs.length) (Rk (N:=NB q dD C sp aw ys tw cs) rfl (λj H=>by
     cases j with
     | ca k=>exact absurd rfl (H k)
     | _=>rfl)) (by
     show rW tb cf.dA (cs++[Y])[cs.length]? v8 _;rw[zp (zD _),pV,hbud];exact hC)
    have hbw8:=e8.bT S id;refine aG (K8.yx.2.rS (a:=tw.a) (n:=tw.len) (c:=tw.cap) rfl (nw (cs:=[.pointer (some ⟨Y.p,0,none⟩),.slice none 0 0,.nilIface]) λv9 hz9 e9 hb9=>?_));have K9:=K8.box e9 hz9;obtain⟨G,hG,d,ae⟩:=K9.step .cN;have d:bR tw 3 (pD cs) v9 G:=d;have hal:tw.len=cs.length:=by have:=d.1;rw[Nj]at this;omega
    refine d.app (ys:=[.pointer (some ⟨Y.p,0,none⟩),.slice none 0 0,.nilIface]) rfl rfl ?_ (by simp[dQ]) ?_ ?_ mT λs' ah _ e10 hr10=>?_
    ·intro j u hu;rw[add_lit,zH,hb9.cell];exact hu
    ·simp only;omega
    ·simp only;omega
    have hz10:=e10.1;have M:bX ah U.size _:=e10.bT (e9.bT hbw8 id) λE=>(K9.p _ (hG _ E)).2.1 (.inl rfl);have K10:=(ae ah {NB q dD C sp aw ys tw cs with cs:=cs++[Y],tw:=s',tl:=pD (cs++[Y])} (λb=>Grow G v9 b/\b<ah.size) (λj H=>by cases j<;>first|rfl|exact absurd rfl H) e10 (λb y=>y.1.imp id λE=>⟨E,λhB=>by have:=(K9.b b hB).2;omega⟩) (by
     show bR s' 3 (pD (cs++[Y])) ah _;have:pD (cs++[Y])=pD cs++[.pointer (some ⟨Y.p,0,none⟩),.slice none 0 0,.nilIface]:=by simp[pD]
     rw[this];exact aI.mono hr10 λb y E=>⟨E,y⟩) λb hB=>by have:=(K9.b b hB).2;omega).drop (B':=(· = U.size)) λb y=>.inl y
    refine aG (K10.tG (NB q dD C sp aw ys s' (cs++[Y])) (λj H=>by cases j<;>first|rfl|exact absurd rfl H) rfl (i:=8) rfl O λv11 P11 K11 o11=>?_)
    have hbw11:=Ws o11 M (af K10);exact cP (m:=cs.length+1) O O ⟨⟨P11,s',cs++[Y],by simp,by simp;omega,K11,hbw11⟩,O⟩
   ·have hct:cs.length=t:=by omega
    have V:cf.threads=cs.length:=by rw[←hcfd,hct]
    have ad:cf.hU=ys.length:=by rw[←hcfd,hya]
    have hN:=Av g gd;refine h0 w7 ⟨q,sp,C,dD,aw,tw,ys,cs.map λc=>⟨c,gF⟩⟩ K7.e ⟨⟨?_,hys,?_,?_,?_,?_,?_,?_⟩,?_,g.bO K7.e,gd.bO K7.e,hN.1,hN.2⟩
    ·simp[VJ,ad]
    ·simp[VJ,V]
    ·simp[VJ,ad];omega
    ·simp[VJ,ad];omega
    ·simp[VJ,V];omega
    ·simp[VJ,V];omega
    ·intro B hB;have:=yU hB;rw[this];rfl
    ·refine(Sep.loc CH.loc).mono (G:=λq=>U.size<=q) ?_ λb _ y=>y;obtain⟨ρ,hs⟩:=(Sep.loc iP.loc).mono K7.sep (G:=λq=>U.size<=q) λb _ y=>(K7.p b y).1;refine⟨ρ,λi=>?_⟩;have Q:=hs i;cases i with
     | hd=>exact Q
     | dD=>exact Q
     | sp=>exact Q
     | fL=>exact bR.gY Q
     | cN=>
      show bR tw 3 (gR (cs.map λc=>⟨c,gF⟩) (List.replicate cf.threads ⟨List.replicate tb.length ia,[],none⟩)) w7 _;rw[V,J5];exact Q
     | live=>exact Q
     | ar k=>
      show nH ys[k]? (List.replicate cf.hU (fo cf.aF cf.room tb))[k]? w7 _;have Q:qV cf.aF cf.room tb ys[k]? w7 _:=Q;unfold nH;by_cases hk:k<ys.length
      ·rw[mr,zC O,cV hk];rw[cV hk]at Q;exact Q
      ·rw[zV O];trivial
     | ca k=>
      show qm (cs.map λc=>(⟨c,gF⟩:eH))[k]? (List.replicate cf.threads (⟨List.replicate tb.length ia,[],none⟩:Th))[k]? tb cf.dA w7 _;have Q:rW tb cf.dA cs[k]? w7 _:=Q;unfold qm;by_cases hk:k<cs.length
      ·rw[mr,zC O,zd,cV hk];rw[cV hk]at Q;exact Q
      ·rw[zd,zV O];trivial
     | hn k=>
      show pA (cs.map λc=>(⟨c,gF⟩:eH))[k]? (List.replicate cf.threads (⟨List.replicate tb.length ia,[],none⟩:Th))[k]? w7 _;unfold pA;by_cases hk:k<cs.length
      ·rw[mr,zC O,zd,cV hk];exact im.nil _ _ _
      ·rw[zd,zV O];trivial
 ·have rd:∀(i:Nat) (x:Int),[Value.int .i64 (p:Int),.int .i64 (a:Int),.int .i64 (t:Int),.int .i64 (b:Int),.int .i64 (r:Int)][i]?=some (.int .i64 x)->∀m,bX m U.size [.int .i64 (p:Int),.int .i64 (a:Int),.int .i64 (t:Int),.int .i64 (b:Int),.int .i64 (r:Int)]->cell m (Addr.add ⟨U.size,0,none⟩ i)=some (.int .i64 x):=λi x E m hm=>by
   rw[add_lit,hm.cell,zH];exact E
  refine⟨λm=>bX m U.size [.int .i64 (p:Int),.int .i64 (a:Int),.int .i64 (t:Int),.int .i64 (b:Int),.int .i64 (r:Int)],A,⟨(p:Int),rd 0 _ rfl,⟨(a:Int),rd 1 _ rfl,⟨(t:Int),rd 2 _ rfl,⟨(b:Int),rd 3 _ rfl,⟨(r:Int),rd 4 _ rfl,⟨?_,?_⟩⟩⟩⟩⟩⟩⟩
  ·refine VF (ZP ha W) hv λdD am X F=>⟨X.bT A id,r7 λv17 z17 ak hm=>⟨ak.bT (X.bT A id) id,?_⟩⟩;rw[htbd]at F;have hz16:=X.1;refine nw (cs:=[.slice dD.a dD.len dD.cap,.int .i64 (p:Int),.int .i64 (a:Int),.int .i64 (t:Int),.int .i64 (b:Int),.int .i64 (r:Int),.pointer none,.slice none 0 0,.slice none 0 0,.map (some am.size)]) λv18 z18 aj hb18=>⟨aj.bT (ak.bT (X.bT A id) id) id,hJ _ _ ⟨_,v17.size,dD,am.size,rfl,DZ (D:=λq=>v2.size<=q/\q<am.size) (((W.trans X).trans ak).trans aj) O (by rw[hdE];exact hb18) (aj.fO (hm .i64 (.ag 4)) id) ?_ (λb y=>O) O O O,aj.bT (ak.bT (X.bT A id) id) id⟩⟩;exact aH.bO (aH.bO (aH.mono F (G:=λq=>v2.size<=q/\q<am.size) λb y E=>⟨E,y⟩) ak) aj
  ·refine r7 λv19 z19 ac hm=>⟨ac.bT A id,VF (ZP ha (W.trans ac)) hv λdD v20 ab F=>⟨ab.bT (ac.bT A id) id,?_⟩⟩;rw[htbd]at F;have hz20:=ab.1;refine nw (cs:=[.slice dD.a dD.len dD.cap,.int .i64 (p:Int),.int .i64 (a:Int),.int .i64 (t:Int),.int .i64 (b:Int),.int .i64 (r:Int),.pointer none,.slice none 0 0,.slice none 0 0,.map (some v2.size)]) λv21 z21 ai hb21=>⟨ai.bT (ab.bT (ac.bT A id) id) id,hJ _ _ ⟨_,v20.size,dD,v2.size,rfl,DZ (D:=λq=>v19.size<=q/\q<v20.size) (((W.trans ac).trans ab).trans ai) O (by rw[hdE];exact hb21) (ai.fO (ab.fO (hm .i64 (.ag 4)) id) id) ?_ (λb y=>O) O O O,ai.bT (ab.bT (ac.bT A id) id) id⟩⟩;exact aH.bO (aH.mono F (G:=λq=>v19.size<=q/\q<v20.size) λb y E=>⟨E,y⟩) ai
end Go.Ar
namespace Go.Ar
open Go Go.Vc Go.Proofs
variable {U u w w':Hp}{F B P Q:Rg}{L:dK}{H:Hw}{t:Nat}{g:Th}
theorem NV (u:Value){R:ByteArray->Hp->Prop}(h:Wc Tryz.prog 346 #[u] [.one .str] U R):iT Tryz.prog (.iface 218 u) "freehold/heap.name" [] [.one .str] U R :=
 ⟨218,u,346,rfl,λw=>by kernel_rfl,λxs w=>by kernel_rfl,h⟩
theorem Rp (u:Value){R:ByteArray->Hp->Prop}(h:Wc Tryz.prog 350 #[u] [.one .str] U R):iT Tryz.prog (.iface 228 u) "freehold/heap.name" [] [.one .str] U R :=
 ⟨228,u,350,rfl,λw=>by kernel_rfl,λxs w=>by kernel_rfl,h⟩
theorem NJ (u:Value){R:ByteArray->Hp->Prop}(h:Wc Tryz.prog 352 #[u] [.one .str] U R):iT Tryz.prog (.iface 231 u) "freehold/heap.name" [] [.one .str] U R :=
 ⟨231,u,352,rfl,λw=>by kernel_rfl,λxs w=>by kernel_rfl,h⟩
theorem Nq (u:Value){R:ByteArray->Hp->Prop}(h:Wc Tryz.prog 353 #[u] [.one .str] U R):iT Tryz.prog (.iface 233 u) "freehold/heap.name" [] [.one .str] U R :=
 ⟨233,u,353,rfl,λw=>by kernel_rfl,λxs w=>by kernel_rfl,h⟩
theorem JA (u:Value){R:ByteArray->Hp->Prop}(h:Wc Tryz.prog 351 #[u] [.one .str] U R):iT Tryz.prog (.iface 230 u) "freehold/heap.name" [] [.one .str] U R :=
 ⟨230,u,351,rfl,λw=>by kernel_rfl,λxs w=>by kernel_rfl,h⟩
theorem Mc (u:Value){R:ByteArray->Hp->Prop}(h:Wc Tryz.prog 347 #[u] [.one .str] U R):iT Tryz.prog (.iface 220 u) "freehold/heap.name" [] [.one .str] U R :=
 ⟨220,u,347,rfl,λw=>by kernel_rfl,λxs w=>by kernel_rfl,h⟩
theorem JU (u:Value){R:ByteArray->Hp->Prop}(h:Wc Tryz.prog 348 #[u] [.one .str] U R):iT Tryz.prog (.iface 222 u) "freehold/heap.name" [] [.one .str] U R :=
 ⟨222,u,348,rfl,λw=>by kernel_rfl,λxs w=>by kernel_rfl,h⟩
theorem Sw (u:Value){R:ByteArray->Hp->Prop}(h:Wc Tryz.prog 354 #[u] [.one .str] U R):iT Tryz.prog (.iface 238 u) "freehold/heap.name" [] [.one .str] U R :=
 ⟨238,u,354,rfl,λw=>by kernel_rfl,λxs w=>by kernel_rfl,h⟩
theorem LR (u:Value){R:ByteArray->Hp->Prop}(h:Wc Tryz.prog 355 #[u] [.one .str] U R):iT Tryz.prog (.iface 241 u) "freehold/heap.name" [] [.one .str] U R :=
 ⟨241,u,355,rfl,λw=>by kernel_rfl,λxs w=>by kernel_rfl,h⟩
theorem JI (u:Value){R:ByteArray->Hp->Prop}(h:Wc Tryz.prog 356 #[u] [.one .str] U R):iT Tryz.prog (.iface 245 u) "freehold/heap.name" [] [.one .str] U R :=
 ⟨245,u,356,rfl,λw=>by kernel_rfl,λxs w=>by kernel_rfl,h⟩
theorem M9 (u:Value){R:ByteArray->Hp->Prop}(h:Wc Tryz.prog 349 #[u] [.one .str] U R):iT Tryz.prog (.iface 224 u) "freehold/heap.name" [] [.one .str] U R :=
 ⟨224,u,349,rfl,λw=>by kernel_rfl,λxs w=>by kernel_rfl,h⟩
def nM (s:ByteArray):Prop:=(s.toList==(ByteArray.mk #[]).toList)=false
theorem O4 (p:Ph){R:ByteArray->Hp->Prop}(hR:∀s σ',bK U σ'->nM s->R s σ'):iT Tryz.prog (mH (some p)) "freehold/heap.name" [] [.one .str] U R := by
 cases p with
 | take k=>
  refine NV _ (ZH.o ?_);unfold ZH.v;exact nw (cs:=[.int .i64 (k:Int)]) λv hz e hb=>hR _ v e (by unfold nM;decide +kernel)
 | cH k w=>
  refine Rp _ (YR.o ?_);unfold YR.v;exact nw (cs:=[.int .i64 (k:Int),.int .i64 (w:Int)]) λv hz e hb=>hR _ v e (by unfold nM;decide +kernel)
 | cJ k w=>
  refine NJ _ (Zc.o ?_);unfold Zc.v;exact nw (cs:=[.int .i64 (k:Int),.int .i64 (w:Int)]) λv hz e hb=>hR _ v e (by unfold nM;decide +kernel)
 | grow k w=>
  refine Nq _ (ZN.o ?_);unfold ZN.v;exact nw (cs:=[.int .i64 (k:Int),.int .i64 (w:Int)]) λv hz e hb=>hR _ v e (by unfold nM;decide +kernel)
 | fill=>
  refine JA _ (ZL.o ?_);unfold ZL.v;exact nw (cs:=[]) λv hz e hb=>hR _ v e (by unfold nM;decide +kernel)
 | eD m=>
  refine Mc _ (ZA.o ?_);unfold ZA.v;exact nw (cs:=[.int .i64 (m:Int)]) λv hz e hb=>hR _ v e (by unfold nM;decide +kernel)
 | find x=>
  refine JU _ (ZM.o ?_);unfold ZM.v;exact nw (cs:=[.int .i64 x]) λv hz e hb=>hR _ v e (by unfold nM;decide +kernel)
 | put k x=>
  refine Sw _ (ZY.o ?_);unfold ZY.v;exact nw (cs:=[.int .i64 (k:Int),.int .i64 x]) λv hz e hb=>hR _ v e (by unfold nM;decide +kernel)
 | back=>
  refine LR _ (ZO.o ?_);unfold ZO.v;exact nw (cs:=[]) λv hz e hb=>hR _ v e (by unfold nM;decide +kernel)
 | dC s a=>
  refine JI _ (ZJ.o ?_);unfold ZJ.v;exact nw (cs:=[.int .i64 s,.int .i64 a]) λv hz e hb=>hR _ v e (by unfold nM;decide +kernel)
 | drain=>
  refine M9 _ (ZC.o ?_);unfold ZC.v;exact nw (cs:=[]) λv hz e hb=>hR _ v e (by unfold nM;decide +kernel)
def Ub (H:Hw)(thread:Int):Option Ph:=if 0<=thread/\thread<(H.bQ.length:Int)then(match H.bQ[thread.toNat]? with
 | some g=>g.ph
 | none=>none)else none
theorem P0 (h:HH U F L H)(thread:Int){R:ByteArray->Hp->Prop}(hR:∀s σ',bK U σ'->(s.toList==(ByteArray.mk #[]).toList)=(Ub H thread).isNone->R s σ'):YT.c (aW L.p) thread U R:=by
 refine YT.o ?_;unfold YT.v;have i:Ub H thread=none->R (ByteArray.mk #[]) U:=λd=>hR _ U (Ext.refl _ _) (by rw[d];decide +kernel);refine Uj h (KF (λr w=>w=U/\r = !decide (0<=thread/\thread<(H.bQ.length:Int))) (λr w ⟨z,A⟩=>?_) λJ C=>cB rfl (BC h thread (C _ _ ⟨rfl,rfl⟩)));subst z;refine KF (λr B=>B=w/\r=(Ub H thread).isNone) (λr B ⟨z,b⟩=>?_) λJ1 u=>?_
 ·rw[z];cases d:Ub H thread with
  | none=>rw[d]at b;exact cD (by rw[b];rfl) (i d)
  | some p=>
   rw[d]at b;have a:=d;unfold Ub at a;split at a
   ·rename_i hth;obtain⟨t,rfl⟩:∃t:Nat,thread=(t:Int):=⟨thread.toNat,O⟩;have m:t<H.bQ.length:=by omega
    obtain⟨x,g,y,j⟩:=h.th m;rw[dE,j]at a;simp only at a;refine cB (by rw[b];rfl) (aG (h.hd.rS rfl (h.tR y j ?_)));rw[a];exact O4 p λs σ' e m=>hR s σ' e (by rw[d];exact m)
   ·cases a
 ·by_cases hth:0<=thread/\thread<(H.bQ.length:Int)
  ·obtain⟨t,rfl⟩:∃t:Nat,thread=(t:Int):=⟨thread.toNat,O⟩;have m:t<H.bQ.length:=by omega
   obtain⟨x,g,y,j⟩:=h.th m;refine cB (by rw[A,zJ hth];rfl) (aG (h.hd.rS rfl (h.tR y j ⟨ue _,u _ _ ⟨rfl,?_⟩⟩)));rw[GY];unfold Ub;rw[zC hth,dE,j]
  ·refine cD (by rw[A,zM hth];rfl) (u _ _ ⟨rfl,?_⟩);unfold Ub;rw[zB hth];rfl
def lh (H:Hw):Prop:=1<=H.cf.aF/\H.cf.threads=H.bQ.length/\mo H.tb
end Go.Ar
namespace Go.Ar
open Go Go.Vc Go.Proofs
open Go.Bu (eU)
variable {U u w w':Hp}{F B P Q:Rg}{L:dK}{H H':Hw}{t:Nat}{g:Th}
def Uf (H:Hw)(thread kind size align addr:Int)(H':Hw)(a e:Int):Prop:=
 (Kd H thread kind size align addr=.inl e/\e≠0/\H'=H/\a=0)\/∃t p n,Kd H thread kind size align addr=.inr (t,p)/\iC n (eN H t (some p)) t p H' a e
theorem F0 (hso:H4)(h:HH U F L H)(hv:mo H.tb){thread kind size align addr:Int}{a e:Int}(hw:Uf H thread kind size align addr H' a e){R:Int->Int->Hp->Prop}
 (hR:∀σ' ts',Ext F U σ'->HH σ' (Grow F U) {L with ts:=ts'} H'->R a e σ'):XS.c (aW L.p) thread kind size align addr U R:=by
 rcases hw with⟨hs,hne,rfl,rfl⟩|⟨t,p,n,hs,hr⟩
 ·exact C7 hso h hv thread kind size align addr (λi b _ σ' d g=>by
   rw[hs]at b;cases b;exact hR σ' L.ts d g) λt p b=>by rw[hs]at b;cases b
 ·exact C7 hso h hv thread kind size align addr (λi b=>by rw[hs]at b;cases b) λj m b=>by
   rw[hs]at b;cases b;exact⟨n,H',a,e,hr,hR⟩
theorem MI (hso:H4)(h:HH U F L H)(hv:mo H.tb){thread size align:Int}{a e:Int}(hw:Uf H thread 0 size align 0 H' a e){R:Int->Int->Hp->Prop}
 (hR:∀σ' ts',Ext F U σ'->HH σ' (Grow F U) {L with ts:=ts'} H'->R a e σ'):YP.c (aW L.p) thread size align U R:=by
 refine YP.o ?_;unfold YP.v;exact F0 hso h hv hw hR
theorem RM (hso:H4)(h:HH U F L H)(hv:mo H.tb){thread addr:Int}{a e:Int}(hw:Uf H thread 1 0 0 addr H' a e){R:aN}
 (hR:∀σ' ts',Ext F U σ'->HH σ' (Grow F U) {L with ts:=ts'} H'->R e σ'):Zi.c (aW L.p) thread addr U R:=by
 refine Zi.o ?_;unfold Zi.v;exact F0 hso h hv hw hR
def Qt (H' H:Hw):Prop:=H'.tb=H.tb/\H'.cf=H.cf/\H'.bQ.length=H.bQ.length/\H'.bY.length=H.bY.length
theorem Qt.refl (H:Hw):Qt H H:=⟨rfl,rfl,rfl,rfl⟩
theorem Qt.trans {H1 H2 H3:Hw}(a:Qt H2 H1)(b:Qt H3 H2):Qt H3 H1:=⟨b.1.trans a.1,b.2.1.trans a.2.1,b.2.2.1.trans a.2.2.1,b.2.2.2.trans a.2.2.2⟩
theorem KD (H:Hw)(t:Nat)(f:Th->Th):Qt (H.dV t f) H:=⟨rfl,rfl,by simp[Hw.dV],rfl⟩
theorem Kz (H:Hw)(k:Nat)(A:AR)(sp:Sp):Qt {H.cC k A with sp:=sp} H:=⟨rfl,rfl,rfl,by simp[Hw.cC]⟩
theorem NH (H:Hw)(k:Nat)(part:Nat->List Int)(j:Nat):Qt (KM H k part (List.range j)) H:=by
 induction j with
 | zero=>exact Qt.refl H
 | succ j ih=>
  rw[KW];split
  ·split
   ·exact ih
   ·exact ih.trans (Kz _ _ _ _)
  ·exact ih
theorem MW (H:Hw)(own k:Nat)(xs:List Int):Qt (Hb H own k xs) H:=by
 unfold Hb;split
 ·split
  ·exact Kz _ _ _ H.sp
  ·refine Qt.trans ?_ (NH _ _ _ _);split
   ·exact Kz _ _ _ H.sp
   ·exact Qt.refl H
 ·exact Qt.refl H
theorem Rv (H:Hw)(t k:Nat)(x:Int):Qt (ir H t k x) H:=by
 unfold ir;simp only;split<;>split<;>exact⟨rfl,rfl,by simp[Hw.dV,QF],rfl⟩
theorem Iw (H:Hw)(t:Nat)(p:Ph):Qt (Wt H t p).1 H:=by
 cases p with
 | take k=>simp only[Wt];split<;>exact⟨rfl,rfl,by simp[Vm,QF,Hw.dV,Hw.cC],by simp[Vm,QF,Hw.dV,Hw.cC]⟩
 | cH k w=>
  simp only[Wt];split
  ·split
   ·exact(Kz _ _ _ H.sp).trans (KD _ _ _)
   ·exact Qt.refl H
  ·exact Qt.refl H
 | cJ k w=>
  simp only[Wt];split
  ·exact Kz _ _ _ H.sp
  ·exact(Kz _ _ _ H.sp).trans (KD _ _ _)
 | grow k w=>simp only[Wt];split<;>exact Kz _ _ _ _
 | fill=>
  simp only[Wt];split
  ·exact⟨rfl,rfl,by simp[Vm,QF,Hw.dV,Hw.cC],by simp[Vm,QF,Hw.dV,Hw.cC]⟩
  ·exact Qt.refl H
 | eD m=>simp only[Wt];split<;>exact⟨rfl,rfl,by simp[Vm,QF,Hw.dV,Hw.cC],by simp[Vm,QF,Hw.dV,Hw.cC]⟩
 | find x=>
  simp only[Wt,UI];split
  ·exact Qt.refl H
  ·split
   ·exact⟨rfl,rfl,rfl,rfl⟩
   ·exact Qt.trans (H2:={H with live:=Go.Vc.cS H.live x}) ⟨rfl,rfl,rfl,rfl⟩ (KD _ _ _)
 | put k x=>exact Rv H t k x
 | back=>
  simp only[Wt];split
  ·exact(KD _ _ _).trans (MW _ _ _ _)
  ·exact Qt.refl H
 | dC s a=>
  simp only[Wt];split
  ·exact Kz _ _ _ H.sp
  ·exact Qt.refl H
 | drain=>exact KD _ _ _
theorem Ur (H:Hw)(t:Nat)(p:Ph):Qt (Qr H t p) H:=(Iw H t p).trans (KD _ _ _)
theorem Ie {n:Nat}{H H':Hw}{t:Nat}{p:Ph}{a e:Int}(h:iC n H t p H' a e):Qt H' H:=by
 induction h with
 | done=>exact Ur _ _ _
 | next _ _ _ ih=>exact(Ur _ _ _).trans ih
theorem lh.bS (h:lh H)(k:Qt H' H):lh H':=⟨by rw[k.2.1];exact h.1,by rw[k.2.1,k.2.2.1];exact h.2.1,by rw[k.1];exact h.2.2⟩
end Go.Ar