/- Texts joined. -/
import Derived.Test.YtoeidadjhkkioaaGreatDoorZ4
set_option linter.unusedVariables false
set_option linter.unusedSimpArgs false
namespace Go.Proofs
open Go.Vc
set_option maxRecDepth 100000
def YX.h:Hn:=.q .o2 (.q .fZ .l)
def YX.v (a:R2)(b c d:Int)(e:Hp)(f:Int->Int->Hp->Prop):Prop:=Yf.c a b 0 c d 0 e λg h i=>f g h i
theorem YX.o {a b c d e f}(g:YX.v a b c d e f):YX.c a b c d e f:=Wa Tryz.func22 (x:=YX.h) (R0 g)
def XH.h:Hn:=.q .o1 (.q .o6 .l)
def XH.v (a:R2)(b c:Int)(d:Hp)(e:aN):Prop:=YO.c a d λf g=>YB.c f b c g λh i=>e h i
theorem XH.o {a b c d e}(f:XH.v a b c d e):XH.c a b c d e:=Wa Tryz.func29 (x:=XH.h) (R0 f)
def YD.h:Hn:=.q .o2 (.q .o8 .l)
def YD.v (a:R2)(b:Int)(c:Hp)(d:Int->Int->Hp->Prop):Prop:=YO.c a c λe f=>YV.c e b f λg h i=>d g h i
theorem YD.o {a b c d}(e:YD.v a b c d):YD.c a b c d:=Wa Tryz.func32 (x:=YD.h) (R0 e)
def Yf.h:Hn:=.q .o3 (.q (.q .o5 (.q .o2 (.c (.q .o3 .l) .l))) (.k (.loop [] (.k (.q (.o 11) (.q .o1 (.c (.q (.oq 6) .l) .l)))))))
def Yf.v (a:R2)(b c d e f:Int)(g:Hp)(h:Int->Int->Hp->Prop):Prop:=aV #[.I c,.I d,.I e,.I f] 104 g λi j=>aQ i 0 j λk=>aQ i 1 j λl=>aQ i 2 j λm=>aQ i 3 j λn=>Ze.c a b k l m n j λo p=>If (o != 0) (h 0 o p) (Ya [] (λq=>q p) λr s=>Zj.c a b s λt u v w x=>aV #[.I 0,.I 0] 137 x λy z=>aR y 0 (.I u) z λaa=>aR y 1 (.I v) aa λab=>If t (aQ y 0 ab λac=>aQ y 1 ab λad=>h ac ad ab) (r ab))
theorem Yf.o {a b c d e f g h}(i:Yf.v a b c d e f g h):Yf.c a b c d e f g h:=Wa Tryz.func57 (x:=Yf.h) (R0 i)
def YO.h:Hn:=.q .o1 (.q (.q .o3 .aK) (.q .o5 .l))
def YO.v (a:R2)(b:Hp)(c:Option Addr->Hp->Prop):Prop:=XL.c a b λd e=>If (!d) (c none e) (bG a 6 e λg=>c g e)
theorem YO.o {a b c}(d:YO.v a b c):YO.c a b c:=Wa Tryz.func61 (x:=YO.h) (R0 d)
def XL.h:Hn:=.q .o1 (.q (.cW (.seq [.op,.op,.op,.cR true 6 (RI.ops 6),.op])) .l)
def XL.v (a:R2)(b:Hp)(c:aO):Prop:=bV (λd e=>c d e) λf=>If (!a.isNone) (bF a 8 b λh=>f (decide (((h.len:Nat):Int)>0)) b) (f false b)
theorem XL.o {a b c}(d:XL.v a b c):XL.c a b c:=Wa Tryz.func73 (x:=XL.h) (R0 d)
def ZF.h:Hn:=.q .o1 (.q .fZ .aL)
def ZF.v (a:R2)(b c:Int)(d:Hp)(e:aN):Prop:=Yf.c a b 1 0 0 c d λf g h=>e g h
theorem ZF.o {a b c d e}(f:ZF.v a b c d e):ZF.c a b c d e:=Wa Tryz.func81 (x:=ZF.h) (R0 f)
def Ze.h:Hn:=.q .o2 (.q (.k (.q .o4 (.c .aM (.q .o5 (.c .aM (.q .fZ .aK)))))) (.q .o4 (.q (.q .o2 .aK) (.q .o9 .aM))))
def Ze.v (a:R2)(b c d e f:Int)(g:Hp)(h:aN):Prop:=aV #[.I c,.I d,.I e,.I f] 104 g λi j=>XL.c a j λk l=>If (!k) (h 5 l) (Yk.c a b l λm n=>If (!m) (h 1 n) (bF a 8 n λp=>Ix p.a p.len b 3 λq=>bA q 2 n λr=>And (iS r) <| If (!(kx r)) (h 5 n) (aQ i 0 n λs=>aQ i 1 n λt=>aQ i 2 n λu=>aQ i 3 n λv=>Yx.c a s t u v n λw x=>And (iS w) <| If (kx w) (h 1 x) (bF a 8 x λz=>Ix z.a z.len b 3 λaa=>And (iS w) <| aR aa 2 (w) x λab=>h 0 ab))))
theorem Ze.o {a b c d e f g h}(i:Ze.v a b c d e f g h):Ze.c a b c d e f g h:=Wa Tryz.func83 (x:=Ze.h) (R0 i)
def Zj.h:Hn:=.q .o3 (.q (.k (.q .o4 (.c (.q .o4 .l) (.q .o5 (.c (.q .o4 .l) (.q .fZ (.c (.q .o4 .l) .l))))))) (.q (.o 17) (.q .o9 (.q (.cW (.tail 4 (RI.ops 4) [.op,.op])) .l))))
def Zj.v (a:R2)(b:Int)(c:Hp)(d:Bool->Int->Int->Int->Hp->Prop):Prop:=aV #[.I 0,.I 0] 137 c λe f=>XL.c a f λg h=>If (!g) (aR e 0 (.I 0) h λi=>aR e 1 (.I 0) i λj=>aQ e 0 j λk=>aQ e 1 j λl=>d false k l 5 j) (Yk.c a b h λm n=>If (!m) (aR e 0 (.I 0) n λo=>aR e 1 (.I 0) o λp=>aQ e 0 p λq=>aQ e 1 p λr=>d false q r 1 p) (bF a 8 n λt=>Ix t.a t.len b 3 λu=>bA u 2 n λv=>And (iS v) <| If (kx v) (aR e 0 (.I 0) n λw=>aR e 1 (.I 0) w λx=>aQ e 0 x λy=>aQ e 1 x λz=>d false y z 5 x) (bF a 8 n λab=>Ix ab.a ab.len b 3 λac=>bA ac 2 n λad=>ZD.c a b (ad) n λae af ag ah=>aV #[.I 0,.I 0] 137 ah λai aj=>aR ai 0 (.I af) aj λak=>aR ai 1 (.I ag) ak λal=>bF a 8 al λan=>Ix an.a an.len b 3 λao=>And (iS ae) <| aR ao 2 (ae) al λap=>And (iS ae) <| aQ ai 0 ap λaq=>aQ ai 1 ap λar=>aR e 0 (.I aq) ap λau=>aR e 1 (.I ar) au λav=>aQ e 0 av λaw=>aQ e 1 av λax=>d (kx ae) aw ax 0 av)))
theorem Zj.o {a b c d}(e:Zj.v a b c d):Zj.c a b c d:=Wa Tryz.func84 (x:=Zj.h) (R0 e)
def KY.h:Hn:=.q .o3 (.q (.k (.q .o4 (.c .aL (.q .o4 .aJ)))) (.q (.cW (.gH true [] [(6,.one .p)] (.take 0 (.take 2 (.all [(1,.all [(3,.take 4 (.all [(5,.take 6 (.done))]))]),(3,.all [(1,.take 4 (.all [(5,.take 6 (.done))]))])]))))) (.q .fZ (.q (.q .o3 (.k (.loop [(36,.I)] (.q .o1 (.q (.c .l .l) (.q (.k (.q (.cW (.held true [7] (.take 0 (.take 1 (.take 2 (.take 3 (.take 4 (.take 5 (.take 6 (.all [(7,.take 8 (.take 9 (.take 10 (.take 11 (.take 12 (.done))))))])))))))))) (.o 11))) .o2)))))) (.q (.q .o3 (.k (.loop [(62,.I)] (.q .o1 (.q (.c .l .l) (.q (.k (.q .o9 (.o 12))) .o2)))))) (.q .o3 .l))))))
def KY.v (a:Sl)(b c d e f:Int)(g:Hp)(h:Option Addr->Int->Hp->Prop):Prop:=aV #[.I b,.I c,.I d,.I e,.I f] 23 g λi j=>ZO.c a j λk l=>If (!k) (h none 2 l) (aQ i 0 l λm=>aQ i 1 l λn=>aQ i 2 l λo=>aQ i 3 l λp=>aQ i 4 l λq=>QN.c m n o p q l λr s=>If (!r) (h none 1 s) (Jn [.p] (λ(t:R2) u=>aQ i 0 u λv=>Kh.c v u λw x y=>bX t λz=>aR z 6 (.pointer w) y λaa=>aQ i 1 aa λab=>Ya [bO] (λac=>ac 0 aa) λad (ae:Int) af=>If (ae<ab) (dZ af λag=>bX t λah=>aU ag ah 6 λai=>aS ag i 4 λaj=>Kj.c a ai aj af λak al am=>bF t 7 am λao=>aV #[.pointer ak] 150 am λap aq=>App ao 1 8 150 [.pointer none] ⟨some ap,1,1⟩ aq λar au=>bX t λav=>aR av 7 (.slice ar.a ar.len ar.cap) au λaw=>bM (ae+1) λax=>ad ax aw) (aQ i 2 af λay=>Ya [bO] (λaz=>az 0 af) λa0 (a1:Int) a2=>If (a1<ay) (aQ i 3 a2 λa3=>Ki.c a a3 a2 λa4 a5 a6=>bF t 8 a6 λa8=>aV #[.pointer a4,.slice none 0 0,.nilIface] 145 a6 λa9 ba=>App a8 3 48 145 [.pointer none,.slice none 0 0,.nilIface] ⟨some a9,1,1⟩ ba λbb bc=>bX t λbd=>aR bd 8 (.slice bb.a bb.len bb.cap) bc λbe=>bM (a1+1) λbf=>a0 bf be) (h t 0 a2))) λbg=>dZ s λbh=>aS bh i 0 λbi=>aS bh i 1 λbj=>
 aS bh i 2 λbk=>aS bh i 3 λbl=>aS bh i 4 λbm=>(Wp.c a s λbn bo=>And (bh bo) <| Nw (.map #[] 0) bo λbp bq=>And (bh bq) <| aV #[.slice bn.a bn.len bn.cap,.I bi,.I bj,.I bk,.I bl,.I bm,.pointer none,.slice none 0 0,.slice none 0 0,.map (some bp.block)] 131 bq λbr bs=>And (bh bs) <| bg (some br) bs) ∧ (Nw (.map #[] 0) s λbt bu=>And (bh bu) <| Wp.c a bu λbv bw=>And (bh bw) <| aV #[.slice bv.a bv.len bv.cap,.I bi,.I bj,.I bk,.I bl,.I bm,.pointer none,.slice none 0 0,.slice none 0 0,.map (some bt.block)] 131 bw λbx bz=>And (bh bz) <| bg (some bx) bz)))
theorem KY.o {a b c d e f g h}(i:KY.v a b c d e f g h):KY.c a b c d e f g h:=Wa Tryz.func97 (x:=KY.h) (R0 i)
def XS.h:Hn:=.q .o2 (.q (.q .o3 .aJ) (.q (.o 12) (.q (.q .o2 .aJ) (.q .o4 .l))))
def XS.v (a:R2)(b:Int)(c:Hp)(d:Int->Int->Hp->Prop):Prop:=XL.c a c λe f=>If (!e) (d 0 5 f) (bJ a 9 f λh=>Lk .i64 (.ag 4) h b f λi=>aV #[.I 0,.I 0,.I 0,.I 0] 126 f λj k=>aR j 0 (.I ((i.getD (0,0,0,0)).1)) k λl=>aR j 1 (.I ((i.getD (0,0,0,0)).2.1)) l λm=>aR j 2 (.I ((i.getD (0,0,0,0)).2.2.1)) m λn=>aR j 3 (.I ((i.getD (0,0,0,0)).2.2.2)) n λo=>If (!i.isSome) (d 0 8 o) (aQ j 1 o λp=>d p 0 o))
theorem XS.o {a b c d}(e:XS.v a b c d):XS.c a b c d:=Wa Tryz.func99 (x:=XS.h) (R0 e)
def XR.h:Hn:=.q .o1 (.q (.q .o3 .aJ) (.q .o5 .l))
def XR.v (a:R2)(b:Hp)(c:Int->Int->Int->Int->Int->Hp->Prop):Prop:=aV #[.I 0,.I 0,.I 0,.I 0,.I 0] 23 b λd e=>XL.c a e λf g=>If (!f) (aR d 0 (.I 0) g λh=>aR d 1 (.I 0) h λi=>aR d 2 (.I 0) i λj=>aR d 3 (.I 0) j λk=>aR d 4 (.I 0) k λl=>aQ d 0 l λm=>aQ d 1 l λn=>aQ d 2 l λo=>aQ d 3 l λp=>aQ d 4 l λq=>c m n o p q l) (bX a λr=>bN ((r.add 1).add 0) g λs=>bN ((r.add 1).add 1) g λt=>bN ((r.add 1).add 2) g λu=>bN ((r.add 1).add 3) g λv=>bN ((r.add 1).add 4) g λw=>aR d 0 (.I s) g λx=>aR d 1 (.I t) x λy=>aR d 2 (.I u) y λz=>aR d 3 (.I v) z λaa=>aR d 4 (.I w) aa λab=>aQ d 0 ab λac=>aQ d 1 ab λad=>aQ d 2 ab λae=>aQ d 3 ab λaf=>aQ d 4 ab λag=>c ac ad ae af ag ab)
theorem XR.o {a b c}(d:XR.v a b c):XR.c a b c:=Wa Tryz.func106 (x:=XR.h) (R0 d)
def YR.h:Hn:=.q .o1 (.q (.q (.cW (.seq [.op,.op,.op,.op,.cR false 4 (RI.ops 4),.op,.cR false 9 (RI.ops 9)])) .aK) (.q .fZ .l))
def YR.v (a:R2)(b:Int)(c:Hp)(d:ByteArray->Hp->Prop):Prop:=XL.c a c λe f=>bV (λg h=>bV (λi j=>If i (d (ByteArray.mk #[]) j) (bF a 8 j λl=>Ix l.a l.len b 3 λm=>bA m 2 j λn=>iV Tryz.prog n "freehold/heap.name" [] [.one .str] j fun t33 v3 =>d t33 v3)) λo=>If g (o true h) (bF a 8 h λq=>Ix q.a q.len b 3 λr=>bA r 2 h λs=>And (iS s) <| o (kx s) h)) λt=>If (!e) (t true f) (Yk.c a b f λu v=>t (!u) v)
theorem YR.o {a b c d}(e:YR.v a b c d):YR.c a b c d:=Wa Tryz.func107 (x:=YR.h) (R0 e)
def Yk.h:Hn:=.q .o1 (.q (.cW (.seq [.op,.op,.op,.cR true 7 (RI.ops 7),.op])) .l)
def Yk.v (a:R2)(b:Int)(c:Hp)(d:aO):Prop:=bV (λe f=>d e f) λg=>If (b≥0) (bF a 8 c λi=>g (decide (b<((i.len:Nat):Int))) c) (g false c)
theorem Yk.o {a b c d}(e:Yk.v a b c d):Yk.c a b c d:=Wa Tryz.func124 (x:=Yk.h) (R0 e)
def Yx.h:Hn:=.q .o2 (.q (.q .o2 (.k (.q .o2 (.c (.q (.q (.cW (.seq [.op,.op,.op,.op,.cR false 3 (RI.ops 3)])) .aK) (.q (.cW (.held true [8] (.tk [0,1,2,3,4,5,6,7] (.all [(8,.tk [9,10,11,12,13] (.done))])))) (.q .o1 (.k (.q .o2 (.c (.q .o4 .l) (.q .o2 (.c (.q .o8 .l) .l)))))))) (.q .o2 (.c (.q .o5 .l) (.q .o2 (.c (.q .o3 .l) .l)))))))) .aM)
def Yx.v (a:R2)(b c d e:Int)(f:Hp)(g:Value->Hp->Prop):Prop:=aV #[.I b,.I c,.I d,.I e] 104 f λh i=>aQ h 0 i λj=>If (j==0) (aQ h 1 i λk=>bV (λl m=>If l (g (.nilIface) m) (dZ m λn=>bX a λo=>aT n o 0 λp=>aS n h 1 λq=>aS n h 2 λr=>Qx.c p q r m λs t u=>If (t==0) (g (.iface 235 (.agg #[.I s])) u) (If (t==4) (aQ h 1 u λv=>bM (v+256) λw=>bM (w-1) λx=>Nz 256<|bM (x.tdiv 256) λy=>g (.iface 237 (.agg #[.I y])) u) (g (.nilIface) u)))) λz=>If (k<1) (z true i) (aQ h 1 i λaa=>z (decide (aa>16384)) i)) (If (j==1) (aQ h 3 i λab=>g (.iface 239 (.agg #[.I ab])) i) (If (j==2) (g (.iface 241 (.agg #[])) i) (g (.nilIface) i)))
theorem Yx.o {a b c d e f g}(h:Yx.v a b c d e f g):Yx.c a b c d e f g:=Wa Tryz.func125 (x:=Yx.h) (R0 h)
def ZD.h:Hn:=.q .o2 (.q .o7 (.q (.cW (.held true [] (.tk [0,1,2,3,4,5] (.all [(6,.take 7 (.all [(8,.take 9 (.done))]))])))) (.kj [] (.q .o1 (.k (.q .o3 (.c (.q .o2 (.q (.q (.cW (.held true [6] (.tk [0,1,2,3,4,5] (.all [(6,.tk [7,8,9,10,11] (.done))])))) (.q .o2 (.c (.q (.cW (.held true [17] (.tk [0,1,2,3,4,5,6,7,8,9,10,11,12] (.all [(13,.tk [14,15,16] (.all [(17,.done)]))])))) .l) .l))) (.q (.cW (.held true [6] (.tk [0,1,2,3,4,5] (.all [(6,.tk [7,8,9,10,11] (.done))])))) (.q .o8 .l)))) (.q .o3 (.c (.q .o2 (.kj [] (.q (.oq 12) (.c (.q .o9 (.q .o2 (.c (.q .o6 (.q .o5 .l)) .l))) .l)) (.q .o5 .l))) (.q .o3 (.c (.q .o2 (.q (.q (.o 11) (.q .o3 (.c (.q .o6 (.q .o5 .l)) .l))) (.q .o5 .l))) (.q .o3 (.c (.q .o2 (.q (.q .o5 (.q .o2 (.c (.q .o4 .l) .l))) (.q .o5 .l))) (.q .o3 (.c (.q .o2 (.q .o8 (.q .o4 (.q (.cW (.tail 9 (RI.ops 9) [.op])) (.q (.cW (.held true [20] (.tk [0,1,2,3,4,5,6,7,8,9,10,11,12,13,14,15] (.all [(16,.tk [17,18,19] (.all [(20,.done)]))])))) .l))))) (.q .o3 (.c (.q .o2 (.q .o9 (.q (.q .o2 (.c (.q .o4 .l) .l)) (.q (.o 11) .l)))) (.q .o3 (.c (.q .o2 (.q .o9 .l)) (.q .o3 (.c (.q .o2 (.kj [] (.q (.cW (.held true [8] (.tk [0,1,2,3,4,5,6,7] (.all [(8,.tk [9,10,11,12,13] (.done))])))) (.q .o3 (.c .o6 .l))) (.q .o9 (.kj [] (.q .o5 (.c (.cW (.held true [13] (.tk [0,1,2,3,4,5,6,7,8] (.all [(9,.all [(10,.take 11 (.take 12 (.all [(13,.done)])))])])))) .l)) (.q .o6 .l))))) (.q .o3 (.c (.q .o2 (.q .o8 (.q .fZ (.q (.cW (.held true [5] (.take 0 (.take 1 (.take 2 (.take 4 (.all [(3,.all [(5,.done)])]))))))) (.q .o6 .l))))) (.q .o3 (.c (.q .o2 (.cW (.tail 10 (RI.ops 10) [.op]))) (.q .o3 (.c (.q .o2 (.q .o9 (.q .o6 .l))) .l)))))))))))))))))))))))) (.q .o3 .l))))
def ZD.v (a:R2)(b:Int)(c:Value)(d:Hp)(e:Value->Int->Int->Hp->Prop):Prop:=aV #[.I 0,.I 0] 137 d λf g=>bF a 8 g λi=>Ix i.a i.len b 3 λj=>dZ g λk=>bX a λl=>aT k l 7 λm=>ZH.c a b g λn o=>And (k o) <| Ix m.a m.len n 1 λp=>fS p o λq=>And (k o) <| Jn [] (λr=>aR f 0 (.I 0) r λs=>aR f 1 (.I 0) s λt=>aQ f 0 t λu=>aQ f 1 t λv=>e (.nilIface) u v t) λw=>∃t52:Int,∃is:Bool,j8 c 235 [.I t52] [.I 0] is ∧ (If is (aV #[.I 0] 235 o λx y=>dU x (.I t52) y λz=>dZ z λaa=>bX (some j) λab=>aU aa ab 0 λac=>aS aa x 0 λad=>Ym.c ac ad z λae af ag=>If (af==0) (dZ ag λah=>bX a λai=>aT ah ai 0 λaj=>aS ah x 0 λak=>Ix aj.a aj.len ak 3 λal=>aS ah al 0 λam=>aS ah x 0 λan=>YU.c a ae am an ag λao ap aq ar=>And (ah ar) <| aR f 0 (.I ap) ar λau=>aR f 1 (.I aq) au λav=>aQ f 0 av λaw=>aQ f 1 av λax=>e (ao) aw ax av) (dZ ag λay=>bX (some j) λaz=>aU ay az 0 λa0=>aS ay x 0 λa1=>Yn.c a0 a1 ag λa2 a3 a4=>aQ x 0 a4 λa5=>aR f 0 (.I 0) a4 λa6=>aR f 1 (.I 0) a6 λa7=>aQ f 0 a7 λa8=>aQ f 1 a7 λa9=>e (.iface 245 (.agg #[.I a5,.I a2])) a8 a9 a7)) (∃t99:Int,∃t991:Int,∃is1:Bool,j8 c 245 [.I t99,.I t991] [.I 0,.I 0] is1 ∧
 (If is1 (aV #[.I 0,.I 0] 245 o λba bb=>aR ba 0 (.I t99) bb λbc=>aR ba 1 (.I t991) bc λbd=>Jn [] (λbe=>aQ ba 0 be λbf=>aQ ba 1 be λbg=>aR f 0 (.I 0) be λbh=>aR f 1 (.I 0) bh λbi=>aQ f 0 bi λbj=>aQ f 1 bi λbk=>e (.iface 248 (.agg #[.I bf,.I bg])) bj bk bi) λbl=>aQ ba 1 bd λbm=>bF a 0 bd λbo=>aQ ba 0 bd λbp=>Ix bo.a bo.len bp 3 λbq=>aQ bq 2 bd λbr=>If (bm==br) (aQ ba 0 bd λbs=>WQ.c q bs bd λbt bu bv=>If (bu==0) (aQ ba 0 bv λbw=>YF.c a b bw bt bv λbx=>aR f 0 (.I 0) bx λbz=>aR f 1 (.I 0) bz λb0=>aQ f 0 b0 λb1=>aQ f 1 b0 λb2=>e (.iface 247 (.agg #[])) b1 b2 b0) (bl bv)) (bl bd)) (∃t135:Int,∃t1351:Int,∃is2:Bool,j8 c 248 [.I t135,.I t1351] [.I 0,.I 0] is2 ∧ (If is2 (aV #[.I 0,.I 0] 248 o λb3 b4=>aR b3 0 (.I t135) b4 λb5=>aR b3 1 (.I t1351) b5 λb6=>aQ b3 0 b6 λb7=>aQ b3 1 b6 λb8=>WW.c q b7 b8 b6 λb9 ca cb=>If (((b9.len:Nat):Int)>0) (aQ b3 0 cb λcc=>YF.c a b cc b9 cb λcd=>aR f 0 (.I 0) cd λce=>aR f 1 (.I 0) ce λcf=>aQ f 0 cf λcg=>aQ f 1 cf λch=>e (.iface 247 (.agg #[])) cg ch cf) (aQ b3 0 cb λci=>aQ b3 1 cb λcj=>aR f 0 (.I 0) cb λck=>aR f 1 (.I 0) ck λcl=>aQ f 0 cl λcm=>aQ f 1 cl λcn=>
 e (.iface 250 (.agg #[.I ci,.I cj])) cm cn cl)) (∃t162:Int,∃t1621:Int,∃is3:Bool,j8 c 250 [.I t162,.I t1621] [.I 0,.I 0] is3 ∧ (If is3 (aV #[.I 0,.I 0] 250 o λco cp=>aR co 0 (.I t162) cp λcq=>aR co 1 (.I t1621) cq λcr=>aQ co 0 cr λcs=>Ye.c q cs cr λct cu=>If (ct != 0) (aR f 0 (.I 0) cu λcv=>aR f 1 (.I ct) cv λcw=>aQ f 0 cw λcx=>aQ f 1 cw λcy=>e (.nilIface) cx cy cw) (aQ co 0 cu λcz=>aQ co 1 cu λc0=>aR f 0 (.I 0) cu λc1=>aR f 1 (.I 0) c1 λc2=>aQ f 0 c2 λc3=>aQ f 1 c2 λc4=>e (.iface 248 (.agg #[.I cz,.I c0])) c3 c4 c2)) (∃is4:Bool,j8 c 247 [] [] is4 ∧ (If is4 (aV #[] 247 o λc5 c6=>bF (some j) 1 c6 λc8=>Ix c8.a c8.len 0 2 λc9=>aQ c9 0 c6 λda=>aX c9 1 c6 λdb=>aV #[.I 0,.slice none 0 0] 147 c6 λdc dd=>aR dc 0 (.I da) dd λde=>aR dc 1 (.slice db.a db.len db.cap) de λdf=>bX (some j) λdg=>aR dg 1 (.slice none 0 0) df λdh=>bG (some j) 0 dh λdj=>aQ dc 0 dh λdk=>aX dc 1 dh λdl=>fo dl 1 1 (dl.len:Nat) (dl.cap:Nat) λdm=>Yc.c dj dk dm dh λdn dp=>dZ dp λdq=>aT dq dc 1 λdr=>Ix dr.a dr.len 0 1 λds=>gE dq bO ds λ(dt:Int)=>bX a λdu=>aT dq du 0 λdv=>aS dq dc 0 λdw=>Ix dv.a dv.len dw 3 λdx=>aS dq dx 0 λdy=>
 aS dq dc 0 λdz=>YU.c a dt dy dz dp λd0 d1 d2 d3=>And (dq d3) <| aR f 0 (.I d1) d3 λd4=>aR f 1 (.I d2) d4 λd5=>aQ f 0 d5 λd6=>aQ f 1 d5 λd7=>e (d0) d6 d7 d5) (∃t217:Int,∃is5:Bool,j8 c 237 [.I t217] [.I 0] is5 ∧ (If is5 (aV #[.I 0] 237 o λd8 d9=>dU d8 (.I t217) d9 λea=>aQ d8 0 ea λeb=>Xc.c q eb 1 ea λec ed ee=>If (ed != 0) (aR f 0 (.I 0) ee λef=>aR f 1 (.I ed) ef λeg=>aQ f 0 eg λeh=>aQ f 1 eg λei=>e (.nilIface) eh ei eg) (bM (ec*256) λej=>aQ d8 0 ee λek=>bM (ek*256) λel=>YU.c a ej el (-1) ee λem en eo ep=>aR f 0 (.I en) ep λeq=>aR f 1 (.I eo) eq λer=>aQ f 0 er λes=>aQ f 1 er λet=>e (em) es et er)) (∃t240:Int,∃is6:Bool,j8 c 239 [.I t240] [.I 0] is6 ∧ (If is6 (aV #[.I 0] 239 o λeu ev=>dU eu (.I t240) ev λew=>aQ eu 0 ew λex=>ZE.c a b ex ew λey ez e0 e1=>aR f 0 (.I ez) e1 λe2=>aR f 1 (.I e0) e2 λe3=>aQ f 0 e3 λe4=>aQ f 1 e3 λe5=>e (ey) e4 e5 e3) (∃t250:Int,∃t2501:Int,∃is7:Bool,j8 c 255 [.I t250,.I t2501] [.I 0,.I 0] is7 ∧ (If is7 (aV #[.I 0,.I 0] 255 o λe6 e7=>aR e6 0 (.I t250) e7 λe8=>aR e6 1 (.I t2501) e8 λe9=>Jn [] (λfa=>bF (some j) 1 fa λfc=>fo fc 2 1 (fc.len:Nat) (fc.cap:Nat) λfd=>bX (some j) λfe=>aR fe 1 (.slice fd.a fd.len fd.cap) fa λff=>Jn [] (λfg=>
 Xj.c a b fg λfh fi=>aR f 0 (.I 0) fi λfj=>aR f 1 (.I 0) fj λfk=>aQ f 0 fk λfl=>aQ f 1 fk λfm=>e (fh) fl fm fk) λfn=>bG (some j) 0 ff λfp=>Yl.c fp ff λfq fr=>If fq (dZ fr λfs=>bX (some j) λft=>aT fs ft 1 λfu=>bX (some j) λfv=>aU fs fv 0 λfw=>Xm.c fw fr λfx fy=>And (fs fy) <| App fu 2 32 147 [.I 0,.slice none 0 0] fx fy λfz f0=>And (fs f0) <| bX (some j) λf1=>aR f1 1 (.slice fz.a fz.len fz.cap) f0 λf2=>fn f2) (fn fr)) λf3=>dZ e9 λf4=>bX (some j) λf5=>aU f4 f5 0 λf6=>aS f4 e6 0 λf7=>aS f4 e6 1 λf8=>YP.c f6 f7 f8 e9 λf9 ga gb=>If (((f9.len:Nat):Int)>0) (aQ e6 0 gb λgc=>YF.c a b gc f9 gb λgd=>f3 gd) (f3 gb)) (∃is8:Bool,j8 c 258 [] [] is8 ∧ (If is8 (aV #[] 258 o λge gf=>bF (some j) 1 gf λgh=>Ix gh.a gh.len 0 2 λgi=>aQ gi 0 gf λgj=>aX gi 1 gf λgk=>aV #[.I 0,.slice none 0 0] 147 gf λgl gm=>aR gl 0 (.I gj) gm λgn=>aR gl 1 (.slice gk.a gk.len gk.cap) gn λgo=>bF (some j) 1 go λgq=>fo gq 2 1 (gq.len:Nat) (gq.cap:Nat) λgr=>WC.c gr go λgs gt=>bX (some j) λgu=>aR gu 1 (.slice gs.a gs.len gs.cap) gt λgv=>dZ gv λgw=>aS gw gl 0 λgx=>aT gw gl 1 λgy=>ZH.c a b gv λgz g0=>And (gw g0) <| ZA.c a gz gx gy g0 λg1=>
 Xj.c a b g1 λg2 g3=>aR f 0 (.I 0) g3 λg4=>aR f 1 (.I 0) g4 λg5=>aQ f 0 g5 λg6=>aQ f 1 g5 λg7=>e (g2) g6 g7 g5) (∃t332:Int,∃t3321:Int,∃is9:Bool,j8 c 262 [.I t332,.I t3321] [.I 0,.I 0] is9 ∧ (If is9 (aV #[.I 0,.I 0] 262 o λg8 g9=>aR g8 0 (.I t332) g9 λha=>aR g8 1 (.I t3321) ha λhb=>bF a 7 hb λhd=>aQ g8 1 hb λhe=>Ix hd.a hd.len he 1 λhf=>fS hf hb λhg=>aQ g8 0 hb λhh=>Xb.c hg hh hb λhi hj=>w hj) (∃is10:Bool,j8 c 241 [] [] is10 ∧ (If is10 (aV #[] 241 o λhk hl=>bG (some j) 0 hl λhn=>XZ.c hn hl λho hp=>bX (some j) λhq=>aR hq 1 (.slice ho.a ho.len ho.cap) hp λhr=>Xj.c a b hr λhs ht=>aR f 0 (.I 0) ht λhu=>aR f 1 (.I 0) hu λhv=>aQ f 0 hv λhw=>aQ f 1 hv λhx=>e (hs) hw hx hv) (w o))))))))))))))))))))))
theorem ZD.o {a b c d e}(f:ZD.v a b c d e):ZD.c a b c d e:=Wa Tryz.func126 (x:=ZD.h) (R0 f)
def QN.h:Hn:=.q .o2 (.q (.cW (.seq [.op,.op,.op,.op,.cR true 3 (RI.ops 3),.op,.cR true 4 (RI.ops 4),.op,.cR true 3 (RI.ops 3),.op,.cR true 3 (RI.ops 3),.op,.cR true 3 (RI.ops 3),.op,.cR true 3 (RI.ops 3),.op,.cR true 3 (RI.ops 3),.op,.cR true 3 (RI.ops 3),.op,.cR true 3 (RI.ops 3),.op,.cR true 3 (RI.ops 3),.op])) .l)
def QN.v (a b c d e:Int)(f:Hp)(g:aO):Prop:=aV #[.I a,.I b,.I c,.I d,.I e] 23 f λh i=>aQ h 0 i λj=>bV (λk l=>bV (λm n=>bV (λo p=>bV (λq r=>bV (λs t=>bV (λu v=>bV (λw x=>bV (λy z=>bV (λaa ab=>bV (λac ad=>g ac ad) λae=>If aa (aQ h 4 ab λaf=>ae (decide (af<=8)) ab) (ae false ab)) λag=>If y (aQ h 4 z λah=>ag (decide (ah≥0)) z) (ag false z)) λai=>If w (aQ h 3 x λaj=>ai (decide (aj<=65536)) x) (ai false x)) λak=>If u (aQ h 3 v λal=>ak (decide (al≥0)) v) (ak false v)) λam=>If s (aQ h 2 t λan=>am (decide (an<=4)) t) (am false t)) λao=>If q (aQ h 2 r λap=>ao (decide (ap≥1)) r) (ao false r)) λaq=>If o (aQ h 1 p λar=>aq (decide (ar<=4)) p) (aq false p)) λau=>If m (aQ h 1 n λav=>au (decide (av≥1)) n) (au false n)) λaw=>If k (aQ h 0 l λax=>Nz 16 <| aw ((ax.tmod 16)==0) l) (aw false l)) λay=>If (j≥32) (aQ h 0 i λaz=>ay (decide (az<=1024)) i) (ay false i)
theorem QN.o {a b c d e f g}(h:QN.v a b c d e f g):QN.c a b c d e f g:=Wa Tryz.func152 (x:=QN.h) (R0 h)
def ZH.h:Hn:=.q .o1 (.q .o8 .l)
def ZH.v (a:R2)(b:Int)(c:Hp)(d:aN):Prop:=bF a 7 c λf=>Nz ((f.len:Nat):Int) <| d (b.tmod ((f.len:Nat):Int)) c
theorem ZH.o {a b c d}(e:ZH.v a b c d):ZH.c a b c d:=Wa Tryz.func165 (x:=ZH.h) (R0 e)
def YU.h:Hn:=.q .o2 (.q (.cW (.held true [12] (.tk [0,1,2,3,4,5,6,7,8,9] (.all [(10,.take 11 (.all [(12,.done)]))])))) (.q .o4 .l))
def YU.v (a:R2)(b c d:Int)(e:Hp)(f:Value->Int->Int->Hp->Prop):Prop:=aV #[.I 0,.I 0] 137 e λg h=>dZ h λi=>bX a λj=>gE i .m (j.add 9) λ(k:Option Nat)=>Yo.c a b h λl m=>And (i m) <| kH .i64 (.ag 4) k b (b,c,d,l) m λn=>aR g 0 (.I b) n λo=>aR g 1 (.I 0) o λp=>aQ g 0 p λq=>aQ g 1 p λr=>f (.nilIface) q r p
theorem YU.o {a b c d e f}(g:YU.v a b c d e f):YU.c a b c d e f:=Wa Tryz.func167 (x:=YU.h) (R0 g)
def YF.h:Hn:=.cW (.held true [20] (.tk [0,1,2,3,4,5,6,7,8,9,10,11,12,13,14,15] (.all [(16,.all [(17,.take 18 (.take 19 (.all [(20,.done)])))])])))
def YF.v (a:R2)(b c:Int)(d:Sl)(e:Hp)(f:aP):Prop:=dZ e λg=>bX a λh=>aT g h 8 λi=>bX a λj=>aT g j 8 λk=>Ix k.a k.len b 3 λl=>aT g l 1 λm=>aV #[.I c,.slice d.a d.len d.cap] 147 e λn o=>And (g o) <| App m 2 32 147 [.I 0,.slice none 0 0] ⟨some n,1,1⟩ o λp q=>And (g q) <| Ix i.a i.len b 3 λr=>aR r 1 (.slice p.a p.len p.cap) q λs=>f s
theorem YF.o {a b c d e f}(g:YF.v a b c d e f):YF.c a b c d e f:=Wa Tryz.func170 (x:=YF.h) (R0 g)
def ZE.h:Hn:=.q .o2 (.q (.o 12) (.q (.q .o2 (.c (.kj [] (.q .o4 (.q .o2 (.c (.q (.o 16) (.q (.cW (.seq [.op,.op,.op,.cR true 2 [.op,.op],.op,.cR true 3 (RI.ops 3)])) (.c (.q .o3 .l) .l))) .l))) (.q .o3 .l)) .l)) (.q .o6 (.q (.q .o3 (.c (.q .o9 .l) .l)) (.q .o7 (.q .o8 .l))))))
def ZE.v (a:R2)(b c:Int)(d:Hp)(e:Value->Int->Int->Hp->Prop):Prop:=aV #[.I 0,.I 0] 137 d λf g=>bJ a 9 g λi=>Lk .i64 (.ag 4) i c g λj=>aV #[.I 0,.I 0,.I 0,.I 0] 126 g λk l=>aR k 0 (.I ((j.getD (0,0,0,0)).1)) l λm=>aR k 1 (.I ((j.getD (0,0,0,0)).2.1)) m λn=>aR k 2 (.I ((j.getD (0,0,0,0)).2.2.1)) n λo=>aR k 3 (.I ((j.getD (0,0,0,0)).2.2.2)) o λp=>If (!j.isSome) (Jn [] (λq=>aR f 0 (.I 0) q λr=>aR f 1 (.I 8) r λs=>aQ f 0 s λt=>aQ f 1 s λu=>e (.nilIface) t u s) λv=>Yo.c a c p λw x=>If (w≥0) (bF a 7 x λz=>Ix z.a z.len w 1 λaa=>fS aa x λab=>Y9.c ab c x λac ad ae af=>bV (λag ah=>bV (λai aj=>If ai (aR f 0 (.I 0) aj λak=>aR f 1 (.I 9) ak λal=>aQ f 0 al λam=>aQ f 1 al λan=>e (.nilIface) am an al) (v aj)) λao=>If ag (ao (ad==c) ah) (ao false ah)) λap=>If (ae==0) (ap (decide (ac≥0)) af) (ap false af)) (v x)) (bJ a 9 p λar=>lG .i64 (.ag 4) ar c p λau=>aQ k 2 au λav=>If (av<0) (Nz 256<|bM (c.tdiv 256) λaw=>aQ k 3 au λax=>aR f 0 (.I 0) au λay=>aR f 1 (.I 0) ay λaz=>aQ f 0 az λa0=>aQ f 1 az λa1=>e (.iface 262 (.agg #[.I aw,.I ax])) a0 a1 az) (aQ k 2 au λa2=>aV #[.I c] 3 au λa3 a4=>YF.c a b a2 ⟨some a3,1,1⟩ a4 λa5=>aQ k 2 a5 λa6=>aR f 0 (.I 0) a5 λa7=>
 aR f 1 (.I 0) a7 λa8=>aQ f 0 a8 λa9=>aQ f 1 a8 λba=>e (.iface 255 (.agg #[.I a6,.I c])) a9 ba a8))
theorem ZE.o {a b c d e}(f:ZE.v a b c d e):ZE.c a b c d e:=Wa Tryz.func175 (x:=ZE.h) (R0 f)
def Xj.h:Hn:=.q .o1 (.q (.q .fZ .aK) (.q .o3 .l))
def Xj.v (a:R2)(b:Int)(c:Hp)(d:Value->Hp->Prop):Prop:=bF a 8 c λf=>Ix f.a f.len b 3 λg=>aX g 1 c λh=>If (((h.len:Nat):Int)==0) (d (.nilIface) c) (d (.iface 258 (.agg #[])) c)
theorem Xj.o {a b c d}(e:Xj.v a b c d):Xj.c a b c d:=Wa Tryz.func179 (x:=Xj.h) (R0 e)
def ZA.h:Hn:=.q .o1 (.q .o7 (.q (.q .o4 (.k (.loop [(23,.I)] (.q .o1 (.q (.c .l .l) (.q (.k (.q .o3 (.q .o4 (.o 11)))) .o2)))))) (.kj [] (.q (.oq 9) (.c (.q (.cW (.held true [] (.tk [0,1,2,3,4,5,6,7,8,9,10] (.all [(11,.tk [12,13,14,15,16] (.done))])))) (.q (.cW (.seq [.op,.op,.cR true 2 [.op,.op]])) (.c .l .l))) .l)) (.q .o3 (.k (.loop [(72,.I)] (.q .o1 (.q (.c .l .l) (.q (.k (.q .o5 (.q .o3 (.c (.cW (.tail 10 (RI.ops 10) [.op])) .l)))) .o2)))))))))
def ZA.v (a:R2)(b c:Int)(d:Sl)(e:Hp)(f:aP):Prop:=aV #[.I c,.slice d.a d.len d.cap] 147 e λg h=>bX a λi=>aX i 7 h λj=>Mk ((j.len:Nat):Int) ((j.len:Nat):Int) 24 31 [.slice none 0 0] h λk l=>aX g 1 l λm=>Ya [bO] (λn=>n 0 l) λo (p:Int) q=>If (p<((m.len:Nat):Int)) (Ix m.a m.len p 1 λr=>bN r q λs=>Yo.c a s q λt u=>Ix k.a k.len t 1 λv=>ju v u λw=>aV #[.I s] 3 u λx y=>App w 1 8 3 [.I 0] ⟨some x,1,1⟩ y λz aa=>Ix k.a k.len t 1 λab=>dU ab (.slice z.a z.len z.cap) aa λac=>bM (p+1) λad=>o ad ac) (Jn [] (λae=>Ya [bO] (λaf=>af 0 ae) λag (ah:Int) ai=>If (ah<((k.len:Nat):Int)) (Ix k.a k.len ah 1 λaj=>ju aj ai λak=>If (((ak.len:Nat):Int)>0) (bF a 7 ai λam=>Ix am.a am.len ah 1 λan=>fS an ai λao=>aQ g 0 ai λap=>Xa.c ao ap ak ai λaq ar=>bM (ah+1) λau=>ag au ar) (bM (ah+1) λav=>ag av ai)) (f ai)) λaw=>Ix k.a k.len b 1 λax=>ju ax q λay=>aX g 1 q λaz=>If (((ay.len:Nat):Int)==((az.len:Nat):Int)) (dZ q λa0=>bX a λa1=>aT a0 a1 7 λa2=>Ix a2.a a2.len b 1 λa3=>gE a0 .p a3 λ(a4:R2)=>aS a0 g 0 λa5=>aT a0 g 1 λa6=>W7.c a4 a5 a6 q λa7 a8 a9=>And (a0 a9) <| bV (λba bb=>If ba (f bb) (aw bb)) λbc=>If a7 (bc (a8==0) a9) (bc false a9)) (aw q))
theorem ZA.o {a b c d e f}(g:ZA.v a b c d e f):ZA.c a b c d e f:=Wa Tryz.func181 (x:=ZA.h) (R0 g)
def Yo.h:Hn:=.q .o2 (.q (.q .o2 .aK) (.q .o7 .l))
def Yo.v (a:R2)(b:Int)(c:Hp)(d:aN):Prop:=aV #[.I b] 3 c λe f=>bN e f λg=>If (g<0) (d (-1) f) (bF a 7 f λi=>Ws.c i ⟨283,#[],#[.pointer (some e)]⟩ f λj k=>d j k)
theorem Yo.o {a b c d}(e:Yo.v a b c d):Yo.c a b c d:=Wa Tryz.func230 (x:=Yo.h) (R0 e)
def Zc.h:Hn:=.q .o1 (.q .o5 .l)
def Zc.v (a:R2)(b:Addr)(c:Hp)(d:aO):Prop:=bN b c λe=>Nz 256<|bM (e.tdiv 256) λf=>Y7.c a f c λg h=>d g h
theorem Zc.o {a b c d}(e:Zc.v a b c d):Zc.c a b c d:=Wa Tryz.func283 (x:=Zc.h) (R0 e)
def Z4.h:Hn:=.q .o2 .aM
def Z4.v (a:Int)(b:Hp)(c:ByteArray->Hp->Prop):Prop:=aV #[.I a] 235 b λd e=>c (ByteArray.mk #[116,97,107,101]) e
theorem Z4.o {a b c}(d:Z4.v a b c):Z4.c a b c:=Wa Tryz.func379 (x:=Z4.h) (R0 d)
def ZV.h:Hn:=.q .o2 .aM
def ZV.v (a:Int)(b:Hp)(c:ByteArray->Hp->Prop):Prop:=aV #[.I a] 237 b λd e=>c (ByteArray.mk #[108,97,114,103,101]) e
theorem ZV.o {a b c}(d:ZV.v a b c):ZV.c a b c:=Wa Tryz.func380 (x:=ZV.h) (R0 d)
def Z3.h:Hn:=.q .o2 .aM
def Z3.v (a:Int)(b:Hp)(c:ByteArray->Hp->Prop):Prop:=aV #[.I a] 239 b λd e=>c (ByteArray.mk #[102,105,110,100]) e
theorem Z3.o {a b c}(d:Z3.v a b c):Z3.c a b c:=Wa Tryz.func381 (x:=Z3.h) (R0 d)
def ZW.h:Hn:=.q .o2 .aM
def ZW.v (a:Hp)(b:ByteArray->Hp->Prop):Prop:=aV #[] 241 a λc d=>b (ByteArray.mk #[100,114,97,105,110]) d
theorem ZW.o {a b}(c:ZW.v a b):ZW.c a b:=Wa Tryz.func382 (x:=ZW.h) (R0 c)
def Zd.h:Hn:=.q .o2 .aM
def Zd.v (a b:Int)(c:Hp)(d:ByteArray->Hp->Prop):Prop:=aV #[.I a,.I b] 245 c λe f=>d (ByteArray.mk #[116,114,97,110,115,102,101,114]) f
theorem Zd.o {a b c d}(e:Zd.v a b c d):Zd.c a b c d:=Wa Tryz.func383 (x:=Zd.h) (R0 e)
def Z6.h:Hn:=.q .o2 .aM
def Z6.v (a:Hp)(b:ByteArray->Hp->Prop):Prop:=aV #[] 247 a λc d=>b (ByteArray.mk #[102,105,108,108]) d
theorem Z6.o {a b}(c:Z6.v a b):Z6.c a b:=Wa Tryz.func384 (x:=Z6.h) (R0 c)
def Zv.h:Hn:=.q .o2 .aM
def Zv.v (a b:Int)(c:Hp)(d:ByteArray->Hp->Prop):Prop:=aV #[.I a,.I b] 248 c λe f=>d (ByteArray.mk #[99,101,110,116,114,97,108]) f
theorem Zv.o {a b c d}(e:Zv.v a b c d):Zv.c a b c d:=Wa Tryz.func385 (x:=Zv.h) (R0 e)
def Z9.h:Hn:=.q .o2 .aM
def Z9.v (a b:Int)(c:Hp)(d:ByteArray->Hp->Prop):Prop:=aV #[.I a,.I b] 250 c λe f=>d (ByteArray.mk #[103,114,111,119]) f
theorem Z9.o {a b c d}(e:Z9.v a b c d):Z9.c a b c d:=Wa Tryz.func386 (x:=Z9.h) (R0 e)
def Qj.h:Hn:=.q .o2 .aM
def Qj.v (a b:Int)(c:Hp)(d:ByteArray->Hp->Prop):Prop:=aV #[.I a,.I b] 255 c λe f=>d (ByteArray.mk #[112,117,116]) f
theorem Qj.o {a b c d}(e:Qj.v a b c d):Qj.c a b c d:=Wa Tryz.func387 (x:=Qj.h) (R0 e)
def Z8.h:Hn:=.q .o2 .aM
def Z8.v (a:Hp)(b:ByteArray->Hp->Prop):Prop:=aV #[] 258 a λc d=>b (ByteArray.mk #[98,97,99,107]) d
theorem Z8.o {a b}(c:Z8.v a b):Z8.c a b:=Wa Tryz.func388 (x:=Z8.h) (R0 c)
def Z2.h:Hn:=.q .o2 .aM
def Z2.v (a b:Int)(c:Hp)(d:ByteArray->Hp->Prop):Prop:=aV #[.I a,.I b] 262 c λe f=>d (ByteArray.mk #[103,105,118,101]) f
theorem Z2.o {a b c d}(e:Z2.v a b c d):Z2.c a b c d:=Wa Tryz.func389 (x:=Z2.h) (R0 e)
end Go.Proofs
namespace Go.Ar
open Go Go.Vc Go.Proofs
def nc:Option Ph->Value
 | none=>.nilIface
 | some (.take k)=>.iface 235 (.agg #[.int .i64 (k:Int)])
 | some (.cJ k w)=>.iface 245 (.agg #[.int .i64 (k:Int),.int .i64 (w:Int)])
 | some (.cL k w)=>.iface 248 (.agg #[.int .i64 (k:Int),.int .i64 (w:Int)])
 | some (.grow k w)=>.iface 250 (.agg #[.int .i64 (k:Int),.int .i64 (w:Int)])
 | some .fill=>.iface 247 (.agg #[])
 | some (.eI m)=>.iface 237 (.agg #[.int .i64 (m:Int)])
 | some (.find x)=>.iface 239 (.agg #[.int .i64 x])
 | some (.put k x)=>.iface 255 (.agg #[.int .i64 (k:Int),.int .i64 x])
 | some .back=>.iface 258 (.agg #[])
 | some (.dE s a)=>.iface 262 (.agg #[.int .i64 s,.int .i64 a])
 | some .drain=>.iface 241 (.agg #[])
theorem vf (p:Option Ph):iS (nc p):=by
 cases p with
 | none=>exact .inl rfl
 | some p=>cases p<;>exact .inr ⟨_,_,rfl⟩
theorem wK (p:Option Ph):kx (nc p)=p.isNone:=by
 cases p with
 | none=>rfl
 | some p=>cases p<;>rfl
inductive kI where
 | hd|dF|sp|fN|cP|live
 | ar (k:Nat)
 | ca (k:Nat)
 | hn (k:Nat)
 deriving DecidableEq
structure eJ where
 c:gU
 h:Sl
structure dH where
 p:Nat
 hs:Nat
 lm:Nat
 dF:Sl
 fN:Sl
 cP:Sl
 ys:List Lay
 ts:List eJ
def yo (L:dH)(c:Cf):List Value:=[.slice L.dF.a L.dF.len L.dF.cap,.int .i64 (c.aF:Int),.int .i64 (c.ia:Int),.int .i64 (c.threads:Int),.int .i64 (c.dC:Int),.int .i64 (c.room:Int),
 .pointer (some ⟨L.hs,0,none⟩),.slice L.fN.a L.fN.len L.fN.cap,.slice L.cP.a L.cP.len L.cP.cap,.map (some L.lm)]
def jq (x:eJ×Th):List Value:=[.pointer (some ⟨x.1.c.p,0,none⟩),.slice x.1.h.a x.1.h.len x.1.h.cap,nc x.2.ph]
def gT (ts:List eJ)(bR:List Th):List Value:=(ts.zip bR).flatMap jq
theorem HV:∀{ts:List eJ} {bR:List Th},ts.length=bR.length->(gT ts bR).length=bR.length*3
 | [],[],_=>rfl
 | x::ts,h::bR,e=>by
  have e1:gT (x::ts) (h::bR)=jq (x,h)++gT ts bR:=rfl;have a:(jq (x,h)).length=3:=rfl;rw[e1,zM,HV (by simpa using e),a,zV];omega
 | [],_::_,e=>by simp at e
 | _::_,[],e=>by simp at e
theorem BC:∀{ts:List eJ} {bR:List Th} {i:Nat} {x:eJ} {h:Th},ts[i]?=some x->bR[i]?=some h->∀{d:Nat},d<3->(gT ts bR)[3*i+d]?=(jq (x,h))[d]?
 | [],_,_,_,_,h1,_,_,_=>by simp at h1
 | _::_,[],_,_,_,_,h2,_,_=>by simp at h2
 | y::ts,g::bR,0,x,h,h1,h2,d,hd=>by
  have e1:gT (y::ts) (g::bR)=jq (y,g)++gT ts bR:=rfl;have a:(jq (y,g)).length=3:=rfl;simp at h1 h2;subst h1;subst h2;rw[e1,zd O];congr 1;omega
 | y::ts,g::bR,i+1,x,h,h1,h2,d,hd=>by
  have e1:gT (y::ts) (g::bR)=jq (y,g)++gT ts bR:=rfl;have a:(jq (y,g)).length=3:=rfl;rw[e1,zm O,a,show 3*(i+1)+d-3=3*i+d by omega];exact BC (by simpa using h1) (by simpa using h2) hd
theorem yN:∀{ts:List eJ} {bR:List Th} {i:Nat} {x:eJ} {h:Th},ts[i]?=some x->bR[i]?=some h->∀{d:Nat} {v:Value} {x':eJ} {h':Th},d<3->jq (x',h')=(jq (x,h)).set d v →
 (gT ts bR).set (3*i+d) v=gT (ts.set i x') (bR.set i h')
 | [],_,_,_,_,h1,_,_,_,_,_,_,_=>by simp at h1
 | _::_,[],_,_,_,_,h2,_,_,_,_,_,_=>by simp at h2
 | y::ts,g::bR,0,x,h,h1,h2,d,v,x',h',hd,e=>by
  have e1:gT (y::ts) (g::bR)=jq (y,g)++gT ts bR:=rfl;have e2:gT ((y::ts).set 0 x') ((g::bR).set 0 h')=jq (x',h')++gT ts bR:=rfl;have a:(jq (y,g)).length=3:=rfl;simp at h1 h2;subst h1;subst h2;rw[e1,e2,List.set_append_left _ _ O,e,show 3*0+d=d by omega]
 | y::ts,g::bR,i+1,x,h,h1,h2,d,v,x',h',hd,e=>by
  have e1:gT (y::ts) (g::bR)=jq (y,g)++gT ts bR:=rfl;have e2:gT ((y::ts).set (i+1) x') ((g::bR).set (i+1) h')=jq (y,g)++gT (ts.set i x') (bR.set i h'):=rfl;have a:(jq (y,g)).length=3:=rfl;rw[e1,e2,Ce _ _ O,a,show 3*(i+1)+d-3=3*i+d by omega];rw[yN (by simpa using h1) (by simpa using h2) hd e]
def nQ (y:Option Lay)(a:Option AR):Hp->Rg->Prop:=λU F=>match y,a with
 | some Y,some A=>dI U F Y A (cM A Y)
 | _,_=>True
def qV (x:Option eJ)(h:Option Th)(tb:List cA)(bud:Nat):Hp->Rg->Prop:=λU F=>match x,h with
 | some x,some h=>eH U F x.c tb bud h.ls
 | _,_=>True
def qf (x:Option eJ)(h:Option Th):Hp->Rg->Prop:=λU F=>match x,h with
 | some x,some h=>iA x.h h.bQ U F
 | _,_=>True
def CH (H:Hw)(L:dH):kI->Hp->Rg->Prop
 | .hd=>iB L.p (yo L H.cf)
 | .dF=>cV L.dF 3 (gF H.tb)
 | .sp=>λU F=>dN U F L.hs H.sp
 | .fN=>cV L.fN 1 (fJ (L.ys.map (·.p)))
 | .cP=>bS L.cP 3 (gT L.ts H.bR)
 | .live=>jH L.lm .i64 (.ag 4) H.live
 | .ar k=>nQ L.ys[k]? H.bY[k]?
 | .ca t=>qV L.ts[t]? H.bR[t]? H.tb H.cf.dC
 | .hn t=>qf L.ts[t]? H.bR[t]?
theorem nQ.loc (y:Option Lay)(a:Option AR):dM (nQ y a):=by
 intro U σ' F G h hz hs;unfold nQ at *;split at h
 ·exact dI.loc _ _ _ _ h hz hs
 ·trivial
theorem qV.loc (x:Option eJ)(h:Option Th)(tb:List cA)(bud:Nat):dM (qV x h tb bud):=by
 intro U σ' F G h hz hs;unfold qV at *;split at h
 ·exact eH.loc _ _ _ _ h hz hs
 ·trivial
theorem qf.loc (x:Option eJ)(h:Option Th):dM (qf x h):=by
 intro U σ' F G h hz hs;unfold qf at *;split at h
 ·exact iA.loc _ _ _ _ _ _ h hz hs
 ·trivial
theorem CH.loc {H:Hw}{L:dH}:∀i,dM (CH H L i)
 | .hd=>iB.loc _ _
 | .dF=>cV.loc _ _ _
 | .sp=>dN.loc
 | .fN=>cV.loc _ _ _
 | .cP=>bS.loc _ _ _
 | .live=>jH.loc _ _ _ _
 | .ar k=>nQ.loc _ _
 | .ca t=>qV.loc _ _ _ _
 | .hn t=>qf.loc _ _
structure HS (L:dH) (H:Hw):Prop where
 ys:L.ys.length=H.bY.length
 hs:∀Y∈L.ys,Y.hs=L.hs
 ts:L.ts.length=H.bR.length
 a1:1<=H.bY.length
 a2:H.bY.length<=4
 t1:1<=H.bR.length
 t2:H.bR.length<=4
 tb:∀A∈H.bY,A.tb=H.tb
structure HH (U:Hp) (F:Rg) (L:dH) (H:Hw):Prop where
 s:HS L H
 sep:Sep (CH H L) U F
 g:Gl U
 gd:Gd U
 o:iW F
 o2:¬F 1
variable {U:Hp}{F:Rg}{L:dH}{H:Hw}{t k:Nat}
theorem HH.bP (h:HH U F L H){σ':Hp}(e:bL U σ'):HH σ' F L H:=⟨h.s,(Sep.loc CH.loc).bP h.sep e,h.g.bP e,h.gd.bP e,h.o,h.o2⟩
theorem HH.bT (h:HH U F L H){σ':Hp}{T:Rg}(e:Ext T U σ')(hT:∀b,b<U.size->F b->¬T b)(hg:iW T)(hg2:¬T 1):HH σ' F L H:=⟨h.s,(Sep.loc CH.loc).bT h.sep e hT,h.g.bT e hg,h.gd.bT e hg2,h.o,h.o2⟩
theorem Au {U:Hp}(g:Gd U):1<U.size:=g.lt
theorem HH.mono (h:HH U F L H){G:Rg}(hs:∀b,b<U.size->F b->G b)(o:iW G)(o2:¬G 1):HH U G L H:=⟨h.s,(Sep.loc CH.loc).mono h.sep hs,h.g,h.gd,o,o2⟩
theorem HH.oG (h:HH U F L H):iW (Grow F U):=h.o.grow h.g
theorem HH.qJ (h:HH U F L H):¬Grow F U 1:=λa=>by
 rcases a with a|a
 ·exact h.o2 a
 ·have:=Au h.gd;omega
theorem HH.sub (h:HH U F L H){G:Rg}(hs:∀b,b<U.size->F b->G b)(hg:∀b,G b->F b\/U.size<=b):HH U G L H:=
 h.mono hs (h.oG.sub hg) λa=>h.qJ (hg _ a)
theorem HH.vY {v v':Hp}{G T:Rg}{L0:dH}{H0:Hw}(h0:HH U F L0 H0)(h:HH v G L H)(e:Ext T v v')(hT:∀b,T b->U.size<=b)(hG:∀b,b<v.size->G b->¬T b):HH v' G L H:=
 h.bT e hG (h0.oG.sub λb a=>.inr (hT b a)) λa=>h0.qJ (.inr (hT _ a))
theorem HH.grown {σ':Hp}{R:Rg}{L':dH}{H':Hw}(h:HH U F L H)(h':HH σ' R L' H')(hr:∀b,b<σ'.size->R b->Grow F U b):HH σ' (Grow F U) L' H':=h'.mono hr h.oG h.qJ
theorem HH.cut (h:HH U F L H):HH U (Cut F U) L H:=h.sub (λb a d=>⟨d,a⟩) λb a=>.inl a.1
theorem HH.lI (h:HH U F L H)(i:kI):∃G:Rg,(∀b,G b->F b)/\CH H L i U G/\(∀j,j≠i->∃D:Rg,(∀b,D b->F b)/\(∀b,D b->¬G b)/\CH H L j U D) ∧
 ∀(σ':Hp) (H':Hw) (L':dH) (G':Rg),HS L' H'->(∀j,j≠i->CH H' L' j=CH H L j)->Ext G U σ'->(∀b,G' b->Grow G U b)->CH H' L' i σ' G' →
  Ext F U σ'/\HH σ' (λb=>F b/\b<U.size/\¬G b\/G' b) L' H':=by
 obtain⟨G,p,y,hd,d⟩:=h.sep.jM CH.loc i;refine⟨G,p,y,hd,λσ' H' L' G' w u e s x=>?_⟩;have r:=e.sub p;have m:∀b,(F b/\b<U.size/\¬G b\/G' b)->Grow F U b:=λb a=>by
  rcases a with a|a
  ·exact .inl a.1
  ·exact(s b a).imp (p b) id
 refine⟨r,w,d σ' (CH H' L') G' u e s x (CH.loc _),h.g.bT r h.o,h.gd.bT r h.o2,λb a=>(h.o.grow h.g) b (m b a),λa=>?_⟩;rcases m _ a with h1|h1
 ·exact h.o2 h1
 ·have:=Au h.gd;omega
theorem _root_.Go.Vc.Sep.sT {L:Type}{C:L->Hp->Rg->Prop}{U:Hp}{F:Rg}(hC:∀i,dM (C i))(h:Sep C U F)(i j:L)(hij:i≠j)(N:Rg)(hN:∀b,b<U.size->F b->¬N b):∃G D:Rg,(∀b,G b->F b)/\(∀b,D b->F b)/\(∀b,G b->¬D b)/\C i U G/\C j U D/\(∀m,m≠i->m≠j->∃E:Rg,(∀b,E b->F b)/\(∀b,E b->¬(G b\/D b))/\C m U E) ∧
 ∀(σ':Hp) (C':L->Hp->Rg->Prop) (G' D':Rg),(∀k,k≠i->k≠j->C' k=C k)->Ext (λb=>G b\/D b) U σ'->(∀b,G' b->(G b\/D b)\/N b)->(∀b,D' b->(G b\/D b)\/N b)->(∀b,G' b->¬D' b)->C' i σ' G'->C' j σ' D'->(∀k,dM (C' k)) →
 Sep C' σ' λb=>F b/\b<U.size/\¬(G b\/D b)\/G' b\/D' b:=by
 obtain⟨ρ,h⟩:=h
 let G:Rg:=λb=>F b/\ρ b=i
 let D:Rg:=λb=>F b/\ρ b=j
 refine⟨G,D,λb a=>a.1,λb a=>a.1,λb w x=>hij (w.2.symm.trans x.2),h i,h j,λm w x=>⟨λb=>F b/\ρ b=m,λb a=>a.1,λb a d=>d.elim (λu=>w (a.2.symm.trans u.2)) λu=>x (a.2.symm.trans u.2),h m⟩,λσ' C' G' D' A e J B hd z H y=>?_⟩
 open Classical in
 refine⟨λb=>if G' b then i else if D' b then j else ρ b,λk=>?_⟩
 by_cases hki:k=i
 ·subst hki;exact(y _).mono z λb _ a=>⟨.inr (.inl a),zC a⟩
 by_cases hkj:k=j
 ·subst hkj;exact(y _).mono H λb _ a=>⟨.inr (.inr a),by show(if G' b then i else if D' b then k else ρ b)=k;rw[zB λd=>hd b d a,zC a]⟩
 ·rw[A k hki hkj];refine hC k _ _ _ _ (h k) e.1 λb a g=>?_;have s:¬(G b\/D b):=by
   rintro(d|d)
   ·exact hki (g.2.symm.trans d.2)
   ·exact hkj (g.2.symm.trans d.2)
  have p:¬G' b:=λd=>(J b d).elim s (hN b a g.1);have r:¬D' b:=λd=>(B b d).elim s (hN b a g.1);exact⟨⟨.inl ⟨g.1,a,s⟩,by show(if G' b then i else if D' b then j else ρ b)=k;rw[zB p,zB r];exact g.2⟩,e.2 b a s⟩
theorem HH.pE (h:HH U F L H)(i j:kI)(hij:i≠j)(N:Rg)(hN:∀b,b<U.size->F b->¬N b)(oN:iW N)(oN2:¬N 1):∃G D:Rg,(∀b,G b->F b)/\(∀b,D b->F b)/\(∀b,G b->¬D b)/\CH H L i U G/\CH H L j U D/\(∀m,m≠i->m≠j->∃E:Rg,(∀b,E b->F b)/\(∀b,E b->¬(G b\/D b))/\CH H L m U E) ∧
 ∀(σ':Hp) (H':Hw) (L':dH) (G' D':Rg),HS L' H'->(∀m,m≠i->m≠j->CH H' L' m=CH H L m)->Ext (λb=>G b\/D b) U σ'->(∀b,G' b->(G b\/D b)\/N b)->(∀b,D' b->(G b\/D b)\/N b)->(∀b,G' b->¬D' b)->CH H' L' i σ' G'->CH H' L' j σ' D' →
  Ext F U σ'/\HH σ' (λb=>F b/\b<U.size/\¬(G b\/D b)\/G' b\/D' b) L' H':=by
 obtain⟨G,D,u,s,hd,J,M,r,d⟩:=h.sep.sT CH.loc i j hij N hN;refine⟨G,D,u,s,hd,J,M,r,λσ' H' L' G' D' B C e A z x K P=>?_⟩;have y:Ext F U σ':=e.sub λb a=>a.elim (u b) (s b);have p:∀b,(F b/\b<U.size/\¬(G b\/D b)\/G' b\/D' b)->F b\/N b:=λb a=>by
  rcases a with a|a|a
  ·exact .inl a.1
  ·exact(A b a).imp (λw=>w.elim (u b) (s b)) id
  ·exact(z b a).imp (λw=>w.elim (u b) (s b)) id
 refine⟨y,B,d σ' (CH H' L') G' D' C e A z x K P CH.loc,h.g.bT y h.o,h.gd.bT y h.o2,λb a=>(p b a).elim (h.o b) (oN b),λa=>?_⟩;exact(p _ a).elim h.o2 oN2
theorem HH.mD (h:HH U F L H):iW (λb=>U.size<=b)/\¬(U.size<=1):=⟨h.oG.sub λb a=>.inr a,λa=>h.qJ (.inr a)⟩
theorem HH.pC (h:HH U F L H)(i j:kI)(hij:i≠j):∃G D:Rg,(∀b,G b->F b)/\(∀b,D b->F b)/\(∀b,G b->¬D b)/\CH H L i U G/\CH H L j U D/\(∀m,m≠i->m≠j->∃E:Rg,(∀b,E b->F b)/\(∀b,E b->¬(G b\/D b))/\CH H L m U E) ∧
 ∀(σ':Hp) (H':Hw) (L':dH) (G' D':Rg),HS L' H'->(∀m,m≠i->m≠j->CH H' L' m=CH H L m)->Ext (λb=>G b\/D b) U σ'->(∀b,G' b->(G b\/D b)\/U.size<=b)->(∀b,D' b->(G b\/D b)\/U.size<=b)->(∀b,G' b->¬D' b)->CH H' L' i σ' G'->CH H' L' j σ' D' →
  Ext F U σ'/\HH σ' (λb=>F b/\b<U.size/\¬(G b\/D b)\/G' b\/D' b) L' H':=
 h.pE i j hij _ (λb a _=>O) h.mD.1 h.mD.2
theorem HH.hd (h:HH U F L H):bZ U L.p (yo L H.cf):=by obtain⟨G,b,a⟩:=h.sep.get .hd;exact a.2
theorem HH.jC (h:HH U F L H):cV L.dF 3 (gF H.tb) U F:=by
 obtain⟨G,d,a⟩:=h.sep.get .dF;exact aH.mono a λb _ a=>d b a
theorem HH.oM (h:HH U F L H):L.dF.len=H.tb.length:=by
 have:=h.jC.1;rw[Up]at this;omega
theorem HH.nb (h:HH U F L H):cV L.fN 1 (fJ (L.ys.map (·.p))) U F:=by
 obtain⟨G,d,a⟩:=h.sep.get .fN;exact aH.mono a λb _ a=>d b a
theorem HH.na (h:HH U F L H):L.fN.len=H.bY.length:=by
 have:=h.nb.1;have:=h.s.ys;simp[fJ]at *;omega
theorem HH.m6 (h:HH U F L H):cV L.cP 3 (gT L.ts H.bR) U F:=by
 obtain⟨G,d,a⟩:=h.sep.get .cP;exact aH.mono (bS.fX a) λb _ a=>d b a
theorem HH.lU (h:HH U F L H):L.cP.len=H.bR.length:=by
 have:=h.m6.1;rw[HV h.s.ts]at this;omega
theorem HH.mW (h:HH U F L H):dJ U L.lm .i64 (.ag 4) H.live:=by obtain⟨G,b,a⟩:=h.sep.get .live;exact a.2
theorem HH.OF (h:HH U F L H):dN U F L.hs H.sp:=by
 obtain⟨G,d,a⟩:=h.sep.get .sp;exact dM.mono dN.loc a λb _ a=>d b a
theorem HH.ar (h:HH U F L H){A:AR}(hk:H.bY[k]?=some A):∃Y,L.ys[k]?=some Y/\Y.hs=L.hs/\dI U F Y A (cM A Y):=by
 have g:=(cZ.1 hk).1;have d:L.ys[k]?=some (L.ys[k]'(by rw[h.s.ys];exact g)):=cX _;obtain⟨G,e,a⟩:=h.sep.get (.ar k);simp only[CH,hk,d,nQ]at a;exact⟨_,d,h.s.hs _ (zG d),a.mono λb _ a=>e b a⟩
theorem HH.rA (h:HH U F L H){Y:Lay}(hy:L.ys[k]?=some Y){K:Option Addr->Prop}(hK:K (some ⟨Y.p,0,none⟩)):Ix L.fN.a L.fN.len (k:Int) 1 λa=>fS a U K:=
 Ap h.nb (by simp[hy]) hK
theorem HH.th (h:HH U F L H)(ht:t<H.bR.length):∃x g,L.ts[t]?=some x/\H.bR[t]?=some g:=⟨L.ts[t]'(by rw[h.s.ts];exact ht),H.bR[t],cX _,cX _⟩
theorem wJ {s:Sl}{ts:List eJ}{bR:List Th}(h:cV s 3 (gT ts bR) U F){x:eJ}{g:Th}(hx:ts[t]?=some x)(hg:bR[t]?=some g){d:Nat}(hd:d<3){v:Value}(hv:(jq (x,g))[d]?=some v):∃b o,s.a=some ⟨b,o,none⟩/\cell U ⟨b,o+(3*t+d),none⟩=some v:=
 h.cell ((BC hx hg hd).trans hv)
theorem Bz {s:Sl}{ts:List eJ}{bR:List Th}(hs:cV s 3 (gT ts bR) U F)(hl:ts.length=bR.length){x:eJ}{g:Th}(hx:ts[t]?=some x)(hg:bR[t]?=some g){d:Nat}(hd:d<3){v:Value}(hv:(jq (x,g))[d]?=some v){K:Addr->Prop}
 (hK:∀b o,s.a=some ⟨b,o,none⟩->cell U (Addr.add ⟨b,o+3*t,none⟩ d)=some v->K ⟨b,o+3*t,none⟩):Ix s.a s.len (t:Int) 3 K:=by
 have m:=(cZ.1 hg).1;have e:=hs.1;rw[HV hl]at e;obtain⟨b,o,i,j⟩:=wJ hs hx hg hd hv;rw[i];refine ix O O ?_;rw[add_lit,show o+(t:Int).toNat*3=o+3*t by omega];exact hK b o i (by rw[add_lit,show o+3*t+d=o+(3*t+d) by omega];exact j)
theorem HH.FQ (h:HH U F L H){x:eJ}{g:Th}(hx:L.ts[t]?=some x)(hg:H.bR[t]?=some g){d:Nat}(hd:d<3){v:Value}(hv:(jq (x,g))[d]?=some v){K:Addr->Prop}
 (hK:∀b o,cell U (Addr.add ⟨b,o+3*t,none⟩ d)=some v->K ⟨b,o+3*t,none⟩):Ix L.cP.a L.cP.len (t:Int) 3 K:=
 Bz h.m6 h.s.ts hx hg hd hv λb o _ e=>hK b o e
theorem HH.tS (h:HH U F L H){x:eJ}{g:Th}(hx:L.ts[t]?=some x)(hg:H.bR[t]?=some g){K:Sl->Prop}(hK:K x.h):Ix L.cP.a L.cP.len (t:Int) 3 λa=>ju (a.add 1) U K:=
 h.FQ hx hg (d:=1) O rfl λb o e=>nS e hK
theorem HH.tR (h:HH U F L H){x:eJ}{g:Th}(hx:L.ts[t]?=some x)(hg:H.bR[t]?=some g){K:Value->Prop}(hK:K (nc g.ph)):Ix L.cP.a L.cP.len (t:Int) 3 λa=>yG (a.add 2) U K:=
 h.FQ hx hg (d:=2) O rfl λb o e=>⟨_,e,hK⟩
theorem HS.dV (h:HS L H){bR:List Th}{ts:List eJ}(e:ts.length=bR.length)(e2:bR.length=H.bR.length):HS {L with ts:=ts} {H with bR:=bR}:=⟨h.ys,h.hs,e,h.a1,h.a2,by rw[e2];exact h.t1,by rw[e2];exact h.t2,h.tb⟩
theorem HS.cF (h:HS L H){A:AR}{sp:Sp}(e:A.tb=H.tb):HS L {H.cF k A with sp:=sp}:=⟨by simp[Hw.cF,h.ys],h.hs,h.ts,by simp[Hw.cF,h.a1],by simp[Hw.cF,h.a2],h.t1,h.t2,λB a=>by
 rcases Ak a with h1|h1
 ·exact h.tb B h1
 ·subst h1;exact e⟩
theorem Ek {A:AR}:∀j,j≠kI.ar k->CH (H.cF k A) L j=CH H L j:=by
 intro j hj;cases j<;>try rfl
 rename_i m;have a:m≠k:=λe=>hj (by rw[e]);simp only[CH,Hw.cF,zg (Ne.symm a)]
theorem IB {sp:Sp}:∀j,j≠kI.sp->CH {H with sp:=sp} L j=CH H L j:=by
 intro j hj;cases j<;>first|rfl|exact absurd rfl hj
theorem JJ {l:List (Int×Bk)}:∀j,j≠kI.live->CH {H with live:=l} L j=CH H L j:=by
 intro j hj;cases j<;>first|rfl|exact absurd rfl hj
theorem HH.wX (h:HH U F L H){A:AR}(hk:H.bY[k]?=some A):∃(Y:Lay) (G:Rg),L.ys[k]?=some Y/\Y.hs=L.hs/\(∀b,G b->F b)/\dI U G Y A (cM A Y)/\∀(σ':Hp) (A':AR) (G':Rg),A'.tb=A.tb->Ext G U σ'->(∀b,G' b->Grow G U b)->dI σ' G' Y A' (cM A' Y) →
 Ext F U σ'/\HH σ' (λb=>F b/\b<U.size/\¬G b\/G' b) L (H.cF k A'):=by
 have i:=(cZ.1 hk).1;have d:L.ys[k]?=some (L.ys[k]'(by rw[h.s.ys];exact i)):=cX _;generalize (L.ys[k]'(by rw[h.s.ys];exact i))=Y at d;obtain⟨G,m,j,_,a⟩:=h.lI (.ar k);simp only[CH,hk,d,nQ]at j;refine⟨Y,G,d,h.s.hs _ (zG d),m,j,λσ' A' G' g e r p=>?_⟩;refine a σ' (H.cF k A') L G' (h.s.cF (sp:=H.sp) (g.trans (h.s.tb A (zG hk)))) Ek e r ?_;simp only[CH,Hw.cF,d,zN i,nQ];exact p
theorem HH.oH (h:HH U F L H){A:AR}(hk:H.bY[k]?=some A):∃(Y:Lay) (G D:Rg),L.ys[k]?=some Y/\Y.hs=L.hs/\W2 U G D Y A (cM A Y) H.sp/\∀(σ':Hp) (A':AR) (sp':Sp) (G' D':Rg),A'.tb=A.tb->Ext (ja G D) U σ'->Fits U G D G' D'->W2 σ' G' D' Y A' (cM A' Y) sp' →
 Ext F U σ'/\HH σ' (Grow F U) L {H.cF k A' with sp:=sp'}:=by
 have J:=(cZ.1 hk).1;have i:L.ys[k]?=some (L.ys[k]'(by rw[h.s.ys];exact J)):=cX _;generalize (L.ys[k]'(by rw[h.s.ys];exact J))=Y at i;obtain⟨G,D,B,z,hd,M,y,_,r⟩:=h.pC (.ar k) .sp (by intro e;cases e);simp only[CH,hk,i,nQ]at M;have y:dN U D L.hs H.sp:=y;have p:=h.s.hs _ (zG i);refine⟨Y,G,D,i,p,⟨M,by rw[p];exact y,hd,h.g,h.o.sub B,h.o.sub z⟩,λσ' A' sp' G' D' C e N K=>?_⟩;have w:∀b,G' b->(G b\/D b)\/U.size<=b:=λb x=>(N.1 b x).imp .inl id;have u:∀b,D' b->(G b\/D b)\/U.size<=b:=λb x=>.inl (.inr (N.2 b x));have R:∀m,m≠kI.ar k->m≠kI.sp->CH {H.cF k A' with sp:=sp'} L m=CH H L m:=λm E S=>
  (Ek (H:={H with sp:=sp'}) (L:=L) (A:=A') m E).trans (IB m S)
 have P:CH {H.cF k A' with sp:=sp'} L (.ar k) σ' G':=by
  simp only[CH,Hw.cF,i,zN J,nQ];exact K.a
 have Q:CH {H.cF k A' with sp:=sp'} L .sp σ' D':=by
  show dN σ' D' L.hs sp';rw[←p];exact K.s
 obtain⟨e1,E⟩:=r σ' {H.cF k A' with sp:=sp'} L G' D' (h.s.cF (C.trans (h.s.tb A (zG hk)))) R e w u K.d P Q;refine⟨e1,h.grown E λb x j=>?_⟩;rcases j with j|j|j
 ·exact .inl j.1
 ·exact(w b j).imp (λi=>i.elim (B b) (z b)) id
 ·exact(u b j).imp (λi=>i.elim (B b) (z b)) id
theorem HH.xF (h:HH U F L H):∃G:Rg,(∀b,G b->F b)/\dN U G L.hs H.sp/\iW G/\∀(σ':Hp) (sp':Sp),Ext G U σ'->dN σ' (Grow G U) L.hs sp'->Ext F U σ'/\HH σ' (Grow F U) L {H with sp:=sp'}:=by
 obtain⟨G,g,j,_,a⟩:=h.lI .sp;refine⟨G,g,j,h.o.sub g,λσ' sp' e hs=>?_⟩;obtain⟨e1,m⟩:=a σ' {H with sp:=sp'} L (Grow G U) ⟨h.s.ys,h.s.hs,h.s.ts,h.s.a1,h.s.a2,h.s.t1,h.s.t2,h.s.tb⟩ IB e (λb i=>i) hs;exact⟨e1,h.grown m λb i d=>by
  rcases d with d|d
  ·exact .inl d.1
  ·exact d.imp (g b) id⟩
theorem HH.rQ (h:HH U F L H):F L.lm/\∀(σ':Hp) (l:List (Int×Bk)),QR U σ' L.lm->dJ σ' L.lm .i64 (.ag 4) l->Ext F U σ'/\HH σ' F L {H with live:=l}:=by
 obtain⟨G,i,e,_,a⟩:=h.lI .live;have e:jH L.lm .i64 (.ag 4) H.live U G:=e;refine⟨i _ e.1,λσ' l j m=>?_⟩;obtain⟨e1,p⟩:=a σ' {H with live:=l} L G ⟨h.s.ys,h.s.hs,h.s.ts,h.s.a1,h.s.a2,h.s.t1,h.s.t2,h.s.tb⟩ JJ (j.ext.sub λb g=>by rw[g];exact e.1) (λb g=>.inl g) ⟨e.1,m⟩;exact⟨e1,p.mono (λb _ d=>by
  rcases d with d|d
  ·exact d.1
  ·exact i b d) h.o h.o2⟩
theorem HH.pq (h:HH U F L H){x:eJ}{g:Th}(hx:L.ts[t]?=some x)(hg:H.bR[t]?=some g):∃G:Rg,(∀b,G b->F b)/\eH U G x.c H.tb H.cf.dC g.ls/\∀(σ':Hp) (ls:List Li) (Y':gU) (G':Rg),Y'.p=x.c.p->Ext G U σ'->(∀b,G' b->Grow G U b)->eH σ' G' Y' H.tb H.cf.dC ls →
 Ext F U σ'/\HH σ' (λb=>F b/\b<U.size/\¬G b\/G' b) {L with ts:=L.ts.set t {x with c:=Y'}} {H with bR:=H.bR.set t {g with ls:=ls}}:=by
 have r:=(cZ.1 hx).1;have i:=(cZ.1 hg).1;obtain⟨G,A,z,_,a⟩:=h.lI (.ca t);simp only[CH,hx,hg,qV]at z;refine⟨G,A,z,λσ' ls Y' G' C e y E=>?_⟩;have w:gT (L.ts.set t {x with c:=Y'}) (H.bR.set t {g with ls:=ls})=gT L.ts H.bR:=by
  have B:(gT L.ts H.bR).set (3*t+0) (.pointer (some ⟨x.c.p,0,none⟩))=gT L.ts H.bR:=Qz (BC hx hg O);rw[←B];exact(yN hx hg (d:=0) O (by simp[jq,C])).symm
 refine a σ' {H with bR:=H.bR.set t {g with ls:=ls}} {L with ts:=L.ts.set t {x with c:=Y'}} G' (h.s.dV (by simp[h.s.ts]) aA) (λj D=>?_) e y ?_
 ·cases j<;>try rfl
  ·simp only[CH,w]
  ·rename_i m;have u:m≠t:=λe=>D (by rw[e]);simp only[CH,zg (Ne.symm u)]
  ·rename_i m;by_cases u:m=t
   ·subst u;simp only[CH,zN r,zN i,hx,hg];rfl
   ·simp only[CH,zg (Ne.symm u)]
 ·simp only[CH,zN r,zN i,qV];exact E
theorem HH.sj (h:HH U F L H){x:eJ}{g:Th}(hx:L.ts[t]?=some x)(hg:H.bR[t]?=some g)(N:Rg)(hN:∀b,b<U.size->F b->¬N b)(oN:iW N)(oN2:¬N 1):∃G D:Rg,(∀b,G b->F b)/\(∀b,D b->F b)/\(∀b,G b->¬D b)/\iA x.h g.bQ U G/\bS L.cP 3 (gT L.ts H.bR) U D/\(∃E:Rg,(∀b,E b->¬G b)/\(∀b,E b->¬D b)/\iB L.p (yo L H.cf) U E) ∧
 ∀(σ':Hp) (s:Sl) (bs:List Bt) (G' D':Rg),Ext (λb=>G b\/D b) U σ'->(∀b,G' b->(G b\/D b)\/N b)->(∀b,D' b->(G b\/D b)\/N b)->(∀b,G' b->¬D' b)->iA s bs σ' G'->bS L.cP 3 ((gT L.ts H.bR).set (3*t+1) (.slice s.a s.len s.cap)) σ' D' →
  Ext F U σ'/\HH σ' (λb=>F b/\b<U.size/\¬(G b\/D b)\/G' b\/D' b) {L with ts:=L.ts.set t {x with h:=s}} {H with bR:=H.bR.set t {g with bQ:=bs}}:=by
 have r:=(cZ.1 hx).1;have u:=(cZ.1 hg).1;obtain⟨G,D,V,S,hd,M,y,j,i⟩:=h.pE (.hn t) .cP (by intro e;cases e) N hN oN oN2;simp only[CH,hx,hg,qf]at M;have y:bS L.cP 3 (gT L.ts H.bR) U D:=y;obtain⟨E,_,P,J⟩:=j .hd (by intro e;cases e) (by intro e;cases e);refine⟨G,D,V,S,hd,M,y,⟨E,λb A hx=>P b A (.inl hx),λb A hx=>P b A (.inr hx),J⟩,λσ' s bs G' D' e K C z Q R=>?_⟩;have B:gT (L.ts.set t {x with h:=s}) (H.bR.set t {g with bQ:=bs})=(gT L.ts H.bR).set (3*t+1) (.slice s.a s.len s.cap):=(yN hx hg (d:=1) O (by simp[jq])).symm;refine i σ' {H with bR:=H.bR.set t {g with bQ:=bs}} {L with ts:=L.ts.set t {x with h:=s}} G' D' (h.s.dV (by simp[h.s.ts]) aA) (λm W X=>?_) e K C z ?_ ?_
 ·cases m<;>first|rfl|exact absurd rfl X|skip
  ·rename_i m;by_cases w:m=t
   ·subst w;simp only[CH,zN r,zN u,hx,hg];rfl
   ·simp only[CH,zg (Ne.symm w)]
  ·rename_i m;have w:m≠t:=λe=>W (by rw[e]);simp only[CH,zg (Ne.symm w)]
 ·simp only[CH,zN r,zN u,qf];exact Q
 ·simp only[CH,B];exact R
theorem HH.sk (h:HH U F L H){x:eJ}{g:Th}(hx:L.ts[t]?=some x)(hg:H.bR[t]?=some g)(p:Option Ph){K:aP}(hK:∀σ',Ext F U σ'->HH σ' F L {H with bR:=H.bR.set t {g with ph:=p}}->K σ') :
 Ix L.cP.a L.cP.len (t:Int) 3 λa=>And (iS (nc p)) (dU (a.add 2) (nc p) U K):=by
 have M:=(cZ.1 hx).1;have u:=(cZ.1 hg).1;have A:=h.lU;obtain⟨G,B,w,_,i⟩:=h.lI .cP;have w:bS L.cP 3 (gT L.ts H.bR) U G:=w;have E:=HV h.s.ts;obtain⟨b,y⟩:∃b,L.cP.a=some ⟨b,0,none⟩:=by
  rcases w.2 with⟨h0,_⟩|⟨b,_,_,ha,_⟩
  ·omega
  ·exact⟨b,ha⟩
 rw[y];refine ix O O ⟨vf p,?_⟩;refine w.st (j:=3*t+2) O (λN r=>by rw[y]at r;cases r;rw[add_lit,add_lit];congr 1;omega) λσ' e C=>?_;have z:gT L.ts (H.bR.set t {g with ph:=p})=(gT L.ts H.bR).set (3*t+2) (nc p):=by
  have:=yN hx hg (d:=2) (v:=nc p) (x':=x) (h':={g with ph:=p}) O (by simp[jq]);rw[this,Qz hx]
 obtain⟨e1,D⟩:=i σ' {H with bR:=H.bR.set t {g with ph:=p}} L G (h.s.dV (ts:=L.ts) (by simp[h.s.ts]) aA) (λj J=>by
  cases j<;>first|rfl|exact absurd rfl J|skip
  ·rename_i m;by_cases hm:t=m
   ·subst hm;simp only[CH,zN u,hx,hg];rfl
   ·simp only[CH,zg hm]
  ·rename_i m;by_cases hm:t=m
   ·subst hm;simp only[CH,zN u,hx,hg];rfl
   ·simp only[CH,zg hm]) e (λb y=>.inl y) (by simp only[CH,z];exact C)
 exact hK σ' e1 (D.mono (λb _ hx=>by
  rcases hx with hx|hx
  ·exact hx.1
  ·exact B b hx) h.o h.o2)
end Go.Ar
namespace Go.Ar
open Go Go.Vc Go.Proofs
open Go.Bu (Zt Q0 Zr)
variable {U:Hp}{F H:Rg}{p hs:Nat}{A:AR}{sp:Sp}{Y:Lay}{T:Nat->Hp->Rg->Prop}
end Go.Ar
namespace Go.Ar
open Go Go.Vc Go.Proofs
variable {U:Hp}{F:Rg}{L:dH}{H:Hw}{t k:Nat}
theorem US (h:HH U F L H){R:aO}(hR:R true U):XL.c (aW L.p) U R:=by
 refine XL.o ?_;unfold XL.v;have a:=h.lU;have b:=h.s.t1;refine bV.intro (cD rfl (aG (h.hd.rS rfl ?_)));rw[zJ aC];exact hR
theorem AM (h:HH U F L H)(x:Int){R:aO}(hR:R (decide (0<=x/\x<(H.bR.length:Int))) U):Yk.c (aW L.p) x U R:=by
 refine Yk.o ?_;unfold Yk.v;have a:=h.lU;refine bV.intro (cQ (λb=>aG (h.hd.rS rfl ?_)) λb=>?_)
 ·have:decide (x<((L.cP.len:Nat):Int))=decide (0<=x/\x<(H.bR.length:Int)):=by rw[decide_eq_decide,a];omega
  simp only[this];exact hR
 ·rw[zL O]at hR;exact hR
theorem Er (h:HH U F L H)(t:Nat){R:aN}(hR:R ((H.own t:Nat):Int) U):ZH.c (aW L.p) (t:Int) U R:=by
 refine ZH.o ?_;unfold ZH.v;have a:=h.na;have b:=h.s.a1;refine aG (h.hd.rS rfl (nz aC ?_));have:((t:Int).tmod ((L.fN.len:Nat):Int))=((H.own t:Nat):Int):=by rw[Kg O,a];unfold Hw.own;omega
 simp only[this];exact hR
theorem CZ (h:HH U F L H)(x:Int)(hx9:x<=9223372036854775807){R:aN}(hR:∀σ',bL U σ'->R (X9 H.bY x) σ'):Yo.c (aW L.p) x U R:=by
 refine Yo.o ?_;unfold Yo.v;refine nw (cs:=[.int .i64 x]) λv hz e Q=>Q.tZ rfl ?_;have P:=h.bP e;by_cases hx:x<0
 ·have:=hR v e;unfold X9 at this;rw[zC hx]at this;exact lV hx this
 refine fV hx (aG (P.hd.rS rfl ?_));have hl:=h.na;have W:=h.s.a2;refine Ws.o ?_;unfold Ws.v;refine Qg (a:=bO) (λ(z:Int) w=>∃i:Nat,z=(i:Int)/\i<=H.bY.length/\bL U w/\HH w F L H/\bZ w U.size [.int .i64 x]/\∀j A,j<i->H.bY[j]?=some A->oQ A (x/256)=false) (λz _=>H.bY.length-z.toNat) ⟨0,rfl,O,e,P,Q,λj A d=>O⟩ ?_;rintro z w ⟨i,rfl,hi,K,J,r,b⟩;refine cQ (λN=>?_) λG=>?_
 ·simp only at N;have D:i<H.bY.length:=by omega
  have g:H.bY[i]?=some H.bY[i]:=cX D;generalize H.bY[i]=A at g;obtain⟨Y,S,X,y⟩:=J.ar g;refine J.rA S (GR (all := #[.pointer (some ⟨Y.p,0,none⟩),.pointer (some ⟨U.size,0,none⟩)]) (by kernel_rfl) aA ?_);refine Zc.o ?_;unfold Zc.v;refine r.tZ rfl (nz aB (ar (by rw[YK O];omega) (by rw[YK O];omega) ?_));rw[YK O];refine RT y (x/256) (cU (λZ=>?_) λV=>?_)
  ·have:X9 H.bY x=(i:Int):=by
    unfold X9;rw[zB hx];have:H.bY.findIdx? (λA=>oQ A (x/256))=some i:=by
     obtain⟨M,rfl⟩:=cZ.1 g;exact nG.2 ⟨M,Z,λj d=>by rw[b j _ d (cX O)];simp⟩
    rw[this]
   have u:=hR w K;rw[this]at u;exact u
  ·exact cS (m:=i+1) O O ⟨⟨i+1,rfl,O,K,J,r,λj B d C=>by
    by_cases e:j=i
    ·subst e;rw[g]at C;cases C;exact V
    ·exact b j B O C⟩,O⟩
 ·have E:i=H.bY.length:=by simp only at G;omega
  subst E;have:X9 H.bY x = -1:=by
   unfold X9;rw[zB hx];have:H.bY.findIdx? (λA=>oQ A (x/256))=none:=by
    rw[uB];intro A g;obtain⟨j,d⟩:=zO g;exact b j A (cZ.1 d).1 d
   rw[this]
  have u:=hR w K;rw[this]at u;exact u
theorem Gs (h:HH U F L H){R:Int->Int->Int->Int->Int->Hp->Prop}(hR:∀σ',bL U σ'->R (H.cf.aF:Int) (H.cf.ia:Int) (H.cf.threads:Int) (H.cf.dC:Int) (H.cf.room:Int) σ'):XR.c (aW L.p) U R:=by
 refine XR.o ?_;unfold XR.v;refine nw (cs:=[.int .i64 0,.int .i64 0,.int .i64 0,.int .i64 0,.int .i64 0]) λv u e j=>US (h.bP e) (cE rfl ?_);have hd:=(h.bP e).hd;refine aG (hd.gC rfl (hd.gC rfl (hd.gC rfl (hd.gC rfl (hd.gC rfl ?_)))));refine j.s1 aA λm o1 i=>i.s1 aA λr o2 g=>g.s1 aA λv3 o3 b=>b.s1 aA λs o4 b4=>b4.s1 aA λd o5 a=>?_;refine a.rI rfl (a.rI rfl (a.rI rfl (a.rI rfl (a.rI rfl (hR d ?_)))));exact((((e.only o1 (.inr (zD _))).only o2 (.inr (zD _))).only o3 (.inr (zD _))).only o4 (.inr (zD _))).only o5 (.inr (zD _))
theorem E9 (h:HH U F L H){R:Option Addr->Hp->Prop}(hR:R (some ⟨L.hs,0,none⟩) U):YO.c (aW L.p) U R:=by
 refine YO.o ?_;unfold YO.v;exact US h (cE rfl (aG (h.hd.rP rfl hR)))
theorem ME (h:HH U F L H)(x:Int)(hx:x<=9223372036854775807){R:Int->Int->Hp->Prop}(hR:∀σ',bL U σ'->R (if eO H.sp x=0 then H.sp.wd (x.toNat/8)else 0) (eO H.sp x) σ'):YD.c (aW L.p) x U R:=by
 refine YD.o ?_;unfold YD.v;exact E9 h (OY h.OF h.g x hx hR)
theorem R3 (h:HH U F L H)(gc:Gc U)(x v:Int)(hx:x<=9223372036854775807){R:aN}(hR:∀σ',Ext F U σ'->HH σ' (Grow F U) L {H with sp:=ZM H.sp x v}->R (eO H.sp x) σ'):XH.c (aW L.p) x v U R:=by
 refine XH.o ?_;unfold XH.v;obtain⟨G,m,i,d,a⟩:=h.xF;refine E9 h (LQ i h.g gc x hx v λσ' e b=>?_);obtain⟨e1,j⟩:=a σ' _ e b;exact hR σ' e1 j
theorem MJ (h:HH U F L H)(x:Int){R:Int->Int->Hp->Prop}(hR:∀σ',bL U σ'->R ((bU H.live x).elim 0 λb=>b.2.1) (if(bU H.live x).isSome then 0 else 8) σ'):XS.c (aW L.p) x U R:=by
 refine XS.o ?_;unfold XS.v;refine US h (cE rfl (aG (h.hd.rM rfl ⟨_,h.mW,?_⟩)));refine nw (cs:=[.int .i64 0,.int .i64 0,.int .i64 0,.int .i64 0]) λv s e j=>?_;refine j.s1 aA λu o1 i=>i.s1 aA λw o2 m=>m.s1 aA λv3 o3 g=>g.s1 aA λv4 o4 b4=>?_;have r:bL U v4:=(((e.only o1 (.inr (zD _))).only o2 (.inr (zD _))).only o3 (.inr (zD _))).only o4 (.inr (zD _));have a:=hR v4 r;cases hm:bU H.live x with
 | none=>
  rw[hm]at a;exact cD rfl a
 | some b=>
  rw[hm]at a;refine cE rfl (b4.rI rfl ?_);have d:((bU H.live x).getD ((0,0,0,0):Bk)).2.1=b.2.1:=by rw[hm];rfl
  rw[d];exact a
theorem Ui (h:HH U F L H)(ht:t<H.bR.length){R:Value->Hp->Prop}(hR:R (nc (jS H t)) U):Xj.c (aW L.p) (t:Int) U R:=by
 refine Xj.o ?_;unfold Xj.v;obtain⟨x,g,d,a⟩:=h.th ht;refine aG (h.hd.rS rfl (h.tS d a ?_));obtain⟨G,i,b⟩:=h.sep.get (.hn t);simp only[CH,d,a,qf]at b;have e:=b.len;unfold jS at hR;rw[a]at hR;simp only at hR;by_cases h0:g.bQ=[]
 ·rw[zC h0]at hR;exact cD (by rw[e,h0];rfl) hR
 ·rw[zB h0]at hR;have:=qg.2 h0;exact cE (by simp only[mB];omega) hR
theorem Bi (h:HH U F L H)(x size cls:Int)(hx9:x<=9223372036854775807){R:Value->Int->Int->Hp->Prop}(hR:∀σ',Ext F U σ'->HH σ' F L (VV H x size cls)->R .nilIface x 0 σ'):YU.c (aW L.p) x size cls U R:=by
 refine YU.o ?_;unfold YU.v;refine nw (cs:=[.int .i64 0,.int .i64 0]) λv E e a=>?_;have g:=h.cut.bP e;refine⟨λu=>bL v u,Ext.refl _ _,aG ⟨some L.lm,λu B=>by rw[add_lit,((g.bP B).hd).cell];rfl,?_⟩⟩;refine CZ g x hx9 λD e1=>⟨e1,?_⟩;have s:=g.bP e1;obtain⟨A,d⟩:=s.rQ;refine⟨L.lm,_,rfl,s.mW,λj o2 m=>?_⟩;obtain⟨e2,z⟩:=d j _ o2 m;have r:bZ j U.size [.int .i64 0,.int .i64 0]:=WH o2 (e1.bW a id) (by have:=A.2;omega);refine r.s1 aA λv3 o3 w=>w.s1 aA λv4 o4 b4=>b4.rI rfl (b4.rI rfl (hR v4 ?_ ?_))
 ·exact(((bL.to (e.trans e1)).trans (e2.sub λb a=>a.1)).only o3 (.inr (zD _))).only o4 (.inr (zD _))
 ·have i:Ext (· = U.size) j v4:=o3.ext.trans o4.ext;have y:=h.vY z i (λb a=>O) (λb _ a C=>by have:=a.2;omega);exact y.mono (λb _ a=>a.1) h.o h.o2
theorem xV (h:HH U F L H)(ht:t<H.bR.length)(k:Nat){s:Sl}{xs:List Int}{X:Rg}(hs:cV s 1 (WD xs) U X)(hc:s.len<=s.cap)(hxs:xs≠[])(hX:∀b,b<U.size->X b->¬F b)(oX:iW X)(oX2:¬X 1)(hlen:∀g,H.bR[t]?=some g->g.bQ.length<=1000){R:aP}
 (hR:∀σ' ts',Ext F U σ'->HH σ' (λb=>Grow F U b\/X b) {L with ts:=ts'} (Q8 H t k xs)->R σ'):YF.c (aW L.p) (t:Int) (k:Int) s U R:=by
 refine YF.o ?_;unfold YF.v;obtain⟨x,g,r,V⟩:=h.th ht;have htl:=HV h.s.ts;have hrl:=h.lU;have hlen:=hlen g V;obtain⟨G,D,hG,hD,hd,hB,hr,⟨E,hE1,hE2,hhd⟩,W⟩:=h.cut.sj r V (λb=>U.size<=b\/b<U.size/\X b) (λb m hf hn=>by
  rcases hn with hn|hn
  ·omega
  ·exact hX b m hn.2 hf.1) (λb m=>m.elim (h.mD.1 b) λm=>oX b m.2) (λm=>m.elim h.mD.2 λm=>oX2 m.2)
 obtain⟨Q,Dn,A,J,N,hj,S⟩:=hB;have B:∀u,Ext G U u->bZ u L.p (yo L H.cf):=λu z=>((iB.loc _ _).bT hhd z λb _ m r=>hE1 b m r).2;have hr':∀u,Ext G U u->bS L.cP 3 (gT L.ts H.bR) u D:=λu z=>aI.bT hr z λb _ m r=>hd b r m;refine⟨λu=>Ext G U u,Ext.refl _ _,aG ⟨L.cP,λu z=>by rw[add_lit,(B u z).cell];rfl,aG ⟨L.cP,λu z=>by rw[add_lit,(B u z).cell];rfl,?_⟩⟩⟩;refine Bz (bS.fX hr) h.s.ts r V (d:=1) O rfl λb o ha _=>⟨x.h,λu z=>?_,?_⟩
 ·obtain⟨b',o',aa,hc'⟩:=wJ (bS.fX (hr' u z)) r V (d:=1) O rfl;rw[ha]at aa;cases aa;rw[add_lit,show o+3*t+1=o+(3*t+1) by omega];exact hc'
 refine nw (cs:=[.int .i64 (k:Int),.slice s.a s.len s.cap]) λv hz e m=>⟨bL.to e,?_⟩;have K:=(dK.loc _ _ _).bP ((dK.loc _ _ _).cut A) e;have P:=(kv.loc _ _).bP ((kv.loc _ _).cut J) e;have hs1:=aH.bP (aH.cut hs) e;have hpl:x.h.len=Q.length:=by have:=A.1;rw[Vb]at this;omega
 have hpg:Q.length=g.bQ.length:=J.1;refine K.app (ys:=nV (k,s)) rfl rfl ?_ (λv hv=>HQ (l:=[(k,s)]) v (by simpa[fF]using hv)) ?_ ?_ ng λs' v2 hl2 e2 hr2=>?_
 ·intro j u z;rw[add_lit,zH,m.cell];exact z
 ·simp only;have:(x.h.len+1)*32<=1001*32:=mb O O;omega
 ·simp only;omega
 have hs2:=e2.1;have eG:Ext G U v2:=(bL.to e).trans (e2.sub λb m=>m.1.1);refine⟨eG,?_⟩;obtain⟨b0,hb0⟩:∃b,L.cP.a=some ⟨b,0,none⟩:=by
  rcases hr.2 with⟨h0,_⟩|⟨b,_,_,ha,_⟩
  ·omega
  ·exact⟨b,ha⟩
 rw[hb0];refine ix O O ?_;refine(hr' v2 eG).st (j:=3*t+1) O (λb' Y=>by rw[hb0]at Y;cases Y;rw[add_lit,add_lit];congr 1;omega) λσ' Z hr3=>?_;have hs3:=Z.1;have e03:Ext (λb=>G b\/D b) U σ':=(eG.sub λb m=>.inl m).trans (Z.sub λb m=>.inr m);have hr4:=(dK.loc _ _ _).bT ((dK.loc _ _ _).cut hr2) Z λb _ m r=>by
  rcases m.1 with h1|h1
  ·exact hd b h1.1.1 r
  ·have:=(hD b r).2;omega
 have hB4:=(kv.loc _ _).bT ((kv.loc _ _).bT P e2 λb _ m r=>r.1.2 m.1) Z λb _ m r=>hd b (N b m.1) r;have hs4:=aH.bT (aH.bT hs1 e2 λb m r w=>hX b r.2 r.1 (hG b w.1.1).1) Z λb _ r w=>hX b r.2 r.1 (hD b w).1;have hBt:iA s' (g.bQ++[(k,xs)]) σ' (λb=>G b/\b<U.size\/b<U.size/\X b\/v.size<=b/\b<v2.size):=by
  refine⟨Q++[(k,s)],λb=>Dn b/\b<U.size\/b<U.size/\X b,?_,⟨by simp[hpg],λi p y C w=>?_⟩,λb m=>?_,hj.snoc J S hs hxs (λb m r w=>hX b m w (hG b (N b r)).1) k,λy w=>?_⟩
  ·rw[Hc];have:fF [(k,s)]=nV (k,s):=by simp[fF]
   rw[this];refine(dK.loc _ _ _).mono hr4 λq _ M=>?_;rcases M.1 with h1|h1
   ·exact⟨.inl ⟨h1.1.1,h1.2⟩,λr=>by
     rcases r with r|r
     ·exact h1.1.2 r.1
     ·exact hX q r.1 r.2 (hG q h1.1.1).1⟩
   ·exact⟨.inr (.inr ⟨h1,M.2⟩),λr=>by
     rcases r with r|r<;>omega⟩
  ·rcases kb i Q.length with hi|hi
   ·rw[zd hi]at C;rw[zd O]at w;obtain⟨a1,a2,a3⟩:=hB4.2 i p y C w;exact⟨a1,aH.mono a2 λq _ M=>.inl M,a3⟩
   ·rw[zm hi]at C;rw[zm O]at w;have hi0:i-Q.length=0:=by
     have:=(cZ.1 C).1;simp at this;omega
    rw[hi0]at C;rw[show i-g.bQ.length=0 by omega]at w;simp at C w;subst C;subst w;exact⟨rfl,aH.mono hs4 λq _ M=>.inr ⟨M.2,M.1⟩,hc⟩
  ·rcases m with m|m
   ·exact .inl ⟨N b m.1,m.2⟩
   ·exact .inr (.inl m)
  ·rcases zK.1 w with h1|h1
   ·exact S y h1
   ·rw[zP]at h1;subst h1;exact hxs
 obtain⟨eF,h4⟩:=W σ' s' (g.bQ++[(k,xs)]) (λb=>G b/\b<U.size\/b<U.size/\X b\/v.size<=b/\b<v2.size) D e03 (λb m=>by
  rcases m with m|m|m
  ·exact .inl (.inl m.1)
  ·exact .inr (.inr m)
  ·exact .inr (.inl O)) (λb m=>.inl (.inr m)) (λb m r=>by
  have:=(hD b r).2;rcases m with m|m|m
  ·exact hd b m.1 r
  ·exact hX b m.1 m.2 (hD b r).1
  ·omega) hBt hr3
 refine hR σ' (L.ts.set t {x with h:=s'}) (eF.sub λb m=>m.1) ?_;have e5:Q8 H t k xs = {H with bR:=H.bR.set t {g with bQ:=g.bQ++[(k,xs)]}}:=by
  unfold Q8 Hw.dV
  congr 1
  exact Vs V
 rw[e5];refine h4.mono (λb _ m=>?_) (λb (m:Grow F U b\/X b)=>m.elim (h.oG b) (oX b)) λ(m:Grow F U _\/X _)=>m.elim h.qJ oX2;rcases m with m | (m|m|m)|m
 ·exact .inl (.inl m.1.1)
 ·exact .inl (.inl (hG b m.1).1)
 ·exact .inr m.2
 ·exact .inl (.inr O)
 ·exact .inl (.inl (hD b m).1)
end Go.Ar
namespace Go.Ar
open Go Go.Vc Go.Proofs
variable {U u u':Hp}{F B P:Rg}{L:dH}{H H':Hw}{t k n:Nat}{A:AR}{Y:Lay}{x:eJ}{g:Th}{c:cA}{l:Li}{cs:List Value}
structure HK (F:Rg) (U:Hp) (B:Rg) (u:Hp) (P:Rg) (L:dH) (H:Hw):Prop where
 h:HH u P L H
 e:Ext F U u
 p:∀b,P b->(F b/\b<U.size\/U.size<=b)/\¬B b/\b<u.size
 b:∀b,B b->U.size<=b/\b<u.size
 o:iW (λb=>U.size<=b)/\¬U.size<=1
theorem HK.start (h:HH U F L H):HK F U (λ_=>False) U (Cut F U) L H:=⟨h.cut,Ext.refl _ _,λb a=>⟨.inl ⟨a.1,a.2⟩,id,a.2⟩,λb a=>a.elim,h.mD⟩
theorem HK.box (K:HK F U B u P L H)(e:bL u u')(hz:u'.size=u.size+1):HK F U (λb=>B b\/b=u.size) u' P L H:=
 ⟨K.h.bP e,K.e.trans (bL.to e),λb a=>⟨(K.p b a).1,λd=>d.elim (K.p b a).2.1 λg=>by have:=(K.p b a).2.2;omega,by have:=(K.p b a).2.2;omega⟩,λb a=>by
  have:=K.e.1;rcases a with a|a
  ·have:=K.b b a;omega
  ·omega,K.o⟩
theorem HK.fr (K:HK F U B u P L H)(e:bL u u'):HK F U B u' P L H:=
 ⟨K.h.bP e,K.e.trans (bL.to e),λb a=>⟨(K.p b a).1,(K.p b a).2.1,by have:=(K.p b a).2.2;have:=e.1;omega⟩,λb a=>by have:=K.b b a;have:=e.1;omega,K.o⟩
theorem HK.own (K:HK F U B u P L H)(o:QR u u' n)(hn:B n):HK F U B u' P L H:=by
 have s:=K.b n hn;have r:=o.1;have e:Ext (· = n) u u':=o.ext;have j:∀b,b<u.size->P b->¬(b=n):=λb _ a m=>(K.p b a).2.1 (m▸hn);have d:iW (λb=>b=n)/\¬(1=n):=⟨K.o.1.sub λb i=>O,λi=>K.o.2 O⟩;exact⟨K.h.bT e j d.1 d.2,K.e.dS e λb (g:b=n)=>.inr O,λb a=>⟨(K.p b a).1,(K.p b a).2.1,by have:=(K.p b a).2.2;omega⟩,λb a=>by have:=K.b b a;omega,K.o⟩
theorem HK.cY (K:HK F U B u P L H)(e:Ext P u u')(hb:bZ u n cs)(hn:B n):bZ u' n cs:=e.bW hb λa=>(K.p n a).2.1 hn
theorem HK.sX (K:HK F U B u P L H){Q:Rg}{L':dH}(e:Ext P u u')(h:HH u' Q L' H')(hq:∀b,b<u'.size->Q b->P b\/u.size<=b\/(F b/\b<U.size\/U.size<=b)/\¬B b):HK F U B u' (Cut Q u') L' H':=by
 have g:=e.1;have i:=K.e.1;refine⟨h.cut,K.e.dS e λb a=>(K.p b a).1.imp (λh=>h.1) id,λb a=>⟨?_,λd=>?_,a.2⟩,λb a=>by have:=K.b b a;omega,K.o⟩
 ·rcases hq b a.2 a.1 with h1|h1|h1
  ·exact(K.p b h1).1
  ·exact .inr O
  ·exact h1.1
 ·rcases hq b a.2 a.1 with h1|h1|h1
  ·exact(K.p b h1).2.1 d
  ·have:=K.b b d;omega
  ·exact h1.2 d
theorem HK.to (K:HK F U B u P L H){Q:Rg}{L':dH}(e:Ext P u u')(h:HH u' Q L' H')(hq:∀b,b<u'.size->Q b->P b\/u.size<=b):HK F U B u' (Cut Q u') L' H':=K.sX e h λb a d=>(hq b a d).imp id .inl
theorem HK.fin (K:HK F U B u P L H){L0:dH}{H0:Hw}(h0:HH U F L0 H0):HH u (Grow F U) L H:=h0.grown K.h λb _ a=>(K.p b a).1.imp (λh=>h.1) id
def Fr (A' A:AR):Prop:=A'.tb=A.tb/\A'.room=A.room/\A'.cO=A.cO
theorem Fr.cM {A' A:AR}(h:Fr A' A)(Y:Lay):Go.Ar.cM A' Y=Go.Ar.cM A Y:=by
 funext k;unfold Go.Ar.cM;rw[h.1,h.2.1,h.2.2]
theorem Iq (A:AR)(k m:Int):Fr (YM A k m) A:=by
 unfold YM;split<;>exact⟨rfl,rfl,rfl⟩
theorem EZ (A:AR)(k:Int)(xs:List Int):Fr (ZN A k xs) A:=⟨(UC A k xs).1,(UC A k xs).2.1,(UC A k xs).2.2.1⟩
theorem Ez (A:AR)(sp:Sp)(m a no:Nat):Fr (dA A sp m a no).2.1 A:=⟨(Gk A sp m a no).1,(Gk A sp m a no).2.2.2.1,(Gk A sp m a no).2.2.1⟩
theorem FL (A:AR)(x:Int):Fr (QT A x) A:=by
 unfold QT;split<;>exact⟨rfl,rfl,rfl⟩
theorem IP (A:AR)(sp:Sp)(k:Int):Fr (cN A sp k).1 A:=by
 unfold cN;split
 ·split
  ·rename_i c ss h1 h2;have h:=Ez A sp c.aF 1 (k.toNat+1);generalize dA A sp c.aF 1 (k.toNat+1)=r at h;obtain⟨o,A',a⟩:=r;cases o with
   | none=>exact h
   | some x=>
    simp only;split<;>exact h
  ·exact⟨rfl,rfl,rfl⟩
 ·exact⟨rfl,rfl,rfl⟩
theorem Dz (A:AR)(sp:Sp)(m a:Int):Fr (cC A sp m a).1 A:=by
 unfold cC;split
 ·have h:=Ez A sp m.toNat a.toNat 41;generalize dA A sp m.toNat a.toNat 41=r at h;obtain⟨o,A',b⟩:=r;cases o<;>exact h
 ·exact⟨rfl,rfl,rfl⟩
theorem JP (A:AR)(k:Int):(ZQ A k).tb=A.tb:=by unfold ZQ;split<;>rfl
theorem P9 (A:AR)(k:Int)(xs:List Int):(Ks A k xs).tb=A.tb:=by unfold Ks;split<;>rfl
theorem HH.mI (h:HH U F L H)(hk:H.bY[k]?=some A)(hy:L.ys[k]?=some Y):∃G:Rg,(∀b,G b->F b)/\dI U G Y A (cM A Y)/\∀(σ':Hp) (A':AR) (Q:Rg),A'.tb=A.tb->Ext G U σ'->(∀b,Q b->G b\/U.size<=b)->dI σ' (λb=>Grow G U b/\¬Q b) Y A' (cM A' Y) →
 Ext F U σ'/\HH σ' (λb=>Grow F U b/\¬Q b) L (H.cF k A'):=by
 obtain⟨Y',G,d,_,j,u,g⟩:=h.wX hk;rw[hy]at d;cases d;refine⟨G,j,u,λσ' A' Q i e p m=>?_⟩;obtain⟨e1,s⟩:=g σ' A' _ i e (λb a=>a.1) m;refine⟨e1,s.mono (λb _ a=>?_) (h.oG.sub λb a=>a.1) λa=>h.qJ a.1⟩;rcases a with a|a
 ·exact⟨.inl a.1,λr=>by
   rcases p b r with h2|h2
   ·exact a.2.2 h2
   ·have:=a.2.1;omega⟩
 ·exact⟨a.1.imp (j b) id,a.2⟩
theorem dI.xK {T:Nat->Hp->Rg->Prop}{G Q:Rg}(h:dI U G Y A T)(hq:∀b,¬Q b):dI U (λb=>G b/\¬Q b) Y A T:=h.mono λb _ a=>⟨a,hq b⟩
theorem HH.mw (h:HH U F L H)(hk:H.bY[k]?=some A)(hy:L.ys[k]?=some Y):∃G:Rg,(∀b,G b->F b)/\dI U G Y A (cM A Y)/\∀(σ':Hp) (A':AR),A'.tb=A.tb->Ext G U σ'->dI σ' (Grow G U) Y A' (cM A' Y) →
 Ext F U σ'/\HH σ' (Grow F U) L (H.cF k A'):=by
 obtain⟨G,m,j,a⟩:=h.mI hk hy;refine⟨G,m,j,λσ' A' d e i=>?_⟩;obtain⟨e1,p⟩:=a σ' A' (λ_=>False) d e (λb g=>g.elim) (i.xK λ_=>id);exact⟨e1,p.mono (λb _ g=>g.1) h.oG h.qJ⟩
theorem GV (h:HH U F L H)(hk:H.bY[k]?=some A)(hy:L.ys[k]?=some Y)(c:Int){R:Sl->Int->Hp->Prop}
 (hR:∀s σ' (Q:Rg),Ext F U σ'->(∀b,Q b->F b)->cV s 1 (WD (YI A c)) σ' Q->s.len<=s.cap->HH σ' (λb=>Grow F U b/\¬Q b) L (H.cF k (ZQ A c))->R s (Qi A c) σ') :
 WQ.c (aW Y.p) c U R:=by
 obtain⟨G,r,m,d⟩:=h.mI hk hy;refine GT m c λs σ' e i u g j=>?_;obtain⟨e1,w⟩:=d σ' (ZQ A c) (kM s) (JP A c) e (λb a=>.inl (i b a)) (j.mono λb _ a=>⟨.inl a.1,a.2⟩);exact hR s σ' (kM s) e1 (λb a=>r b (i b a)) u g w
theorem Mu (h:HH U F L H)(hk:H.bY[k]?=some A)(hy:L.ys[k]?=some Y)(c m:Int){R:Sl->Int->Hp->Prop}
 (hR:∀s σ' (Q:Rg),Ext F U σ'->(∀b,Q b->U.size<=b)->bS s 1 (ints (Yt A c m)) σ' Q->HH σ' (λb=>Grow F U b/\¬Q b) L (H.cF k (YM A c m))->R s (QV A c m) σ') :
 WW.c (aW Y.p) c m U R:=by
 obtain⟨G,w,j,d⟩:=h.mI hk hy;refine S6 j c m λs σ' e r i=>?_;have g:cM (YM A c m) Y=cM A Y:=(Iq A c m).cM Y;obtain⟨e1,u⟩:=d σ' (YM A c m) (λb=>U.size<=b) (Iq A c m).1 e (λb a=>.inr a) (by rw[g];exact i.mono λb _ a=>⟨.inl a.1,by have:=a.2;omega⟩);exact hR s σ' _ e1 (λb a=>a) r u
theorem Me (h:HH U F L H)(hk:H.bY[k]?=some A)(hy:L.ys[k]?=some Y)(c:Int){sl:Sl}{xs:List Int}{X:Rg}(hs:cV sl 1 (WD xs) U X)(hi:∀x∈xs,iH x){R:Bool->Int->Hp->Prop}
 (hR:∀σ',Ext F U σ'->HH σ' (Grow F U) L (H.cF k (Ks A c xs))->R (VD A c xs) (Hm A c xs) σ'):W7.c (aW Y.p) c sl U R:=by
 obtain⟨G,i,d,a⟩:=h.mw hk hy;refine T1 d c hs hi λσ' e b=>?_;obtain⟨e1,g⟩:=a σ' _ (P9 A c xs) e b;exact hR σ' e1 g
theorem Ts (h:HH U F L H)(hk:H.bY[k]?=some A)(hy:L.ys[k]?=some Y)(c:Int){sl:Sl}{xs:List Int}{X:Rg}(hs:cV sl 1 (WD xs) U X)(hX:∀b,b<U.size->X b->¬F b)(hi:∀x∈xs,iH x)(hl:xs.length<=1000000)(hcap:sl.len<=sl.cap){R:aN}
 (hR:∀σ',Ext F U σ'->HH σ' (Grow F U) L (H.cF k (ZN A c xs))->R (Kd A c xs) σ'):Xa.c (aW Y.p) c sl U R:=by
 obtain⟨G,i,s,a⟩:=h.mw hk hy;refine Ny s c hi hl hcap (.inl ⟨X,hs,λb r j m=>hX b r j (i b m)⟩) λσ' e g=>?_;have d:cM (ZN A c xs) Y=cM A Y:=(EZ A c xs).cM Y;obtain⟨e1,u⟩:=a σ' _ (EZ A c xs).1 e (by rw[d];exact g);exact hR σ' e1 u
theorem NA (h:HH U F L H)(hk:H.bY[k]?=some A)(hy:L.ys[k]?=some Y)(x:Int)(hf:∀r∈A.runs,r.1<=1000000){R:aN}
 (hR:∀σ',Ext F U σ'->HH σ' (Grow F U) L (H.cF k (QT A x))->R (Vp A x) σ'):Xb.c (aW Y.p) x U R:=by
 obtain⟨G,j,g,a⟩:=h.mw hk hy;refine MX g x hf λσ' e d=>?_;have b:cM (QT A x) Y=cM A Y:=(FL A x).cM Y;obtain⟨e1,i⟩:=a σ' _ (FL A x).1 e (by rw[b];exact d);exact hR σ' e1 i
theorem RF (h:HH U F L H)(hk:H.bY[k]?=some A)(hy:L.ys[k]?=some Y)(c:Int){R:aN}
 (hR:∀σ',Ext F U σ'->HH σ' (Grow F U) L {H.cF k (cN A H.sp c).1 with sp:=(cN A H.sp c).2}->R (Vl A H.sp c) σ'):Ye.c (aW Y.p) c U R:=by
 obtain⟨Y',G,D,a,_,j,b⟩:=h.oH hk;rw[hy]at a;cases a;refine NZ j c λσ' G' D' i e g=>?_;have d:cM (cN A H.sp c).1 Y=cM A Y:=(IP A H.sp c).cM Y;obtain⟨e1,m⟩:=b σ' _ _ G' D' (IP A H.sp c).1 e i (by rw[d];exact g);exact hR σ' e1 m
theorem Mc (h:HH U F L H)(hk:H.bY[k]?=some A)(hy:L.ys[k]?=some Y)(m a:Int){R:Int->Int->Hp->Prop}
 (hR:∀σ',Ext F U σ'->HH σ' (Grow F U) L {H.cF k (cC A H.sp m a).1 with sp:=(cC A H.sp m a).2}->R ((Qh A H.sp m a:Nat):Int) (QJ A H.sp m a) σ'):Xc.c (aW Y.p) m a U R:=by
 obtain⟨Y',G,D,b,_,r,d⟩:=h.oH hk;rw[hy]at b;cases b;refine M5 r m a λσ' G' D' j e i=>?_;have g:cM (cC A H.sp m a).1 Y=cM A Y:=(Dz A H.sp m a).cM Y;obtain⟨e1,s⟩:=d σ' _ _ G' D' (Dz A H.sp m a).1 e j (by rw[g];exact i);exact hR σ' e1 s
def Hw.dT (H:Hw)(t:Nat)(g:Th)(ls:List Li):Hw:={H with bR:=H.bR.set t {g with ls:=ls}}
theorem HH.ld (h:HH U F L H)(hx:L.ts[t]?=some x)(hg:H.bR[t]?=some g):∃G:Rg,(∀b,G b->F b)/\eH U G x.c H.tb H.cf.dC g.ls/\∀(σ':Hp) (ls:List Li) (Y':gU) (Q:Rg),Y'.p=x.c.p->Ext G U σ'->(∀b,Q b->U.size<=b)->eH σ' (λb=>Grow G U b/\¬Q b) Y' H.tb H.cf.dC ls →
 Ext F U σ'/\HH σ' (λb=>Grow F U b/\¬Q b) {L with ts:=L.ts.set t {x with c:=Y'}} (H.dT t g ls):=by
 obtain⟨G,i,m,d⟩:=h.pq hx hg;refine⟨G,i,m,λσ' ls Y' Q s e r j=>?_⟩;obtain⟨e1,w⟩:=d σ' ls Y' _ s e (λb a=>a.1) j;refine⟨e1,w.mono (λb _ a=>?_) (h.oG.sub λb a=>a.1) λa=>h.qJ a.1⟩;rcases a with a|a
 ·exact⟨.inl a.1,λu=>by have:=a.2.1;have:=r b u;omega⟩
 ·exact⟨a.1.imp (i b) id,a.2⟩
theorem HH.k8 (h:HH U F L H)(hx:L.ts[t]?=some x)(hg:H.bR[t]?=some g):∃G:Rg,(∀b,G b->F b)/\eH U G x.c H.tb H.cf.dC g.ls/\∀(σ':Hp) (ls:List Li) (Y':gU),Y'.p=x.c.p->Ext G U σ'->eH σ' (Grow G U) Y' H.tb H.cf.dC ls →
 Ext F U σ'/\HH σ' (Grow F U) {L with ts:=L.ts.set t {x with c:=Y'}} (H.dT t g ls):=by
 obtain⟨G,j,m,a⟩:=h.ld hx hg;refine⟨G,j,m,λσ' ls Y' r e i=>?_⟩;obtain⟨e1,s⟩:=a σ' ls Y' (λ_=>False) r e (λb d=>d.elim) (i.mono λb _ d=>⟨d,id⟩);exact⟨e1,s.mono (λb _ d=>d.1) h.oG h.qJ⟩
theorem PJ (h:HH U F L H)(hx:L.ts[t]?=some x)(hg:H.bR[t]?=some g)(hc:H.tb[k]?=some c)(hl:g.ls[k]?=some l){R:Int->Int->Hp->Prop}
 (hR:∀σ' ts',Ext F U σ'->HH σ' (Grow F U) {L with ts:=ts'} (H.dT t g (g.ls.set k (Ky c l).2))->R ((Ky c l).1.getD 0) (if(Ky c l).1.isSome then 0 else 4) σ'):Ym.c (aW x.c.p) (k:Int) U R:=by
 obtain⟨G,m,i,a⟩:=h.k8 hx hg;refine kZ i hc hl λσ' Y' e d b=>?_;obtain⟨e1,j⟩:=a σ' _ Y' d e b;exact hR σ' _ e1 j
theorem Sz (h:HH U F L H)(hx:L.ts[t]?=some x)(hg:H.bR[t]?=some g)(hc:H.tb[k]?=some c)(hl:g.ls[k]?=some l){R:Int->Int->Hp->Prop}
 (hR:∀σ' ts',Ext F U σ'->HH σ' (Grow F U) {L with ts:=ts'} H->R ((oz c l:Nat):Int) 0 σ'):Yn.c (aW x.c.p) (k:Int) U R:=by
 obtain⟨G,m,j,a⟩:=h.k8 hx hg;refine Sd j hc hl λσ' Y' e i d=>?_;obtain⟨e1,b⟩:=a σ' _ Y' i e d;have e2:H.dT t g g.ls=H:=by
  unfold Hw.dT;rw[Qz hg]
 rw[e2]at b;exact hR σ' _ e1 b
theorem NU (h:HH U F L H)(hx:L.ts[t]?=some x)(hg:H.bR[t]?=some g)(hc:H.tb[k]?=some c)(hl:g.ls[k]?=some l){sl:Sl}{xs:List Int}{X:Rg}(hs:cV sl 1 (WD xs) U X)(hX:∀q,X q->¬F q)(hfit:l.os.length+xs.length<=256){R:aN}
 (hR:∀σ' ts',Ext F U σ'->HH σ' (Grow F U) {L with ts:=ts'} (H.dT t g (g.ls.set k (eB xs.reverse l)))->R 0 σ'):Yc.c (aW x.c.p) (k:Int) sl U R:=by
 obtain⟨G,d,j,a⟩:=h.k8 hx hg;refine O2 j hc hl hs (λq m hg=>hX q m (d q hg)) hfit λσ' Y' e i b=>?_;obtain⟨e1,r⟩:=a σ' _ Y' i e b;exact hR σ' _ e1 r
theorem PR (h:HH U F L H)(hx:L.ts[t]?=some x)(hg:H.bR[t]?=some g)(hc:H.tb[k]?=some c)(hl:g.ls[k]?=some l)(y:Int){R:Sl->Int->Hp->Prop}
 (hR:∀σ' ts' s e (Q:Rg),Ext F U σ'->(∀q,Q q->U.size<=q)->bS s 1 (WD (dL c y l).1) σ' Q->HH σ' (λb=>Grow F U b/\¬Q b) {L with ts:=ts'} (H.dT t g (g.ls.set k (dL c y l).2))->R s e σ'):YP.c (aW x.c.p) (k:Int) y U R:=by
 obtain⟨G,z,u,a⟩:=h.ld hx hg;refine LW u hc hl y λσ' Y' s m Q e r _ d j i=>?_;obtain⟨e1,w⟩:=a σ' _ Y' Q r e d i;exact hR σ' _ s m Q e1 d j w
theorem Pd (h:HH U F L H)(hx:L.ts[t]?=some x)(hg:H.bR[t]?=some g){R:aO}(hR:∀σ',bL U σ'->R (decide (H.cf.dC<Ko H.tb g.ls)) σ'):Yl.c (aW x.c.p) U R:=by
 obtain⟨G,d,b,a⟩:=h.k8 hx hg;exact PY b hR
theorem Rz (hso:GM)(h:HH U F L H)(hx:L.ts[t]?=some x)(hg:H.bR[t]?=some g){R:Sl->Hp->Prop}
 (hR:∀σ' s (Q:Rg),Ext F U σ'->(∀q,Q q->U.size<=q)->iA s (Kx ZY H.tb g.ls) σ' Q->HH σ' (λb=>Grow F U b/\¬Q b) L (H.dT t g (Kr ZY H.tb g.ls))->R s σ'):XZ.c (aW x.c.p) U R:=by
 obtain⟨G,u,r,a⟩:=h.ld hx hg;refine φ hso r λσ' s Q e d j m=>?_;obtain⟨e1,i⟩:=a σ' _ x.c Q rfl e d j;rw[show L.ts.set t {x with c:=x.c}=L.ts from Qz hx]at i;exact hR σ' s Q e1 d m i
theorem MG (hso:GM)(h:HH U F L H)(hx:L.ts[t]?=some x)(hg:H.bR[t]?=some g){R:Sl->Hp->Prop}
 (hR:∀σ' s (Q:Rg),Ext F U σ'->(∀q,Q q->U.size<=q)->iA s (Kx Vk H.tb g.ls) σ' Q->HH σ' (λb=>Grow F U b/\¬Q b) L (H.dT t g (Kr Vk H.tb g.ls))->R s σ'):Xm.c (aW x.c.p) U R:=by
 obtain⟨G,u,r,a⟩:=h.ld hx hg;refine NL hso r λσ' s Q e d j m=>?_;obtain⟨e1,i⟩:=a σ' _ x.c Q rfl e d j;rw[show L.ts.set t {x with c:=x.c}=L.ts from Qz hx]at i;exact hR σ' s Q e1 d m i
def mU (S:aP)(L:dH)(tb:List cA):Prop:=∀m,S m->∃(P:Rg) (ts:List eJ) (H:Hw),HH m P {L with ts:=ts} H/\H.tb=tb
theorem mU.dF {S:aP}{tb:List cA}(hS:mU S L tb){K:Sl->Prop}(hK:K L.dF):gE S .s (Addr.add ⟨L.p,0,none⟩ 0) K:=⟨L.dF,λm a=>by obtain⟨_,_,_,h,_⟩:=hS m a;rw[add_lit,h.hd.cell];rfl,hK⟩
theorem mU.fN {S:aP}{tb:List cA}(hS:mU S L tb){K:Sl->Prop}(hK:K L.fN):gE S .s (Addr.add ⟨L.p,0,none⟩ 7) K:=⟨L.fN,λm a=>by obtain⟨_,_,_,h,_⟩:=hS m a;rw[add_lit,h.hd.cell];rfl,hK⟩
theorem mU.rA {S:aP}{tb:List cA}(hS:mU S L tb)(h:HH U F L H)(hy:L.ys[k]?=some Y){K:Option Addr->Prop}(hK:K (some ⟨Y.p,0,none⟩)):Ix L.fN.a L.fN.len (k:Int) 1 λa=>gE S .p a K:=by
 have j:(fJ (L.ys.map (·.p)))[k]?=some (.pointer (some ⟨Y.p,0,none⟩)):=by simp[fJ,hy]
 obtain⟨b,o,i,_⟩:=h.nb.cell j;have y:=(cZ.1 hy).1;have r:=h.na;have:=h.s.ys;rw[i];refine ix O O ⟨_,λm u=>?_,hK⟩;obtain⟨_,_,_,e,_⟩:=hS m u;obtain⟨x,w,d,g⟩:=e.nb.cell j;rw[i]at d;cases d;rw[add_lit,show o+(k:Int).toNat*1=o+k by omega];exact g
theorem mU.rC {S:aP}(hS:mU S L H.tb)(h:HH U F L H)(hc:H.tb[k]?=some c){K:Int->Prop}(hK:K (c.size:Int)):Ix L.dF.a L.dF.len (k:Int) 3 λa=>gE S bO (a.add 0) K:=by
 have j:(gF H.tb)[3*k+0]?=some (.int .i64 (c.size:Int)):=(GY hc).1;obtain⟨b,o,r,_⟩:=h.jC.cell j;have y:=(cZ.1 hc).1;have s:=h.oM;rw[r];refine ix O O ⟨_,λm u=>?_,hK⟩;obtain⟨_,_,_,e,p⟩:=hS m u;rw[←p]at j;obtain⟨x,w,d,g⟩:=e.jC.cell j;have d:L.dF.a=_:=d;rw[r]at d;cases d;rw[add_lit,add_lit,show o+(k:Int).toNat*3+0=o+(3*k+0) by omega];exact g
end Go.Ar
namespace Go.Ar
open Go Go.Vc Go.Proofs
variable {U u u':Hp}{F B P Q:Rg}{L:dH}{H H':Hw}{t k n pb:Nat}{A:AR}{Y:Lay}{x:eJ}{g:Th}{c:cA}{l:Li}{cs:List Value}{parts:List (List Int)}{xs:List Int}
theorem HK.C2 (K:HK F U B u P L H)(e:Ext B u u'){B':Rg}(hB:∀b,B' b->B b\/u.size<=b/\b<u'.size):HK F U B' u' P L H:=by
 have r:=e.1;have j:=K.e.1;have i:iW B/\¬B 1:=⟨K.o.1.sub λb g=>(K.b b g).1,λg=>K.o.2 (K.b _ g).1⟩;refine⟨K.h.bT e (λb _ a d=>(K.p b a).2.1 d) i.1 i.2,K.e.dS e λb m=>.inr (K.b b m).1,λb a=>⟨(K.p b a).1,λg=>?_,by have:=(K.p b a).2.2;omega⟩,λb a=>?_,K.o⟩
 ·rcases hB b g with d|d
  ·exact(K.p b a).2.1 d
  ·have:=(K.p b a).2.2;omega
 ·rcases hB b a with d|d
  ·have:=K.b b d;omega
  ·omega
def sV (s:Sl):Value:=.slice s.a s.len s.cap
def mn (pb:Nat)(parts:List (List Int)):Hp->Rg->Prop:=λu Q=>∃(ps:List Sl) (Qs:Nat->Rg),ps.length=parts.length/\Q pb/\bZ u pb (ps.map sV)/\(∀j b,Qs j b->Q b/\b≠pb)/\(∀j j' b,Qs j b->Qs j' b->j=j') ∧
 ∀j s xs,ps[j]?=some s->parts[j]?=some xs->dK s 1 (WD xs) u (Qs j)
theorem mn.loc (pb:Nat)(parts:List (List Int)):dM (mn pb parts):=by
 rintro U H F G ⟨z,Qs,B,E,r,i,C,w⟩ D g;have m:=g pb r.lt E;obtain⟨e,u⟩:=r;refine⟨z,λj b=>Qs j b/\b<U.size,B,m.1,⟨e,m.2.trans u⟩,λj b d=>⟨(g b d.2 (i j b d.1).1).1,(i j b d.1).2⟩,λj x b a A=>C j x b a.1 A.1,λj s y a b=>(dK.loc _ _ _) _ _ _ _ (w j s y a b) D λb d p=>⟨⟨p,d⟩,(g b d (i j b p).1).2⟩⟩
theorem mn.add (h:mn pb parts u Q){a m e1 e2:Nat}(hm:m=parts.length)(ha:parts[a]?=some xs)(y:Int)(hl:xs.length<=1000000){K:aP}(hK:∀u',Ext Q u u'->mn pb (parts.set a (xs++[y])) u' (Grow Q u)->K u') :
 Ix (some ⟨pb,0,none⟩) m (a:Int) 1 λa1=>ju a1 u λt35=>Nw (.cells #[.int .i64 y] e1 (0,0)) u λn37 v4=>App t35 1 8 e2 [.int .i64 0] ⟨some n37,1,1⟩ v4 λt38 v5=>Ix (some ⟨pb,0,none⟩) m (a:Int) 1 λa39=>dU a39 (.slice t38.a t38.len t38.cap) v5 λv6=>K v6:=by
 obtain⟨B,Qs,h1,R,L,A,S,N⟩:=h;have M:=(cZ.1 ha).1;have p:B[a]?=some (B[a]' O):=cX _;generalize (B[a]' O)=s at p;have i:=N a s xs p ha;have Z:s.len=xs.length:=by have:=i.1;simp[WD]at this;omega
 refine ix O O ?_;rw[add_lit,show 0+(a:Int).toNat*1=a by omega];refine L.uR (a:=s.a) (n:=s.len) (c:=s.cap) (by simp[p,sV]) ?_;refine nw (cs:=[.int .i64 y]) λv4 hz e d=>?_;have z:=(dK.loc _ _ _).bP ((dK.loc _ _ _).cut i) e;have G:=e.bW L id;refine z.app (x:=⟨some ⟨u.size,0,none⟩,1,1⟩) (ys:=[.int .i64 y]) rfl rfl ?_ (by simp[dR]) ?_ ?_ ng λY v5 W C H=>?_
 ·intro j w hw;rw[add_lit,zH,d.cell];exact hw
 ·simp only;omega
 ·simp only;omega
 have hz5:=C.1;have J:bZ v5 pb (B.map sV):=C.bW G λr=>(A a pb r.1).2 rfl;refine ix O O ?_;rw[add_lit,show 0+(a:Int).toNat*1=a by omega];refine J.s0 aE λu' P g=>?_;have U:=P.1;have F:Ext (· = pb) v5 u':=P.ext;have eQ:Ext Q u u':=((bL.to e).trans (C.sub λb d=>(A a b d.1).1)).trans (F.sub λb d=>by rw[d];exact R);have hpb:=L.lt;refine hK u' eQ ⟨B.set a Y,λj b=>Qs j b/\b<u.size\/j=a/\v4.size<=b/\b<v5.size,by simp[h1],.inl R,?_,λj b d=>?_,λj V b d g=>?_,λj s2 ys E D=>?_⟩
 ·rw[uD];exact g
 ·rcases d with d|d
  ·exact⟨.inl (A j b d.1).1,(A j b d.1).2⟩
  ·exact⟨.inr O,O⟩
 ·rcases d with d|d<;>rcases g with g|g
  ·exact S j V b d.1 g.1
  ·omega
  ·omega
  ·omega
 ·by_cases hja:j=a
  ·subst hja;rw[zN O]at E;rw[zN M]at D;cases E;cases D;have:=(dK.loc _ _ _).bT ((dK.loc _ _ _).cut H) F λb _ d r=>by
    rcases d.1 with h7|h7
    ·exact(A j b h7.1).2 r
    ·omega
   have X:WD (xs++[y])=WD xs++[.int .i64 y]:=by simp[WD]
   rw[X];refine(dK.loc _ _ _).mono this λb _ d=>?_;rcases d.1 with h7|h7
   ·exact .inl h7
   ·exact .inr ⟨rfl,h7,d.2⟩
  ·rw[zg (Ne.symm hja)]at E D;have:=(dK.loc _ _ _).cut (N j s2 ys E D);have:=(dK.loc _ _ _).bT ((dK.loc _ _ _).bT ((dK.loc _ _ _).bP this e) C λb _ d r=>hja (S j a b d.1 r.1)) F λb _ d r=>(A j b d.1).2 r;exact(dK.loc _ _ _).mono this λb _ d=>.inl d
theorem mn.get (h:mn pb parts u Q){a m:Nat}(hm:m=parts.length)(ha:parts[a]?=some xs){K:Sl->Prop}(hK:∀s,dK s 1 (WD xs) u Q->s.len=xs.length->K s):Ix (some ⟨pb,0,none⟩) m (a:Int) 1 λa1=>ju a1 u K:=by
 obtain⟨g,Qs,z,x,p,i,y,j⟩:=h;have r:=(cZ.1 ha).1;have e:g[a]?=some (g[a]' O):=cX _;generalize (g[a]' O)=s at e;have d:=j a s xs e ha;refine ix O O ?_;rw[add_lit,show 0+(a:Int).toNat*1=a by omega];refine p.uR (a:=s.a) (n:=s.len) (c:=s.cap) (by simp[e,sV]) (hK s ((dK.loc _ _ _).mono d λb _ w=>(i a b w).1) ?_);have:=d.1;simp[WD]at this;omega
theorem CN {bY:List AR}{x:Int}(h:0<=X9 bY x):(X9 bY x).toNat<bY.length/\X9 bY x=((X9 bY x).toNat:Int):=by
 refine⟨?_,O⟩;unfold X9 at *;split at h
 ·omega
 ·rename_i hx;rw[zB hx];split at h
  ·rename_i i hi;have:=(List.findIdx?_eq_some_iff_findIdx_eq.1 hi).1;simp only[dD];exact this
  ·omega
theorem LD {bY:List AR}{x:Int}{xs:List Int}(h:0<=X9 bY x):((List.range bY.length).map (ZX bY xs)).set (X9 bY x).toNat (ZX bY xs (X9 bY x).toNat++[x])=(List.range bY.length).map (ZX bY (xs++[x])):=by
 have a:=CN h;apply zo;intro j;by_cases hj:j<bY.length
 ·by_cases e:(X9 bY x).toNat=j
  ·subst e;rw[zN (by simpa using hj)];simp only[za,nt hj,ze,ZX,xk]
   congr 2
   rw[vW (by rw[←a.2];simp)];rfl
  ·rw[zg e];simp only[za,nt hj,ze,ZX,xk];have:List.filter (λy=>X9 bY y==(j:Int)) [x]=[]:=by
    rw[wN (by simp only[zT];omega)];rfl
   rw[this,lC]
 ·rw[zW aE,zW aE]
theorem KH {K:aO}{body:(Bool->Hp->Prop)->Prop}(P:aO)(h1:∀r w,P r w->K r w)(h2:∀J:Bool->Hp->Prop,(∀r w,P r w->J r w)->body J):bV K body:=bV.intro (h2 K h1)
theorem yF {K:eL [.b]}{body:eL [.b]->Prop}(P:aO)(h1:∀r w,P r w->K r w)(h2:∀J:eL [.b],(∀r w,P r w->J r w)->body J):Jn [.b] K body:=Jn.intro (h2 K h1)
theorem ub {K:eL []}{body:eL []->Prop}(P:aP)(h1:∀w,P w->K w)(h2:∀J:eL [],(∀w,P w->J w)->body J):Jn [] K body:=Jn.intro (h2 K h1)
theorem VA {H:Hw}{k:Nat}{part:Nat->List Int}(j:Nat):Vy H k part (List.range (j+1))=(match (Vy H k part (List.range j)).bY[j]? with
 | some A=>if part j=[]then Vy H k part (List.range j)else(Vy H k part (List.range j)).cF j (ZN A (k:Int) (part j))
 | none=>Vy H k part (List.range j)):=by
 unfold Vy;rw[pZ,vt];rfl
theorem RN {H:Hw}{k:Nat}{part:Nat->List Int}(j:Nat):(Vy H k part (List.range j)).bY.length=H.bY.length:=by
 induction j with
 | zero=>rfl
 | succ j ih=>
  rw[VA];split
  ·split
   ·exact ih
   ·simp[Hw.cF,ih]
  ·exact ih
theorem Rx {H:Hw}{k:Nat}{part:Nat->List Int}(j:Nat):(Vy H k part (List.range j)).bR=H.bR:=by
 induction j with
 | zero=>rfl
 | succ j ih=>
  rw[VA];split
  ·split<;>exact ih
  ·exact ih
theorem AG (H:Hw)(own k:Nat)(xs:List Int):(Gp H own k xs).bR=H.bR:=by
 unfold Gp;split
 ·split
  ·rfl
  ·rw[Rx];split<;>rfl
 ·rfl
def Bs (F:Rg)(U:Hp)(L:dH)(H:Hw)(pb:Nat)(parts:List (List Int))(cs:List Value)(w:Hp):Prop:=∃Q P:Rg,HK F U (λb=>b=U.size\/Q b) w P L H/\mn pb parts w Q/\bZ w U.size cs/\∀b,Q b->b≠U.size
theorem Nm (h:HH U F L H){own:Nat}(ho:own<H.bY.length)(k:Nat){sl:Sl}{xs:List Int}{X:Rg}(hs:cV sl 1 (WD xs) U X)(hX:∀b,b<U.size->X b->¬F b)(hcap:sl.len<=sl.cap)(hx:∀x∈xs,iH x/\0<=X9 H.bY x)(hl:xs.length<=1000000){R:aP}
 (hR:∀σ',Ext F U σ'->HH σ' (Grow F U) L (Gp H own k xs)->R σ'):ZA.c (aW L.p) (own:Int) (k:Int) sl U R:=by
 refine ZA.o ?_;unfold ZA.v;have hsl:sl.len=xs.length:=by have:=hs.1;simp[WD]at this;omega
 have ha2:=h.s.a2;have hal:=h.na;have hs1:∀u,Ext F U u->cV sl 1 (WD xs) u (λb=>X b/\b<U.size):=λu eu=>aH.bT (aH.cut hs) eu λb _ hx hf=>hX b hx.2 hx.1 hf;refine nw (cs:=[.int .i64 (k:Int),.slice sl.a sl.len sl.cap]) λv hz e d=>?_;have K1:=(HK.start h).box e hz;refine aG (K1.h.hd.rS rfl ?_);simp only;refine mk (n:=L.fN.len) O O λv1 hz1 e1 hb1=>?_;have K2:=K1.box e1 hz1;have hb2:=e1.bW d id;have S:mn v.size ((List.range H.bY.length).map (ZX H.bY [])) v1 (λb=>b=v.size):=by
  refine⟨List.replicate H.bY.length ⟨none,0,0⟩,λ_ _=>False,by simp,rfl,?_,λj b d=>d.elim,λj j' b d=>d.elim,λj s ys g h2=>?_⟩
  ·have:(List.replicate L.fN.len [Value.slice none 0 0]).flatten=(List.replicate H.bY.length (⟨none,0,0⟩:Sl)).map sV:=by
    rw[hal];simp[sV]
   rw[←this];exact hb1
  ·simp only[za,nR]at h2;obtain⟨a,_,rfl⟩:=h2;simp only[mR]at g;split at g
   ·cases g;exact dK.nil _ _ _ _
   ·cases g
 have hpl:∀ys:List Int,L.fN.len=((List.range H.bY.length).map (ZX H.bY ys)).length:=λys=>by simp[hal]
 refine hb2.rS rfl ?_;refine Qg (a:=bO) (λ(z:Int) w=>∃i:Nat,z=(i:Int)/\i<=xs.length/\Bs F U L H v.size ((List.range H.bY.length).map (ZX H.bY (xs.take i))) [.int .i64 (k:Int),.slice sl.a sl.len sl.cap] w) (λz _=>xs.length-z.toNat)
  ⟨0,rfl,O,λb=>b=v.size,_,⟨K2.h,K2.e,λb d=>⟨(K2.p b d).1,λhx=>(K2.p b d).2.1 (hx.imp .inr id),(K2.p b d).2.2⟩,λb d=>K2.b b (d.imp .inr id),K2.o⟩,S,hb2,λb d=>O⟩ ?_
 rintro z w ⟨i,rfl,hi,Q,P,K,S,C,hQ⟩;refine cQ (λG=>?_) λhge=>?_
 ·simp only at G;have hi':i<xs.length:=by omega
  have Z:xs[i]?=some xs[i]:=cX hi';generalize xs[i]=y at Z;have hy:=hx y (zG Z);refine(hs1 w K.e).mi Z (CZ K.h y hy.1 λw1 e1=>?_);have G:=CN hy.2;rw[G.2];have hP1:mn v.size _ w1 (λb=>Q b/\b<w.size):=(mn.loc _ _).bP ((mn.loc _ _).cut S) e1;have hpart:((List.range H.bY.length).map (ZX H.bY (xs.take i)))[(X9 H.bY y).toNat]?=some (ZX H.bY (xs.take i) (X9 H.bY y).toNat):=by
   simp only[za,nt G.1,ze]
  have hpl1:(ZX H.bY (xs.take i) (X9 H.bY y).toNat).length<=1000000:=by
   have:=pd (λx=>X9 H.bY x==(((X9 H.bY y).toNat:Nat):Int)) (xs.take i);simp only[ZX];rw[zY]at this;omega
  refine hP1.add (hpl _) hpart y hpl1 λw2 e2 hP2=>?_;rw[LD hy.2]at hP2;have ht:xs.take i++[y]=xs.take (i+1):=by rw[ko,Z];rfl
  rw[ht]at hP2;have hz1:=e1.1;have hz2:=e2.1;refine cS (m:=i+1) O O ⟨⟨i+1,rfl,O,λb=>(Q b/\b<w.size)\/w1.size<=b/\b<w2.size,P,(K.fr e1).C2 (e2.sub λb d=>.inr d.1) λb d=>?_,(mn.loc _ _).mono hP2 λb d W=>?_,?_,λb d=>?_⟩,O⟩
  ·rcases d with d|d|d
   ·exact .inl (.inl d)
   ·exact .inl (.inr d.1)
   ·exact .inr d
  ·rcases W with W|W
   ·exact .inl W
   ·exact .inr ⟨W,d⟩
  ·exact e2.bW (e1.bW C id) λhx=>hQ _ hx.1 rfl
  ·have:=(K.b U.size (.inl rfl)).2;rcases d with d|d
   ·exact hQ b d.1
   ·omega
 ·have hii:i=xs.length:=by simp only at hge;omega
  subst hii;rw[l0]at S;obtain⟨A,hA⟩:∃A,H.bY[own]?=some A:=⟨_,cX ho⟩;obtain⟨Y,hY,_,_⟩:=h.ar hA;have D:Gp H own k xs=(if(ZX H.bY xs own).length=xs.length/\VD A (k:Int) xs=true then H.cF own (Ks A (k:Int) xs)
   else Vy (if(ZX H.bY xs own).length=xs.length then H.cF own (Ks A (k:Int) xs)else H) k (ZX H.bY xs) (List.range H.bY.length)):=by
   unfold Gp;rw[hA]
  have hown:((List.range H.bY.length).map (ZX H.bY xs))[own]?=some (ZX H.bY xs own):=by
   simp only[za,nt ho,ze]
  refine ub (λw=>¬((ZX H.bY xs own).length=xs.length/\VD A (k:Int) xs=true)/\Bs F U L (if(ZX H.bY xs own).length=xs.length then H.cF own (Ks A (k:Int) xs)else H) v.size ((List.range H.bY.length).map (ZX H.bY xs)) [.int .i64 (k:Int),.slice sl.a sl.len sl.cap] w) (λw hw=>?_) λJ hJ=>?_
  ·obtain⟨hno,hw⟩:=hw;rw[zB hno]at D;generalize hH1:(if(ZX H.bY xs own).length=xs.length then H.cF own (Ks A (k:Int) xs)else H)=H1 at hw D
   have hH1l:H1.bY.length=H.bY.length:=by
    rw[←hH1];split
    ·simp[Hw.cF]
    ·rfl
   refine Qg (a:=bO) (λ(z:Int) w=>∃j:Nat,z=(j:Int)/\j<=H.bY.length/\Bs F U L (Vy H1 k (ZX H.bY xs) (List.range j)) v.size ((List.range H.bY.length).map (ZX H.bY xs)) [.int .i64 (k:Int),.slice sl.a sl.len sl.cap] w) (λz _=>H.bY.length-z.toNat) ⟨0,rfl,O,hw⟩ ?_;rintro z w ⟨j,rfl,hj,Q,P,K,S,C,hQ⟩;refine cQ (λG=>?_) λhge=>?_
   ·simp only at G;have hj':j<H.bY.length:=by omega
    have hpj:((List.range H.bY.length).map (ZX H.bY xs))[j]?=some (ZX H.bY xs j):=by
     simp only[za,nt hj',ze]
    refine S.get (hpl _) hpj λs M N=>?_;have hfl:=RN (H:=H1) (k:=k) (part:=ZX H.bY xs) j;obtain⟨B,hB⟩:∃B,(Vy H1 k (ZX H.bY xs) (List.range j)).bY[j]?=some B:=⟨_,cX O⟩;have E:=VA (H:=H1) (k:=k) (part:=ZX H.bY xs) j;rw[hB]at E;simp only at E;refine cQ (λhpos=>?_) λhz0=>?_
    ·have V:ZX H.bY xs j≠[]:=λe=>by rw[e]at N;simp at N;omega
     rw[zB V]at E;obtain⟨Y,hY,_,_⟩:=K.h.ar hB;refine aG (K.h.hd.rS rfl (K.h.rA hY (C.rI rfl ?_)));refine Ts K.h hB hY (k:Int) (dK.fX M) (λb _ W hp=>(K.p b hp).2.1 (.inr W)) (λx hx'=>(hx x (zI.1 hx').1).1) ?_ (dK.cap M) λw1 e1 g=>?_
     ·have:=pd (λx=>X9 H.bY x==(j:Int)) xs;simp only[ZX];omega
     ·have hz1:=e1.1;rw[←E]at g;refine cS (m:=j+1) O O ⟨⟨j+1,rfl,O,Q,_,K.to e1 g λb _ d=>d,(mn.loc _ _).bT S e1 λb _ W hp=>(K.p b hp).2.1 (.inr W),K.cY e1 C (.inl rfl),hQ⟩,O⟩
    ·have V:ZX H.bY xs j=[]:=tO O;rw[zC V]at E;refine cS (m:=j+1) O O ⟨⟨j+1,rfl,O,Q,P,by rw[E];exact K,S,C,hQ⟩,O⟩
   ·have hjj:j=H.bY.length:=by simp only at hge;omega
    subst hjj;rw[D]at hR;exact hR w K.e (K.fin h)
  ·refine S.get (hpl _) hown λs M N=>C.rS rfl ?_;refine cU (λheq=>?_) λV=>?_
   ·have heq':(ZX H.bY xs own).length=xs.length:=by simp only[zT]at heq;omega
    rw[zC heq']at D hJ;have hS:mU (λu=>(∃P' H',HH u P' L H'/\H'.tb=H.tb)/\bZ u U.size [.int .i64 (k:Int),.slice sl.a sl.len sl.cap]) L H.tb:=λm hm=>by
     obtain⟨⟨P',H',g,h2⟩,_⟩:=hm;exact⟨P',L.ts,H',g,h2⟩
    refine⟨λu=>(∃P' H',HH u P' L H'/\H'.tb=H.tb)/\bZ u U.size [.int .i64 (k:Int),.slice sl.a sl.len sl.cap],⟨⟨_,_,K.h,rfl⟩,C⟩,aG (hS.fN (hS.rA K.h hY ?_))⟩;refine⟨(k:Int),λm hm=>by rw[add_lit,hm.2.cell];rfl,⟨sl,λm hm=>by rw[add_lit,hm.2.cell];rfl,?_⟩⟩;refine Me K.h hA hY (k:Int) (hs1 w K.e) (λx hx'=>(hx x hx').1) λw1 e1 g=>?_;have K1:=K.to e1 g λb _ d=>d;refine⟨⟨⟨_,_,g,rfl⟩,K.cY e1 C (.inl rfl)⟩,?_⟩;have fin:∀r,r=VD A (k:Int) xs->((r=true->R w1)/\(r=false->J w1)):=λr hr=>by
     refine⟨λhr1=>?_,λhr1=>hJ w1 ⟨λhx=>Bool.noConfusion ((hr1.symm.trans hr).trans hx.2),Q,_,K1,(mn.loc _ _).bT S e1 λb _ W hp=>(K.p b hp).2.1 (.inr W),K.cY e1 C (.inl rfl),hQ⟩⟩;rw[zC ⟨heq',by rw[←hr,hr1]⟩]at D;rw[D]at hR;exact hR w1 K1.e (K1.fin h)
    refine KH (λr w=>w=w1/\r=VD A (k:Int) xs) (λr w' ⟨hw,hr⟩=>?_) λJ3 hJ3=>?_
    ·subst hw;exact cU (λg=>(fin r hr).1 g) λg=>(fin r hr).2 g
    ·refine cU (λg=>hJ3 _ _ ⟨rfl,?_⟩) λg=>hJ3 _ _ ⟨rfl,g.symm⟩;have:Hm A (k:Int) xs=0:=by
      unfold VD at g;simp only[zE,zU]at g;exact g.1
     rw[this,g];rfl
   ·have hne':¬(ZX H.bY xs own).length=xs.length:=by
     simp only[mB]at V;omega
    rw[zB hne']at hJ;exact hJ w ⟨λhx=>hne' hx.1,Q,P,K,S,C,hQ⟩
theorem gM {w:Hp}(K:HK F U B w P L H)(hB:B n){p q:Int}(hb:bZ w n [.int .i64 p,.int .i64 q]){x y:Int}{K':Int->Int->Hp->Prop}(hK:∀w',HK F U B w' P L H->K' x y w') :
 dU (Addr.add ⟨n,0,none⟩ 0) (.int .i64 x) w λv3=>dU (Addr.add ⟨n,0,none⟩ 1) (.int .i64 y) v3 λv4=>gJ .i64 (Addr.add ⟨n,0,none⟩ 0) v4 λres=>gJ .i64 (Addr.add ⟨n,0,none⟩ 1) v4 λpI=>K' res pI v4:=
 hb.s1 aA λv3 o3 a=>a.s1 aA λv4 o4 b4=>b4.rI rfl (b4.rI rfl (hK v4 ((K.own o3 hB).own o4 hB)))
theorem ξ (h:HH U F L H)(ht:t<H.bR.length)(x:Int)(hx:iH x)(hr:bU H.live x=none->∀A∈H.bY,iL A)(hlen:∀g,H.bR[t]?=some g->g.bQ.length<=1000)(h0:∀b,bU H.live x=some b->0<=x){R:Value->Int->Int->Hp->Prop}
 (hR:∀σ' ts',Ext F U σ'->HH σ' (Grow F U) {L with ts:=ts'} (Hi H t x).1->R (nc (Hi H t x).2.1) (Hi H t x).2.2.1 (Hi H t x).2.2.2 σ'):ZE.c (aW L.p) (t:Int) x U R:=by
 refine ZE.o ?_;unfold ZE.v;refine nw (cs:=[.int .i64 0,.int .i64 0]) λv hz e hb=>?_;have K1:=(HK.start h).box e hz;refine aG (K1.h.hd.rM rfl ⟨_,K1.h.mW,?_⟩);refine nw (cs:=[.int .i64 0,.int .i64 0,.int .i64 0,.int .i64 0]) λv1 hz1 e1 hb1=>?_;have K2:=K1.box e1 hz1;have hbv:=e1.bW hb id;have s:U.size≠v.size:=by omega
 refine hb1.s1 aA λv2 o2 b2=>b2.s1 aA λv3 o3 b3=>b3.s1 aA λv4 o4 b4=>b4.s1 aA λv5 o5 b5=>?_;have K5:=(((K2.own o2 (.inr rfl)).own o3 (.inr rfl)).own o4 (.inr rfl)).own o5 (.inr rfl);have D:=WH o5 (WH o4 (WH o3 (WH o2 hbv s) s) s) s;have hL:L = {L with ts:=L.ts}:=rfl;cases hm:bU H.live x with
 | none=>
  have hno:Hi H t x=(H,none,0,lP H x):=by unfold Hi;rw[hm]
  rw[hno]at hR;simp only at hR;refine cD rfl ?_;refine ub (λw=>lP H x=8/\bL v5 w) (λw ⟨h8,ew⟩=>?_) λJ K=>?_
  ·rw[h8]at hR;exact gM (n:=U.size) (K5.fr ew) (.inl (.inr rfl)) (ew.bW D id) λz K'=>hR z L.ts K'.e (K'.fin h)
  ·refine CZ K5.h x hx λv9 V=>?_;have K9:=K5.fr V;have hb9:=V.bW D id;refine cQ (λZ=>?_) λhlt=>K v9 ⟨zB O,V⟩;have aa:=CN Z;obtain⟨A,hA⟩:∃A,H.bY[(X9 H.bY x).toNat]?=some A:=⟨_,cX aa.1⟩;obtain⟨Y,hY,_,hAY⟩:=K9.h.ar hA;have a:lP H x=(match U7 A x with
    | some (k,y)=>if 0<=k/\(y:Int)=x then(9:Int)else 8
    | none=>8):=by unfold lP;rw[zC Z,hA];rfl
   rw[aa.2];refine aG (K9.h.hd.rS rfl (K9.h.rA hY ?_));refine Ll hAY (hr hm A (zG hA)) x hx (λE k y d hf=>?_) λE d hf=>?_
   ·rw[hf]at a;simp only at a;rw[a]at hR K;have K10:=K9.fr d;have ab:=d.bW hb9 id;refine KH (λr w=>w=E/\r=decide (0<=k)) (λr w ⟨hw,i⟩=>?_) λJ1 C=>?_
    ·subst hw;subst i;refine KH (λr w2=>w2=w/\r=decide (0<=k/\(y:Int)=x)) (λr w2 ⟨hw,i⟩=>?_) λJ2 S=>?_
     ·subst i;rw[hw];refine cQ (λB=>?_) λB=>?_
      ·rw[zC B]at hR;exact gM (n:=U.size) K10 (.inl (.inr rfl)) ab λz K'=>hR z L.ts K'.e (K'.fin h)
      ·exact K w ⟨zB B,V.trans d⟩
     ·refine cQ (λB=>S _ _ ⟨rfl,?_⟩) λB=>S _ _ ⟨rfl,?_⟩
      ·by_cases hyx:(y:Int)=x
       ·rw[zJ (⟨B,hyx⟩:0<=k/\(y:Int)=x),zT.2 hyx]
       ·rw[zL (λhx=>hyx hx.2),mB.2 hyx]
      ·rw[zL (λhx=>B hx.1)]
    ·exact cD rfl (C _ _ ⟨rfl,rfl⟩)
   ·rw[hf]at a;simp only at a;rw[a]at K;refine KH (λr w=>w=E/\r=false) (λr w ⟨hw,i⟩=>?_) λJ1 C=>cE rfl (C _ _ ⟨rfl,rfl⟩);subst hw;subst i;exact bV.intro (cE rfl (cE rfl (K w ⟨rfl,V.trans d⟩)))
 | some b=>
  have hb0:=h0 b hm;have hfd:Hi H t x=(if b.2.2.1<0 then({H with live:=cT H.live x},some (.dE (x/256) b.2.2.2),0,0)
   else(Q8 {H with live:=cT H.live x} t b.2.2.1.toNat [x],some (.put b.2.2.1.toNat x),0,0)):=by unfold Hi;rw[hm]
  rw[hfd]at hR;have hgb:(bU H.live x).getD ((0,0,0,0):Bk)=b:=by rw[hm];rfl
  rw[hgb]at b5;refine cE rfl ?_;refine aG (K5.h.hd.rM rfl ?_);obtain⟨hF,P⟩:=K5.h.rQ;refine⟨_,K5.h.mW,λv6 o6 _ hm6=>?_⟩;obtain⟨e6,h6⟩:=P v6 _ (o6 _ rfl) hm6;have K6:=K5.to e6 h6 λb _ hb=>.inl hb;have Q:=K5.cY e6 D (.inl (.inr rfl));have m:=K5.cY e6 b5 (.inr rfl);refine m.rI rfl (cQ (λM=>?_) λhnn=>?_)
  ·have G:b.2.2.1<0:=M;rw[zC G]at hR;refine nz aB (ar (by rw[YK O];omega) (by rw[YK O];unfold iH at hx;omega) (m.rI rfl ?_));rw[YK O];exact gM (n:=U.size) K6 (.inl (.inr rfl)) Q λz K'=>hR z L.ts K'.e (K'.fin h)
  ·have W:¬b.2.2.1<0:=hnn;rw[zB W]at hR;refine m.rI rfl (nw (cs:=[.int .i64 x]) λv7 hz7 e7 hb7=>?_);have K7:=K6.box e7 hz7;have N:=e7.bW Q id;have hc7:=e7.bW m id;have X:b.2.2.1=((b.2.2.1.toNat:Nat):Int):=by omega
   have hs7:cV ⟨some ⟨v6.size,0,none⟩,1,1⟩ 1 (WD [x]) v7 (· = v6.size):=hb7.fX (o:=0) rfl rfl λj hj=>by rw[zH];rfl
   have hz6:=K6.e.1;rw[X];refine xV K7.h (t:=t) ht b.2.2.1.toNat hs7 (zD _) aA (λq _ u hp=>(K7.p q hp).2.1 (.inr u)) (K7.o.1.sub λq u=>O) (λu=>K7.o.2 O) hlen λv8 ts8 e8 h8=>?_;have K8:=(K6.fr e7).sX e8 h8 λq hql u=>by
    rcases u with u|u
    ·exact u.imp id .inl
    ·refine .inr (.inr ⟨.inr O,λhB=>?_⟩);have:=(K6.b q hB).2;omega
   have hb8:=K7.cY e8 N (.inl (.inl (.inr rfl)));have hc8:=K7.cY e8 hc7 (.inl (.inr rfl));refine hc8.rI (x:=((b.2.2.1.toNat:Nat):Int)) (by rw[←X];rfl) ?_;exact gM (n:=U.size) K8 (.inl (.inr rfl)) hb8 λz K'=>hR z ts8 K'.e (K'.fin h)
end Go.Ar
namespace Go.Ar
open Go Go.Vc Go.Proofs
variable {U u u':Hp}{F B P Q:Rg}{L:dH}{H H':Hw}{t k n pb:Nat}{A:AR}{Y:Lay}{x:eJ}{g:Th}{c:cA}{l:Li}{cs:List Value}
theorem sG {t' t:TypeId}{w:Value}{A B:Prop}(hne:t'≠t)(h:B):∃is:Bool,j8 (.iface t' w) t [] [] is/\If is A B:=⟨false,⟨rfl,.inr ⟨_,_,rfl,hne⟩⟩,cE rfl h⟩
theorem lg {t' t:TypeId}{w:Value}{A B:Int->Prop}(hne:t'≠t)(h:B 0):∃x:Int,∃is:Bool,j8 (.iface t' w) t [.int .i64 x] [.int .i64 0] is/\If is (A x) (B x):=⟨0,false,⟨rfl,.inr ⟨_,_,rfl,hne⟩⟩,cE rfl h⟩
theorem jg {t' t:TypeId}{w:Value}{A B:Int->Int->Prop}(hne:t'≠t)(h:B 0 0):∃x:Int,∃y:Int,∃is:Bool,j8 (.iface t' w) t [.int .i64 x,.int .i64 y] [.int .i64 0,.int .i64 0] is/\If is (A x y) (B x y):=⟨0,0,false,⟨rfl,.inr ⟨_,_,rfl,hne⟩⟩,cE rfl h⟩
theorem Cx {t:TypeId}{A B:Prop}(h:A):∃is:Bool,j8 (.iface t (.agg #[])) t [] [] is/\If is A B:=⟨true,rfl,cD rfl h⟩
theorem BP {t:TypeId}{a:Int}{A B:Int->Prop}(h:A a):∃x:Int,∃is:Bool,j8 (.iface t (.agg #[.int .i64 a])) t [.int .i64 x] [.int .i64 0] is/\If is (A x) (B x):=⟨a,true,rfl,cD rfl h⟩
theorem xM {t:TypeId}{a b:Int}{A B:Int->Int->Prop}(h:A a b):∃x:Int,∃y:Int,∃is:Bool,j8 (.iface t (.agg #[.int .i64 a,.int .i64 b])) t [.int .i64 x,.int .i64 y] [.int .i64 0,.int .i64 0] is/\If is (A x y) (B x y):=⟨a,b,true,rfl,cD rfl h⟩
theorem HH.tc (h:HH u P L H)(hx:L.ts[t]?=some x)(hg:H.bR[t]?=some g){b o:Nat}(ha:L.cP.a=some ⟨b,o,none⟩){d:Nat}(hd:d<3){v:Value}(hv:(jq (x,g))[d]?=some v):cell u (Addr.add ⟨b,o+3*t,none⟩ d)=some v:=by
 obtain⟨j,m,e,i⟩:=wJ h.m6 hx hg hd hv;rw[ha]at e;cases e;rw[add_lit,show o+3*t+d=o+(3*t+d) by omega];exact i
theorem HH.vR (h:HH u P L H)(hP:∀b,P b->b<u.size)(hx:L.ts[t]?=some x)(hg:H.bR[t]?=some g)(N:Rg)(hN:∀b,b<u.size->P b->¬N b)(oN:iW N)(oN2:¬N 1) :
 ∃G D:Rg,(∀b,G b->P b)/\(∀b,D b->P b)/\(∀b,G b->¬D b)/\iA x.h g.bQ u G/\(∀u1,Ext G u u1->cV L.cP 3 (gT L.ts H.bR) u1 D) ∧
 ∀(u1:Hp) (s:Sl) (bs:List Bt) (G':Rg),Ext G u u1->(∀b,G' b->G b\/N b)->iA s bs u1 G'->∀{b o:Nat} (ha:L.cP.a=some ⟨b,o,none⟩) {K:aP},
  (∀u2,Ext D u1 u2->HH u2 (λb=>P b/\¬G b\/G' b/\b<u1.size) {L with ts:=L.ts.set t {x with h:=s}} {H with bR:=H.bR.set t {g with bQ:=bs}}->K u2) →
  dU (Addr.add ⟨b,o+3*t,none⟩ 1) (.slice s.a s.len s.cap) u1 K:=by
 have V:=h.lU;have Q:=HV h.s.ts;have U:=(cZ.1 hg).1;obtain⟨G,D,z,y,hd,J,E,_,p⟩:=h.sj hx hg N hN oN oN2;have w:∀u1,Ext G u u1->bS L.cP 3 (gT L.ts H.bR) u1 D:=λu1 e=>aI.bT E e λb _ d hx=>hd b hx d;refine⟨G,D,z,y,hd,J,λu1 e=>bS.fX (w u1 e),λu1 s bs G' e i A b o ha K R=>?_⟩;have S:o=0:=by
  rcases E.2 with⟨h0,_⟩|⟨M,_,_,ha',_⟩
  ·omega
  ·rw[ha]at ha';cases ha';rfl
 subst S;have m:∀b,G' b->¬D b:=λb d hx=>by
  rcases i b d with h1|h1
  ·exact hd b h1 hx
  ·exact hN b (hP b (y b hx)) (y b hx) h1
 refine(w u1 e).st (j:=3*t+1) O (λM r=>by rw[ha]at r;cases r;rw[add_lit];congr 1;omega) λu2 e2 C=>?_;have B:=(iA.loc _ _).bT ((iA.loc _ _).cut A) e2 λb _ d hx=>m b d.1 hx;obtain⟨W,F⟩:=p u2 s bs (Cut G' u1) D ((e.sub λb d=>.inl d).trans (e2.sub λb d=>.inr d)) (λb d=>(i b d.1).imp .inl id) (λb d=>.inl (.inr d)) (λb d=>m b d.1) B C;refine R u2 e2 (F.mono (λb _ d=>?_) (λb (d:P b/\¬G b\/G' b/\b<u1.size)=>?_) λ(d:P _/\¬G _\/G' _/\_<u1.size)=>?_)
 ·rcases d with d|d|d
  ·exact .inl ⟨d.1,λhx=>d.2.2 (.inl hx)⟩
  ·exact .inr d
  ·exact .inl ⟨y b d,λhx=>hd b hx d⟩
 ·rcases d with d|d
  ·exact h.o b d.1
  ·exact(i b d.1).elim (λhx=>h.o b (z b hx)) (oN b)
 ·rcases d with d|d
  ·exact h.o2 d.1
  ·exact(i _ d.1).elim (λhx=>h.o2 (z _ hx)) oN2
theorem iA.mH {s:Sl}{G:Rg}{xs:List Int}{r:List Bt}(h:iA s ((k,xs)::r) u G):∃(so:Sl) (ps:List (Nat×Sl)) (D:Rg),dK s 2 (fF ((k,so)::ps)) u (λb=>G b/\¬D b)/\cV so 1 (WD xs) u (λb=>D b/\kM so b)/\so.len<=so.cap/\kv ps r u (λb=>D b/\¬kM so b)/\(∀b,D b->G b)/\uz ps/\(∀x∈r,x.2≠[])/\xs≠[]:=by
 obtain⟨ps,D,e,j,B,M,d⟩:=h;cases ps with
 | nil=>have:=j.1;simp at this
 | cons p ps=>
  obtain⟨H,so⟩:=p;obtain⟨e1,y,w⟩:=j.2 0 (H,so) (k,xs) rfl rfl;simp only at e1 y w;subst e1;have g:=sy.1 M;refine⟨so,ps,D,e,y.mh,w,⟨by have:=j.1;simpa using this,λi p x z m=>?_⟩,B,g.2,λx m=>d x (mS _ m),d _ ni⟩;obtain⟨L,E,C⟩:=j.2 (i+1) p x (by simpa using z) (by simpa using m);refine⟨L,aH.mono E.mh λb _ A=>⟨A.1,?_⟩,C⟩;rintro⟨a,h1,h2⟩;obtain⟨F,J,K⟩:=A.2;exact g.1 p (zG z) a F h1 J (h2.trans K.symm)
theorem iA.lX {s:Sl}{G:Rg}{b:Bt}{r:List Bt}(h:iA s (b::r) u G):iA ⟨if s.cap=1 then s.a else s.a.map (·.add (1*2)),s.len-1,s.cap-1⟩ r u G:=by
 have p:=h.len;obtain⟨k,A⟩:=b;obtain⟨B,i,D,d,y,x,j,g,m,e,z⟩:=h.mH;exact⟨i,D,d.from (lo:=1) (by simp at p;omega),(kv.loc _ _).mono j λb _ w=>w.1,g,m,e⟩
theorem Ex {s so:Sl}{ps:List (Nat×Sl)}{G:Rg}(h:cV s 2 (fF ((k,so)::ps)) u G){K:Addr->Prop}(hK:∀a,cell u (Addr.add a 0)=some (.int .i64 (k:Int))->cell u (Addr.add a 1)=some (.slice so.a so.len so.cap)->K a):Ix s.a s.len 0 2 K:=by
 obtain⟨b,o,i,m⟩:=h.cell (j:=0) (v:=.int .i64 (k:Int)) rfl;obtain⟨r,p,d,e⟩:=h.cell (j:=1) (v:=.slice so.a so.len so.cap) rfl;have g:=h.1;rw[Vb]at g;simp only[zV]at g;rw[i]at d;cases d;rw[i];refine ix O O ?_;rw[add_lit];exact hK _ (by rw[add_lit];exact m) (by rw[add_lit];exact e)
theorem iA.app {s s2:Sl}{G Q:Rg}{bs bs2:List Bt}{e:Nat}(h:iA s bs u G)(h2:iA s2 bs2 u Q)(hd:∀b,G b->¬Q b)(hl:bs.length+bs2.length<=1000){K:Sl->Hp->Prop}
 (hK:∀s' u',Ext G u u'->iA s' (bs++bs2) u' (λb=>G b\/Q b\/u.size<=b)->K s' u'):App s 2 32 e [.int .i64 0,.slice none 0 0] s2 u K:=by
 have l1:=h.len;have l2:=h2.len;obtain⟨M,D,w,F,W,H,A⟩:=h;obtain⟨E,D2,z,m,r,U,y⟩:=h2;by_cases h0:s2.len=0
 ·have Y:bs2=[]:=tO O;subst Y;refine w.Cc h0 (by
   have:s.len*32<=1000*32:=mb (by simp at hl;omega) O;omega) (by simp at hl;omega) λN=>hK _ u (Ext.refl _ _) ?_
  rw[lC];exact⟨M,D,(dK.loc _ _ _).mono N λb _ d=>⟨.inl d.1,d.2⟩,F,λb d=>.inl (W b d),H,A⟩
 ·have e1:(s.len+s2.len)*32<=1000*32:=mb O O;refine((dK.loc _ _ _).cut w).app (ys:=fF E) rfl (by rw[Vb];have:=m.1;omega) z.fX.rd HQ O O O λs' u' _ L N=>hK s' u' (L.sub λb d=>d.1.1) ?_;have hz:=L.1;have R:=F.1;refine⟨M++E,λb=>D b/\b<u.size\/D2 b/\b<u.size,?_,⟨by simp[F.1,m.1],λi p x B g=>?_⟩,λb d=>?_,pN.2 ⟨H,U,λp B q hq a a' V S e3=>?_⟩,λx g=>(zK.1 g).elim (A x) (y x)⟩
  ·rw[Hc];refine(dK.loc _ _ _).mono N λb _ d=>?_;rcases d with d|d
   ·exact⟨.inl d.1.1,λg=>g.elim (λg=>d.1.2 g.1) λg=>hd b d.1.1 (r b g.1)⟩
   ·exact⟨.inr (.inr d),λg=>by rcases g with g|g<;>omega⟩
  ·rcases kb i M.length with C|C
   ·rw[zd C]at B;rw[zd O]at g;obtain⟨P,Z,X⟩:=F.2 i p x B g;exact⟨P,aH.mono (aH.bT (aH.cut Z) L λb _ d g=>g.1.2 d.1) λb _ d=>.inl d,X⟩
   ·rw[zm C]at B;rw[zm O,←R]at g;obtain⟨P,Z,X⟩:=m.2 _ p x B g;exact⟨P,aH.mono (aH.bT (aH.cut Z) L λb _ d g=>hd b g.1.1 (r b d.1)) λb _ d=>.inr d,X⟩
  ·rcases d with d|d
   ·exact .inl (W b d.1)
   ·exact .inr (.inl (r b d.1))
  ·obtain⟨i,C⟩:=zO B;obtain⟨j,H⟩:=zO hq;have hil:=(cZ.1 C).1;have hjl:=(cZ.1 H).1;have hy:bs[i]?=some (bs[i]' O):=cX _;have J:bs2[j]?=some (bs2[j]'(by have:=m.1;omega)):=cX _;have b1:=(F.2 i p _ C hy).2.1.bW (by simpa[WD]using A _ (zG hy)) ⟨a,V,rfl⟩;have b2:=(m.2 j q _ H J).2.1.bW (by simpa[WD]using y _ (zG J)) ⟨a',S,rfl⟩;rw[e3]at b1;exact hd _ (W _ b1.1) (r _ b2.1)
theorem HK.wy (K:HK F U B u P L H){B':Rg}(h1:∀b,B' b->U.size<=b/\b<u.size/\¬P b):HK F U (λb=>B b\/B' b) u P L H:=
 ⟨K.h,K.e,λb a=>⟨(K.p b a).1,λg=>g.elim (K.p b a).2.1 λd=>(h1 b d).2.2 a,(K.p b a).2.2⟩,λb a=>a.elim (K.b b) λd=>⟨(h1 b d).1,(h1 b d).2.1⟩,K.o⟩
theorem ZK (hg:H.bR[t]?=some g)(f:Th->Th):H.dV t f = {H with bR:=H.bR.set t (f g)}:=by
 unfold Hw.dV;rw[Vs hg]
theorem GE (hg:H.bR[t]?=some g):H.jY t=g:=by unfold Hw.jY;rw[zQ,hg];rfl
theorem Uq (hc:H.tb[k]?=some c):H.cls k=c:=by unfold Hw.cls;rw[zQ,hc];rfl
theorem yl (hl:g.ls[k]?=some l):g.li k=l:=by unfold Th.li;rw[zQ,hl];rfl
theorem BJ (ha:H.bY[H.own t]?=some A):H.eC t=A:=by unfold Hw.eC;rw[zQ,ha];rfl
theorem j3 (h:HS L H)(t:Nat):H.own t<H.bY.length:=xf _ (by have:=h.a1;omega)
theorem HH.Dc (h:HH u P L H)(hx:L.ts[t]?=some x)(hg:H.bR[t]?=some g):g.ls.length=H.tb.length:=by
 obtain⟨G,_,a,_⟩:=h.pq hx hg;exact a.len
theorem IN (ha:H.bY[k]?=some A):H.cF k A=H:=by unfold Hw.cF;rw[Qz ha]
theorem RQ (l:List Nat):ints l=WD (l.map λ(x:Nat)=>(x:Int)):=by simp[ints,WD]
theorem AU (f:cA->Li->List Int×Li)(tb:List cA)(ls:List Li):(Kx f tb ls).length<=tb.length:=by
 unfold Kx;exact j9 (List.length_filterMap_le _ _) aA
theorem HH.qP (h:HH u P L H):H.tb.length<=40:=by
 obtain⟨x,g,b,d⟩:=h.th (t:=0) h.s.t1;obtain⟨G,_,a,_⟩:=h.pq b d;exact a.nE
theorem MQ {s:Sl}{b o:Nat}(ha:s.a=some ⟨b,o,none⟩)(hl:0<s.len){K:Addr->Prop}(hK:K ⟨b,o+0,none⟩):Ix s.a s.len 0 1 K:=by
 rw[ha];exact ix (wP _) O (by rw[add_lit];exact hK)
theorem Lp {s:Sl}{ps:List (Nat×Sl)}{G:Rg}(h:cV s 2 (fF ps) U G)(hl:s.len<=1000000){R:Sl->Hp->Prop}(hR:∀s' σ',s'.len=s.len->bL U σ'->bS s' 2 (fF ps) σ' (λb=>U.size<=b)->R s' σ'):WC.c s U R:=by
 refine WC.o ?_;unfold WC.v;exact Dk h O rfl HQ O hl hR
def vo (H:Hw)(t:Nat):Ph->Prop
 | .take k=>k<H.tb.length/\∀y l,Ky (H.cls k) ((H.jY t).li k)=(some y,l)->iH y
 | .cJ k _=>k<H.tb.length/\(Qi (H.eC t) (k:Int)=0->YI (H.eC t) (k:Int)≠[])
 | .cL _ _=>True
 | .grow _ _=>True
 | .fill=>∃k x xs r,(H.jY t).bQ=(k,x::xs)::r/\k<H.tb.length/\iH x/\((H.jY t).li k).os.length+xs.length<=256
 | .eI m=>Qh (H.eC t) H.sp (m:Int) 1<=1000000
 | .find x=>iH x/\(bU H.live x=none->∀A∈H.bY,iL A)/\∀b,bU H.live x=some b->0<=x
 | .put k _=>k<H.tb.length/\(H.jY t).bQ≠[]
 | .back=>∃k xs r,(H.jY t).bQ=(k,xs)::r/\(∀x∈xs,iH x/\0<=X9 H.bY x)/\xs.length<=1000000
 | .dE _ a=>0<=a/\a.toNat<H.bY.length/\∀A∈H.bY,∀r∈A.runs,r.1<=1000000
 | .drain=>True
def TQ (U:Hp)(F:Rg)(L:dH)(o:uk)(R:Value->Int->Int->Hp->Prop):Prop:=∀σ' ts',Ext F U σ'->HH σ' (Grow F U) {L with ts:=ts'} o.1->R (nc o.2.1) o.2.2.1 o.2.2.2 σ'
set_option maxRecDepth 8000 in
theorem JR (hso:GM)(h:HH U F L H)(ht:t<H.bR.length)(p:Ph)(hp:vo H t p)(hlen:∀g,H.bR[t]?=some g->g.bQ.length<=900){R:Value->Int->Int->Hp->Prop}(hR:TQ U F L (WJ H t p) R) :
 ZD.c (aW L.p) (t:Int) (nc (some p)) U R:=by
 refine ZD.o ?_;unfold ZD.v;have hlen':∀g,H.bR[t]?=some g->g.bQ.length<=1000:=λg hg=>by have:=hlen g hg;omega
 refine nw (cs:=[.int .i64 0,.int .i64 0]) λv hz e i=>?_;have K1:=(HK.start h).box e hz;obtain⟨x,g,E,hg⟩:=h.th ht;have hlen:=hlen g hg;have htg:=GE hg;have hol:=j3 h.s t;obtain⟨A,hA⟩:∃A,H.bY[H.own t]?=some A:=⟨_,cX hol⟩;have hAe:=BJ hA;obtain⟨Y,hY,_,_⟩:=h.ar hA;refine aG (K1.h.hd.rS rfl ?_);refine Bz K1.h.m6 K1.h.s.ts E hg (d:=0) O rfl λtb0 to0 ha _=>?_;have hS1:mU (λu=>u=v) L H.tb:=λm hm=>by cases hm;exact⟨_,L.ts,H,K1.h,rfl⟩
 refine⟨λu=>u=v,rfl,aG (hS1.fN (Er K1.h t ⟨rfl,K1.h.rA hY ⟨rfl,?_⟩⟩))⟩;refine ub (λw=>∃P ts',HK F U (λb=>False\/b=U.size) w P {L with ts:=ts'} (WJ H t p).1/\bZ w U.size [.int .i64 0,.int .i64 0]/\(WJ H t p).2=(none,0,0)) (λw ⟨P,ts',K,hbw,X⟩=>?_) λJ hJ=>?_
 ·refine gM (n:=U.size) K (.inr rfl) hbw λw' K'=>?_;have:=hR w' ts' K'.e (K'.fin h);rw[X]at this;exact this
 cases p with
 | take k=>
  obtain⟨hk,hy9⟩:k<H.tb.length/\∀y l,Ky (H.cls k) ((H.jY t).li k)=(some y,l)->iH y:=hp;obtain⟨c,hc⟩:∃c,H.tb[k]?=some c:=⟨_,cX hk⟩;have hll:=h.Dc E hg;obtain⟨l,hl⟩:∃l,g.ls[k]?=some l:=⟨_,cX (by rw[hll];exact hk)⟩;have hce:=Uq hc;have hle:=yl hl;rw[hce,htg,hle]at hy9;refine BP (nw (cs:=[.int .i64 0]) λv5 M Z N=>?_);have K5:=K1.box Z M;refine N.s0 aA λv6 o6 hb6=>?_;have K6:=K5.own o6 (.inr rfl);have C:=WH o6 (Z.bW i id) O;refine⟨λu=>u=v6,rfl,aG ⟨some ⟨x.c.p,0,none⟩,λu V=>by cases V;exact K6.h.tc E hg ha O rfl,⟨(k:Int),λu V=>by cases V;rw[add_lit,hb6.cell];rfl,?_⟩⟩⟩;refine PJ K6.h E hg hc hl λv7 ts7 W h7=>?_;have K7:=K6.to W h7 λb _ i=>i;have hb7:=K6.cY W hb6 (.inr rfl);have B:=K6.cY W C (.inl (.inr rfl));cases htk:Ky c l with
  | mk o l'=>
  rw[htk]at h7 K7;cases o with
  | some y=>
   have X:WJ H t (.take k)=(VV (H.dT t g (g.ls.set k l')) y (c.size:Int) (k:Int),none,y,0):=by
    simp only[WJ,hce,htg,hle,htk,ZK hg];rfl
   rw[X]at hR;have hS2:mU (λu=>(∃P ts H',HH u P {L with ts:=ts} H'/\H'.tb=H.tb)/\bZ u v.size [.int .i64 (k:Int)]) L H.tb:=λm hm=>hm.1;refine cD rfl ⟨λu=>(∃P ts H',HH u P {L with ts:=ts} H'/\H'.tb=H.tb)/\bZ u v.size [.int .i64 (k:Int)],⟨⟨_,_,_,K7.h,rfl⟩,hb7⟩,aG (hS2.dF ⟨(k:Int),λu V=>by rw[add_lit,V.2.cell];rfl,?_⟩)⟩;refine mU.rC (L:={L with ts:=ts7}) (H:=H.dT t g (g.ls.set k l')) hS2 K7.h hc ⟨(k:Int),λu V=>by rw[add_lit,V.2.cell];rfl,?_⟩;refine Bi K7.h y (c.size:Int) (k:Int) (hy9 y l' htk) λv8 e8 h8=>?_;have K8:=K7.to e8 h8 λb _ i=>.inl i;refine⟨⟨⟨_,_,_,h8,rfl⟩,K7.cY e8 hb7 (.inr rfl)⟩,?_⟩;exact gM (n:=U.size) K8 (.inl (.inr rfl)) (K7.cY e8 B (.inl (.inr rfl))) λw' K'=>hR w' ts7 K'.e (K'.fin h)
  | none=>
   have X:WJ H t (.take k)=(H.dT t g (g.ls.set k l'),some (.cJ k (oz c l')),0,0):=by
    simp only[WJ,hce,htg,hle,htk,ZK hg];rfl
   rw[X]at hR;have htlt:=(cZ.1 hg).1;have hklt:=(cZ.1 hl).1;have hg7:(H.dT t g (g.ls.set k l')).bR[t]?=some {g with ls:=g.ls.set k l'}:=by simp[Hw.dT,htlt]
   obtain⟨x7,g7,hx7,_⟩:=K7.h.th (t:=t) (by simp[Hw.dT,htlt]);have hl7:({g with ls:=g.ls.set k l'}:Th).ls[k]?=some l':=by simp[hklt]
   refine cE rfl ⟨λu=>u=v7,rfl,aG ⟨some ⟨x7.c.p,0,none⟩,λu V=>by cases V;exact K7.h.tc hx7 hg7 ha O rfl,⟨(k:Int),λu V=>by cases V;rw[add_lit,hb7.cell];rfl,?_⟩⟩⟩;refine Sz K7.h hx7 hg7 hc hl7 λv8 ts8 e8 h8=>?_;have K8:=K7.to e8 h8 λb _ i=>i;refine(K7.cY e8 hb7 (.inr rfl)).rI rfl ?_;exact gM (n:=U.size) K8 (.inl (.inr rfl)) (K7.cY e8 B (.inl (.inr rfl))) λw' K'=>hR w' ts8 K'.e (K'.fin h)
 | cJ k w=>
  obtain⟨hk,hne0⟩:k<H.tb.length/\(Qi (H.eC t) (k:Int)=0->YI (H.eC t) (k:Int)≠[]):=hp;rw[hAe]at hne0;obtain⟨c,hc⟩:∃c,H.tb[k]?=some c:=⟨_,cX hk⟩;have hce:=Uq hc;refine lg aB (xM (nw (cs:=[.int .i64 0,.int .i64 0]) λv5 M Z N=>?_));have K5:=K1.box Z M;refine N.s1 aA λv5b o5 b5=>b5.s1 aA λv6 o6 b6=>?_;have K6:=(K5.own o5 (.inr rfl)).own o6 (.inr rfl);have S:U.size≠v.size:=by omega
  have C:=WH o6 (WH o5 (Z.bW i id) S) S;refine ub (λu=>(∃P',HK F U (λb=>(False\/b=U.size)\/b=v.size) u P' L H)/\bZ u U.size [.int .i64 0,.int .i64 0]/\bZ u v.size [.int .i64 (k:Int),.int .i64 (w:Int)]/\WJ H t (.cJ k w)=(H,some (.cL k w),0,0)) (λu ⟨⟨P',K⟩,hbw,hbx,X⟩=>?_) λJ1 hJ1=>?_
  ·rw[X]at hR;exact hbx.rI rfl (hbx.rI rfl (gM (n:=U.size) K (.inl (.inr rfl)) hbw λw' K'=>hR w' L.ts K'.e (K'.fin h)))
  ·refine b6.rI rfl (aG (K6.h.hd.rS rfl (b6.rI rfl (tn K6.h.jC hc (d:=2) O ?_))));simp only[zB (show ¬(2=0) by omega),zB (show ¬(2=1) by omega)];refine cU (λheq=>b6.rI rfl ?_) λhne'=>hJ1 v6 ⟨⟨_,K6⟩,C,b6,?_⟩
   ·have heq':w=c.batch:=by simp only[zT]at heq;omega
    refine GV K6.h hA hY (k:Int) λs v7 Q W hQ hs7 hcap h7=>?_;have K7:=K6.to W h7 λb _ i=>i.1;have b7:=K6.cY W b6 (.inr rfl);have B:=K6.cY W C (.inl (.inr rfl));refine cU (λh0=>b7.rI rfl ?_) λhn0=>?_
    ·have h0':Qi A (k:Int)=0:=by simpa using h0
     have X:WJ H t (.cJ k w)=(Q8 (H.cF (H.own t) (ZQ A (k:Int))) t k (YI A (k:Int)),some .fill,0,0):=by
      simp only[WJ,hce,hAe,heq',h0',zR]
     rw[X]at hR;refine xV K7.h (t:=t) ht k hs7 hcap (hne0 h0') (λb _ z E=>E.1.2 z) (K6.h.o.sub hQ) (λz=>K6.h.o2 (hQ _ z)) hlen' λv8 ts8 e8 h8=>?_;have K8:=K7.sX e8 h8 λb i z=>by
      rcases z with z|z
      ·exact z.imp id .inl
      ·exact .inr (.inr ⟨(K6.p b (hQ b z)).1,(K6.p b (hQ b z)).2.1⟩)
     exact gM (n:=U.size) K8 (.inl (.inr rfl)) (K7.cY e8 B (.inl (.inr rfl))) λw' K'=>hR w' ts8 K'.e (K'.fin h)
    ·have hn0':Qi A (k:Int)≠0:=by simpa using hn0
     have hsame:ZQ A (k:Int)=A:=by unfold ZQ;rw[zB hn0']
     rw[hsame,IN hA]at K7;refine hJ1 v7 ⟨⟨_,K7⟩,B,b7,?_⟩;simp only[WJ,hce,hAe,heq',zB hn0',zR]
   ·have hne2:w≠c.batch:=λe=>by rw[e]at hne';simp at hne'
    simp only[WJ,hce,zB hne2]
 | cL k w=>
  refine lg aB (jg aB (xM (nw (cs:=[.int .i64 0,.int .i64 0]) λv5 M Z N=>?_)));have K5:=K1.box Z M;refine N.s1 aA λv5b o5 b5=>b5.s1 aA λv6 o6 b6=>?_;have K6:=(K5.own o5 (.inr rfl)).own o6 (.inr rfl);have S:U.size≠v.size:=by omega
  have C:=WH o6 (WH o5 (Z.bW i id) S) S;refine b6.rI rfl (b6.rI rfl (Mu K6.h hA hY (k:Int) (w:Int) λs v7 Q W hQ hs7 h7=>?_));have K7:=K6.to W h7 λb _ i=>i.1;have b7:=K6.cY W b6 (.inr rfl);have B:=K6.cY W C (.inl (.inr rfl));have hsl:s.len=(Yt A (k:Int) (w:Int)).length:=by have:=hs7.1;simp[ints]at this;omega
  by_cases hemp:Yt A (k:Int) (w:Int)=[]
  ·have X:WJ H t (.cL k w)=(H.cF (H.own t) (YM A (k:Int) (w:Int)),some (.grow k w),0,0):=by
    simp only[WJ,hAe,zC hemp]
   rw[X]at hR;refine fV (by rw[hsl,hemp];simp) (b7.rI rfl (b7.rI rfl ?_));exact gM (n:=U.size) K7 (.inl (.inr rfl)) B λw' K'=>hR w' L.ts K'.e (K'.fin h)
  ·have X:WJ H t (.cL k w)=(Q8 (H.cF (H.own t) (YM A (k:Int) (w:Int))) t k ((Yt A (k:Int) (w:Int)).map λ(x:Nat)=>(x:Int)),some .fill,0,0):=by
    simp only[WJ,hAe,zB hemp]
   rw[X]at hR;have hpos:=qg.2 hemp;refine lV (by rw[hsl];omega) (b7.rI rfl ?_);have hs7':=bS.fX hs7;rw[RQ]at hs7';have hz6:=K6.e.1;refine xV K7.h (t:=t) ht k hs7' (bS.py hs7) (by simpa using hemp) (λb _ z E=>E.1.2 z) (K6.o.1.sub λb i=>by have:=hQ b i;omega) (λz=>K6.o.2 (by have:=hQ _ z;omega)) hlen' λv8 ts8 e8 h8=>?_;have K8:=K7.sX e8 h8 λb i z=>by
    rcases z with z|z
    ·exact z.imp id .inl
    ·have:=hQ b z;exact .inr (.inr ⟨.inr O,λhB=>by have:=(K6.b b hB).2;omega⟩)
   exact gM (n:=U.size) K8 (.inl (.inr rfl)) (K7.cY e8 B (.inl (.inr rfl))) λw' K'=>hR w' ts8 K'.e (K'.fin h)
 | grow k w=>
  refine lg aB (jg aB (jg aB (xM (nw (cs:=[.int .i64 0,.int .i64 0]) λv5 M Z N=>?_))));have K5:=K1.box Z M;refine N.s1 aA λv5b o5 b5=>b5.s1 aA λv6 o6 b6=>?_;have K6:=(K5.own o5 (.inr rfl)).own o6 (.inr rfl);have S:U.size≠v.size:=by omega
  have C:=WH o6 (WH o5 (Z.bW i id) S) S;refine b6.rI rfl (RF K6.h hA hY (k:Int) λv7 W h7=>?_);have K7:=K6.to W h7 λb _ i=>i;have b7:=K6.cY W b6 (.inr rfl);have B:=K6.cY W C (.inl (.inr rfl));refine cU (λhn0=>?_) λh0=>?_
  ·have hn0':Vl A H.sp (k:Int)≠0:=by simpa using hn0
   have X:WJ H t (.grow k w)=({H.cF (H.own t) (cN A H.sp (k:Int)).1 with sp:=(cN A H.sp (k:Int)).2},none,0,Vl A H.sp (k:Int)):=by
    simp only[WJ,hAe,zB hn0']
   rw[X]at hR;exact gM (n:=U.size) K7 (.inl (.inr rfl)) B λw' K'=>hR w' L.ts K'.e (K'.fin h)
  ·have h0':Vl A H.sp (k:Int)=0:=by simpa using h0
   have X:WJ H t (.grow k w)=({H.cF (H.own t) (cN A H.sp (k:Int)).1 with sp:=(cN A H.sp (k:Int)).2},some (.cL k w),0,0):=by
    simp only[WJ,hAe,zC h0']
   rw[X]at hR;refine b7.rI rfl (b7.rI rfl ?_);exact gM (n:=U.size) K7 (.inl (.inr rfl)) B λw' K'=>hR w' L.ts K'.e (K'.fin h)
 | fill=>
  obtain⟨k,y,ys,r,hh,hk,hy9,hfit⟩:∃k x xs r,(H.jY t).bQ=(k,x::xs)::r/\k<H.tb.length/\iH x/\((H.jY t).li k).os.length+xs.length<=256:=hp;rw[htg]at hh hfit;obtain⟨c,hc⟩:∃c,H.tb[k]?=some c:=⟨_,cX hk⟩;have hll:=h.Dc E hg;obtain⟨l,hl⟩:∃l,g.ls[k]?=some l:=⟨_,cX (by rw[hll];exact hk)⟩;have hce:=Uq hc;have hle:=yl hl;rw[hle]at hfit;refine lg aB (jg aB (jg aB (jg aB (Cx (nw (cs:=[]) λv5 M Z N=>?_)))));have K5:=K1.box Z M;have hbv5:=Z.bW i id;obtain⟨G,D,hG,hD,hd,aa,hr,hput⟩:=K5.h.vR (λb i=>(K5.p b i).2.2) E hg (λ_=>False) (λb _ _ z=>z) (K5.o.1.sub λb i=>i.elim) (λz=>z);rw[hh]at aa;obtain⟨so,ps,Dn,hrow,hso1,hcap,hBr,hDn,hj,S,hxne⟩:=aa.mH;have hz5':=K5.e.1;have hsol:so.len=ys.length+1:=by have:=hso1.1;simp[WD]at this;omega
  refine aG (nS (K5.h.tc E hg ha (d:=1) O rfl) (Ex (dK.fX hrow) λa ha0 ha1=>nX ha0 (nS ha1 ?_)));refine nw (cs:=[.int .i64 0,.slice none 0 0]) λv43 hz43 e43 hb43=>hb43.s1 aA λv44 o44 b44=>b44.s1 aA λv45 o45 b45=>?_;have e45:bL v5 v45:=(e43.only o44 (.inr (zD _))).only o45 (.inr (zD _));have hz45:v5.size<v45.size:=b45.lt;refine aG (hput v45 ⟨none,0,0⟩ [] (λ_=>False) (bL.to e45) (λb i=>i.elim) (iA.nil _ _ _) ha λv46 e46 h46=>?_);have hz46:=e46.1;have e546:Ext _ v5 v46:=(bL.to e45).trans (e46.sub hD);have K46:=K5.to e546 h46 λb _ z=>by
   rcases z with z|z
   ·exact .inl z.1
   ·exact z.1.elim
  have hbv46:=K5.cY e546 hbv5 (.inl (.inr rfl));have b46:bZ v46 v5.size _:=e46.bW b45 λE=>by have:=(K5.p _ (hD _ E)).2.2;omega
  have K46b:=K46.wy (B':=λb=>b=v5.size) λb i=>⟨O,O,λE=>by
   subst i;rcases E.1 with h1|h1
   ·have:=(K5.p _ h1.1).2.2;omega
   ·exact h1.1⟩
  have hso46:=aH.bT (aH.bP (aH.cut hso1) e45) e46 λb _ i E=>hd b (hDn b i.1.1) E;have hXn:∀b,(Dn b/\kM so b)/\b<v5.size->¬Cut (λb=>(Cut F U b/\¬G b)\/False/\b<v45.size) v46 b:=λb i E=>by
   rcases E.1 with h1|h1
   ·exact h1.2 (hDn b i.1.1)
   ·exact h1.1
  have hg46:({H with bR:=H.bR.set t {g with bQ:=[]}}:Hw).bR[t]?=some {g with bQ:=[]}:=by simp[ht]
  have hx46:(L.ts.set t {x with h:=⟨none,0,0⟩})[t]?=some {x with h:=⟨none,0,0⟩}:=zN (cZ.1 E).1;refine aG (vd (K46b.h.tc hx46 hg46 ha (d:=0) O rfl) (b46.rI rfl (b46.rS (a:=so.a) (n:=so.len) (c:=so.cap) rfl (jj (lo:=1) (by show 1<=so.len;omega) hcap (zD _) ?_))));have hsub:=cV.sub hso46 (lo:=1) (hi:=so.len) (mx:=so.cap) O (zD _) hcap;have hsx:((WD (y::ys)).drop (1*1)).take ((so.len-1)*1)=WD ys:=by
   rw[lz (by simp[WD];omega)];rfl
  rw[hsx]at hsub;have hl46:({g with bQ:=[]}:Th).ls[k]?=some l:=hl;refine NU K46b.h hx46 hg46 hc hl46 hsub hXn hfit λv47 ts47 e47 h47=>?_;have K47:=K46b.to e47 h47 λb _ i=>i;have hso47:=aH.bT hso46 e47 λb _ i E=>hXn b i E;have b47:=K46b.cY e47 b46 (.inr rfl);have hbv47:=K46b.cY e47 hbv46 (.inl (.inl (.inr rfl)));have X:WJ H t .fill=(VV {H with bR:=H.bR.set t {g with ls:=g.ls.set k (eB ys.reverse l),bQ:=[]}} y (c.size:Int) (k:Int),none,y,0):=by
   simp only[WJ,htg,hh,ZK hg,hle,hce]
  rw[X]at hR;obtain⟨b0,o0,ha0',hc0⟩:=hso47.cell (j:=0) (v:=.int .i64 y) rfl;have hS4:mU (λu=>((∃P ts H',HH u P {L with ts:=ts} H'/\H'.tb=H.tb)/\bZ u v5.size [.int .i64 (k:Int),.slice so.a so.len so.cap])/\cell u ⟨b0,o0+0,none⟩=some (.int .i64 y)) L H.tb:=λm hm=>hm.1.1;refine⟨λu=>((∃P ts H',HH u P {L with ts:=ts} H'/\H'.tb=H.tb)/\bZ u v5.size [.int .i64 (k:Int),.slice so.a so.len so.cap])/\cell u ⟨b0,o0+0,none⟩=some (.int .i64 y),⟨⟨⟨_,_,_,K47.h,rfl⟩,b47⟩,hc0⟩,⟨so,λu V=>by rw[add_lit,V.1.2.cell];rfl,?_⟩⟩;refine MQ ha0' O ⟨y,λu V=>V.2,aG (hS4.dF ⟨(k:Int),λu V=>by rw[add_lit,V.1.2.cell];rfl,?_⟩)⟩;refine mU.rC (L:={L with ts:=ts47}) (H:=Hw.dT {H with bR:=H.bR.set t {g with bQ:=[]}} t {g with bQ:=[]} (g.ls.set k (eB ys.reverse l))) hS4 K47.h hc ⟨(k:Int),λu V=>by rw[add_lit,V.1.2.cell];rfl,?_⟩;refine Bi K47.h y (c.size:Int) (k:Int) hy9 λv48 e48 h48=>?_;have K48:=K47.to e48 h48 λb _ i=>.inl i;have hz4747:=e47.1;have hso48:=aH.bT hso47 e48 λb _ i E=>by
   rcases E.1 with h1|h1
   ·exact hXn b i h1
   ·have:=i.2;omega
  refine⟨⟨⟨⟨_,_,_,h48,rfl⟩,K47.cY e48 b47 (.inr rfl)⟩,?_⟩,?_⟩
  ·obtain⟨b1,o1,ha1',hc1⟩:=hso48.cell (j:=0) (v:=.int .i64 y) rfl;rw[ha0']at ha1';cases ha1';exact hc1
  ·have K49:=K48;simp only[Hw.dT,nC]at K49;exact gM (n:=U.size) K49 (.inl (.inl (.inr rfl))) (K47.cY e48 hbv47 (.inl (.inl (.inr rfl)))) λw' K'=>hR w' ts47 K'.e (K'.fin h)
 | eI m=>
  have hp:Qh (H.eC t) H.sp (m:Int) 1<=1000000:=hp;rw[hAe]at hp;refine lg aB (jg aB (jg aB (jg aB (sG aB (BP (nw (cs:=[.int .i64 0]) λv5 M Z N=>?_))))));have K5:=K1.box Z M;refine N.s0 aA λv6 o6 b6=>?_;have K6:=K5.own o6 (.inr rfl);have C:=WH o6 (Z.bW i id) O;refine b6.rI rfl (Mc K6.h hA hY (m:Int) 1 λv7 W h7=>?_);have K7:=K6.to W h7 λb _ i=>i;have b7:=K6.cY W b6 (.inr rfl);have B:=K6.cY W C (.inl (.inr rfl));refine cU (λhn0=>?_) λh0=>?_
  ·have hn0':QJ A H.sp (m:Int) 1≠0:=by simpa using hn0
   have X:WJ H t (.eI m)=({H.cF (H.own t) (cC A H.sp (m:Int) 1).1 with sp:=(cC A H.sp (m:Int) 1).2},none,0,QJ A H.sp (m:Int) 1):=by
    simp only[WJ,hAe,zB hn0']
   rw[X]at hR;exact gM (n:=U.size) K7 (.inl (.inr rfl)) B λw' K'=>hR w' L.ts K'.e (K'.fin h)
  ·have h0':QJ A H.sp (m:Int) 1=0:=by simpa using h0
   have hm:m<=64:=by
    unfold QJ at h0';split at h0'
    ·rename_i hpo;simp only[Kz,zE,zU]at hpo;omega
    ·omega
   have X:WJ H t (.eI m)=(VV {H.cF (H.own t) (cC A H.sp (m:Int) 1).1 with sp:=(cC A H.sp (m:Int) 1).2} ((Qh A H.sp (m:Int) 1*256:Nat):Int) ((m*256:Nat):Int) (-1),none,((Qh A H.sp (m:Int) 1*256:Nat):Int),0):=by
    simp only[WJ,hAe,zC h0']
   rw[X]at hR;refine cS (m:=Qh A H.sp (m:Int) 1*256) O O (b7.rI rfl (cS (m:=m*256) O O ?_));refine Bi K7.h _ _ _ O λv8 e8 h8=>?_;have K8:=K7.to e8 h8 λb _ i=>.inl i;exact gM (n:=U.size) K8 (.inl (.inr rfl)) (K7.cY e8 B (.inl (.inr rfl))) λw' K'=>hR w' L.ts K'.e (K'.fin h)
 | find x=>
  obtain⟨hx9,hro,hlv⟩:iH x/\(bU H.live x=none->∀A∈H.bY,iL A)/\∀b,bU H.live x=some b->0<=x:=hp;refine lg aB (jg aB (jg aB (jg aB (sG aB (lg aB (BP (nw (cs:=[.int .i64 0]) λv5 M Z N=>?_)))))));have K5:=K1.box Z M;refine N.s0 aA λv6 o6 b6=>?_;have K6:=K5.own o6 (.inr rfl);have C:=WH o6 (Z.bW i id) O;refine b6.rI rfl (ξ K6.h ht x hx9 hro hlen' hlv λv7 ts7 W h7=>?_);have K7:=K6.to W h7 λb _ i=>i;have B:=K6.cY W C (.inl (.inr rfl));exact gM (n:=U.size) K7 (.inl (.inr rfl)) B λw' K'=>hR w' ts7 K'.e (K'.fin h)
 | put k y=>
  obtain⟨hk,hne0⟩:k<H.tb.length/\(H.jY t).bQ≠[]:=hp;rw[htg]at hne0;obtain⟨c,hc⟩:∃c,H.tb[k]?=some c:=⟨_,cX hk⟩;have hll:=h.Dc E hg;obtain⟨l,hl⟩:∃l,g.ls[k]?=some l:=⟨_,cX (by rw[hll];exact hk)⟩;have hce:=Uq hc;have hle:=yl hl;refine lg aB (jg aB (jg aB (jg aB (sG aB (lg aB (lg aB (xM (nw (cs:=[.int .i64 0,.int .i64 0]) λv5 M Z N=>?_))))))));have K5:=K1.box Z M;refine N.s1 aA λv5b o5 b5=>b5.s1 aA λv6 o6 b6=>?_;have K6:=(K5.own o5 (.inr rfl)).own o6 (.inr rfl);have S:U.size≠v.size:=by omega
  have C:=WH o6 (WH o5 (Z.bW i id) S) S;generalize hgg:(if(dL c y l).1=[]then({g with ls:=g.ls.set k (dL c y l).2}:Th)else{g with ls:=g.ls.set k (dL c y l).2,bQ:=g.bQ++[(k,(dL c y l).1)]})=g2
  have hg2n:g2.bQ≠[]/\g2.bQ.length<=901:=by
   rw[←hgg];split
   ·exact⟨hne0,by simp;omega⟩
   ·exact⟨by simp,by simp;omega⟩
  refine ub (λw=>∃P ts',HK F U (λb=>(False\/b=U.size)\/b=v.size) w P {L with ts:=ts'} {H with bR:=H.bR.set t g2}/\bZ w U.size [.int .i64 0,.int .i64 0]) (λw ⟨P,ts2,K,hbw⟩=>?_) λJ2 hJ2=>?_
  ·have hg3:({H with bR:=H.bR.set t g2}:Hw).bR[t]?=some g2:=by simp[ht]
   obtain⟨x2,_,hx2,_⟩:=K.h.th (t:=t) (by simpa using ht);obtain⟨G,D,hG,hD,hd,aa,hr,hput⟩:=K.h.vR (λb i=>(K.p b i).2.2) hx2 hg3 (λ_=>False) (λb _ _ z=>z) (K.o.1.sub λb i=>i.elim) (λz=>z);have hbl:=aa.len;have hbc:=aa.cap;obtain⟨b0,r0,hbr⟩:∃b r,g2.bQ=b::r:=by
    cases hh:g2.bQ with
    | nil=>exact absurd hh hg2n.1
    | cons b r=>exact⟨b,r,rfl⟩
   have qF:g2.bQ.drop 1=r0:=by rw[hbr];rfl
   rw[hbr]at aa;have hpos:1<=x2.h.len:=by rw[hbl,hbr];simp
   refine aG (nS (K.h.tc hx2 hg3 ha (d:=1) O rfl) ?_);refine jj (lo:=1) hpos hbc (zD _) ?_;refine aG (hput w _ _ G (Ext.refl _ _) (λb i=>.inl i) aa.lX ha λw1 e1 h1=>?_);have e1':=e1.sub hD;have K1b:=K.to e1' h1 λb _ z=>by
    rcases z with z|z
    ·exact .inl z.1
    ·exact .inl (hG b z.1)
   have hbw1:=K.cY e1' hbw (.inl (.inr rfl));have K3:=K1b;simp only[nC]at K3;generalize hg3':({g2 with bQ:=r0}:Th)=g3 at K3;have hl3:g3.bQ=r0/\g3.ls=g2.ls:=by rw[←hg3'];exact⟨rfl,rfl⟩
   have hr0:r0.length<=900:=by have:=hg2n.2;rw[hbr]at this;simp at this;omega
   have hg3e:({H with bR:=H.bR.set t g3}:Hw).bR[t]?=some g3:=by simp[ht]
   have hpe:iz H t k y=(if H.cf.dC<Ko H.tb g3.ls then{H with bR:=H.bR.set t {g3 with ls:=Kr Vk H.tb g3.ls,bQ:=g3.bQ++Kx Vk H.tb g3.ls}}else{H with bR:=H.bR.set t g3}):=by
    have e2:(if(dL c y l).1=[]then H.dV t λh=>h.ij k (dL c y l).2 else Q8 (H.dV t λh=>h.ij k (dL c y l).2) t k (dL c y l).1) = {H with bR:=H.bR.set t g2}:=by
     rw[←hgg];split
     ·rw[ZK hg];rfl
     ·rw[ZK hg];unfold Q8 Hw.dV;simp only;rw[Vs (t:=g.ij k (dL c y l).2) (by simp[ht]),nC];rfl
    have e3:({H with bR:=H.bR.set t g2}:Hw).dV t (λh=>{h with bQ:=h.bQ.drop 1}) = {H with bR:=H.bR.set t g3}:=by
     rw[ZK hg3];simp only[nC,qF,hg3']
    unfold iz;simp only[hce,htg,hle,e2,e3,GE hg3e,ZK hg3e,nC]
   have hx3:(ts2.set t {x2 with h:=⟨if x2.h.cap=1 then x2.h.a else x2.h.a.map (·.add (1*2)),x2.h.len-1,x2.h.cap-1⟩})[t]?=some {x2 with h:=⟨if x2.h.cap=1 then x2.h.a else x2.h.a.map (·.add (1*2)),x2.h.len-1,x2.h.cap-1⟩}:=zN (cZ.1 hx2).1
   generalize hx3':({x2 with h:=⟨if x2.h.cap=1 then x2.h.a else x2.h.a.map (·.add (1*2)),x2.h.len-1,x2.h.cap-1⟩}:eJ)=x3 at hx3 K3
   generalize ts2.set t x3=ts3 at hx3 K3;refine ub (λw=>∃P ts',HK F U (λb=>(False\/b=U.size)\/b=v.size) w P {L with ts:=ts'} (iz H t k y)/\bZ w U.size [.int .i64 0,.int .i64 0]) (λw ⟨P,ts',K,hbw⟩=>?_) λJ3 hJ3=>?_
   ·have X:WJ H t (.put k y)=(iz H t k y,jS (iz H t k y) t,0,0):=rfl;rw[X]at hR;refine Ui K.h (t:=t) ?_ ?_
    ·rw[hpe];split<;>simpa using ht
    ·exact gM (n:=U.size) K (.inl (.inr rfl)) hbw λw' K'=>hR w' ts' K'.e (K'.fin h)
   ·refine aG (vd (K3.h.tc hx3 hg3e ha (d:=0) O rfl) ?_);refine Pd K3.h hx3 hg3e λv10 e10=>?_;have K10:=K3.fr e10;have hbw10:=e10.bW hbw1 id;refine cQ (λhov=>?_) λhno=>hJ3 v10 ⟨_,ts3,by rw[hpe,zB hno];exact K10,hbw10⟩;refine⟨λu=>cell u (Addr.add ⟨tb0,to0+3*t,none⟩ 1)=some (.slice x3.h.a x3.h.len x3.h.cap)/\cell u (Addr.add ⟨tb0,to0+3*t,none⟩ 0)=some (.pointer (some ⟨x3.c.p,0,none⟩)),⟨K10.h.tc hx3 hg3e ha (d:=1) O rfl,K10.h.tc hx3 hg3e ha (d:=0) O rfl⟩,aG ⟨x3.h,λu V=>V.1,aG ⟨some ⟨x3.c.p,0,none⟩,λu V=>V.2,?_⟩⟩⟩;refine MG hso K10.h hx3 hg3e λv11 s Q e11 hQ hB h11=>?_;have K11:=K10.to e11 h11 λb _ i=>i.1;have hbw11:=K10.cY e11 hbw10 (.inl (.inr rfl));have hg11:(Hw.dT {H with bR:=H.bR.set t g3} t g3 (Kr Vk H.tb g3.ls)).bR[t]?=some {g3 with ls:=Kr Vk H.tb g3.ls}:=by simp[Hw.dT,ht]
    refine⟨⟨K11.h.tc hx3 hg11 ha (d:=1) O rfl,K11.h.tc hx3 hg11 ha (d:=0) O rfl⟩,?_⟩;have hz0:=K10.e.1;obtain⟨G,D,hG,hD,hd,aa,hr,hput⟩:=K11.h.vR (λb i=>i.2) hx3 hg11 (λb=>Q b\/v11.size<=b) (λb i hP z=>z.elim (λz=>hP.1.2 z) λz=>O) (K10.o.1.sub λb i=>i.elim (λi=>by have:=hQ b i;omega) λi=>by have:=K11.e.1;omega) (λz=>K10.o.2 (z.elim (λi=>by have:=hQ _ i;omega) λi=>by have:=K11.e.1;omega));refine iA.app aa hB (λb hg z=>(hG b hg).1.2 z) ?_ λs' v12 e12 hB12=>?_
    ·have:=AU Vk H.tb g3.ls;have:H.tb.length<=40:=K3.h.qP;simp only[hl3.1];omega
    have hcell:∀{d:Nat} {w:Value},d<3->(jq (x3,({g3 with ls:=Kr Vk H.tb g3.ls}:Th)))[d]?=some w->cell v12 (Addr.add ⟨tb0,to0+3*t,none⟩ d)=some w:=λhd3 hv=>by
     obtain⟨b',o',ha',hc'⟩:=wJ (hr v12 e12) hx3 hg11 hd3 hv;rw[ha]at ha';cases ha';rw[add_lit,xl];exact hc'
    refine⟨⟨hcell (d:=1) O rfl,hcell (d:=0) O rfl⟩,aG (hput v12 s' _ _ e12 (λb i=>i.imp id id) hB12 ha λv13 e13 h13=>?_)⟩;have e13':=(e12.sub hG).trans (e13.sub hD);have K13:=K11.sX e13' h13 λb i z=>by
     rcases z with z|z
     ·exact .inl z.1
     ·rcases z.1 with h1|h1|h1
      ·exact .inl (hG b h1)
      ·have:=hQ b h1;exact .inr (.inr ⟨.inr O,λhB=>by have:=(K10.b b hB).2;omega⟩)
      ·exact .inr (.inl h1)
    have hbw13:=K11.cY e13' hbw11 (.inl (.inr rfl));have K14:=K13;simp only[Hw.dT,nC]at K14;have hpe':=hpe;rw[zC hov]at hpe';rw[hpe']at hJ3;exact hJ3 v13 ⟨_,_,K14,hbw13⟩
  ·refine⟨λu=>u=v6,rfl,aG ⟨some ⟨x.c.p,0,none⟩,λu V=>by cases V;exact K6.h.tc E hg ha (d:=0) O rfl,⟨(k:Int),λu V=>by cases V;rw[add_lit,b6.cell];rfl,⟨y,λu V=>by cases V;rw[add_lit,b6.cell];rfl,?_⟩⟩⟩⟩;refine PR K6.h E hg hc hl y λv7 ts7 s ee Q W hQ hs7 h7=>?_;have K7:=K6.to W h7 λb _ i=>i.1;have b7:=K6.cY W b6 (.inr rfl);have B:=K6.cY W C (.inl (.inr rfl));have hsl:s.len=(dL c y l).1.length:=by have:=hs7.1;simp[WD]at this;omega
   by_cases hemp:(dL c y l).1=[]
   ·rw[zC hemp]at hgg;rw[←hgg]at hJ2;exact fV (by rw[hsl,hemp];simp) (hJ2 v7 ⟨_,ts7,K7,B⟩)
   ·rw[zB hemp]at hgg;have hpos:=qg.2 hemp;have hz6:=K6.e.1;refine lV (by rw[hsl];omega) (b7.rI rfl ?_);refine xV K7.h (t:=t) (by simpa[Hw.dT]using ht) k (bS.fX hs7) (bS.py hs7) hemp (λb _ z E=>E.1.2 z) (K6.o.1.sub λb i=>by have:=hQ b i;omega) (λz=>K6.o.2 (by have:=hQ _ z;omega)) (λg' hg'=>?_) λv8 ts8 e8 h8=>?_
    ·have:(H.dT t g (g.ls.set k (dL c y l).2)).bR[t]?=some {g with ls:=g.ls.set k (dL c y l).2}:=by simp[Hw.dT,ht]
     rw[this]at hg';cases hg';simp only;omega
    ·have K8:=K7.sX e8 h8 λb i z=>by
      rcases z with z|z
      ·exact z.imp id .inl
      ·have:=hQ b z;exact .inr (.inr ⟨.inr O,λhB=>by have:=(K6.b b hB).2;omega⟩)
     have e9:Q8 (H.dT t g (g.ls.set k (dL c y l).2)) t k (dL c y l).1 = {H with bR:=H.bR.set t g2}:=by
      rw[←hgg];unfold Q8 Hw.dV Hw.dT;simp only;rw[Vs (t:={g with ls:=g.ls.set k (dL c y l).2}) (by simp[ht]),nC]
     rw[e9]at K8;exact hJ2 v8 ⟨_,ts8,K8,K7.cY e8 B (.inl (.inr rfl))⟩
 | back=>
  obtain⟨k,xs,r,hh,hxs,hxl⟩:∃k xs r,(H.jY t).bQ=(k,xs)::r/\(∀x∈xs,iH x/\0<=X9 H.bY x)/\xs.length<=1000000:=hp;rw[htg]at hh;refine lg aB (jg aB (jg aB (jg aB (sG aB (lg aB (lg aB (jg aB (Cx (nw (cs:=[]) λv5 M Z N=>?_)))))))));have K5:=K1.box Z M;have hbv5:=Z.bW i id;obtain⟨G,D,hG,hD,hd,aa,hr,hput⟩:=K5.h.vR (λb i=>(K5.p b i).2.2) E hg (λb=>v5.size<=b) (λb i _ z=>O) K5.h.mD.1 K5.h.mD.2;have hbl:=aa.len;have hbc:=aa.cap;rw[hh]at aa;obtain⟨so,ps,Dn,hrow,hso1,hcap,hBr,hDn,hj,S,hxne⟩:=aa.mH;have hz5':=K5.e.1;refine aG (nS (K5.h.tc E hg ha (d:=1) O rfl) (Ex (dK.fX hrow) λa ha0 ha1=>nX ha0 (nS ha1 ?_)));refine nw (cs:=[.int .i64 0,.slice none 0 0]) λv81 hz81 e81 hb81=>hb81.s1 aA λv82 o82 b82=>b82.s1 aA λv83 o83 b83=>?_;have e83:bL v5 v83:=(e81.only o82 (.inr (zD _))).only o83 (.inr (zD _));have hz83:v5.size<v83.size:=b83.lt;have hcell:∀{u1:Hp},Ext G v5 u1->∀{d:Nat} {w:Value},d<3->(jq (x,g))[d]?=some w->cell u1 (Addr.add ⟨tb0,to0+3*t,none⟩ d)=some w:=λhe _ _ hd3 hv=>by
   obtain⟨b',o',ha',hc'⟩:=wJ (hr _ he) E hg hd3 hv;rw[ha]at ha';cases ha';rw[add_lit,xl];exact hc'
  refine aG (nS (hcell (bL.to e83) (d:=1) (w:=.slice x.h.a x.h.len x.h.cap) O rfl) ?_);have hpos:1<=x.h.len:=by rw[hbl,hh];simp
  refine jj (lo:=1) hpos hbc (zD _) ?_;have hrow':=aH.bP (aH.cut (dK.fX (hrow.from (lo:=1) hpos))) e83;have qF:(fF ((k,so)::ps)).drop (1*2)=fF ps:=rfl;rw[qF]at hrow';refine Lp hrow' aC λs' v84 hs'l e84 hs'=>?_;have hBt':iA s' r v84 (λb=>Dn b/\¬kM so b/\b<v5.size\/v83.size<=b):=by
   refine⟨ps,λb=>Dn b/\¬kM so b/\b<v5.size,(dK.loc _ _ _).mono hs'.o λb _ i=>⟨.inr i,λE=>O⟩,(kv.loc _ _).bP ((kv.loc _ _).bP ((kv.loc _ _).mono ((kv.loc _ _).cut hBr) λb _ i=>⟨i.1.1,i.1.2,i.2⟩) e83) e84,λb i=>.inl i,hj,S⟩
  have e584:bL v5 v84:=e83.trans e84;refine aG (hput v84 s' r _ (bL.to e584) (λb i=>i.elim (λi=>.inl (hDn b i.1)) λi=>.inr O) hBt' ha λv85 e85 h85=>?_);have hz84:=e84.1;have hz85:=e85.1;have e585:Ext _ v5 v85:=(bL.to e584).trans (e85.sub hD);have K85:=K5.to e585 h85 λb _ z=>by
   rcases z with z|z
   ·exact .inl z.1
   ·rcases z.1 with h1|h1
    ·exact .inl (hG b (hDn b h1.1))
    ·exact .inr O
  have hbv85:=K5.cY e585 hbv5 (.inl (.inr rfl));have b85:bZ v85 v5.size _:=e85.bW (e84.bW b83 id) λE=>by have:=(K5.p _ (hD _ E)).2.2;omega
  have K85b:=K85.wy (B':=λb=>b=v5.size) λb i=>⟨O,O,λE=>by
   subst i;rcases E.1 with h1|h1
   ·have:=(K5.p _ h1.1).2.2;omega
   ·rcases h1.1 with h2|h2<;>omega⟩
  have hso5:=aH.bT (aH.bP (aH.cut hso1) e584) e85 λb _ i E=>hd b (hDn b i.1.1) E;have X:WJ H t .back=(Gp {H with bR:=H.bR.set t {g with bQ:=r}} (H.own t) k xs,jS (Gp {H with bR:=H.bR.set t {g with bQ:=r}} (H.own t) k xs) t,0,0):=by
   simp only[WJ,htg,hh,ZK hg]
  rw[X]at hR;refine⟨λu=>u=v85,rfl,⟨(k:Int),λu V=>by cases V;rw[add_lit,b85.cell];rfl,⟨so,λu V=>by cases V;rw[add_lit,b85.cell];rfl,?_⟩⟩⟩;refine Er K85b.h t ⟨rfl,Nm K85b.h hol k hso5 (λb _ i E=>?_) hcap hxs hxl λv87 e87 h87=>?_⟩
  ·rcases E.1 with h1|h1
   ·exact h1.2 (hDn b i.1.1)
   ·rcases h1.1 with h2|h2
    ·exact h2.2.1 i.1.2
    ·have:=i.2;omega
  have K87:=K85b.to e87 h87 λb _ i=>i;have hbl7:(Gp {H with bR:=H.bR.set t {g with bQ:=r}} (H.own t) k xs).bR.length=H.bR.length:=by
   rw[AG];simp
  refine Ui K87.h (t:=t) (by rw[hbl7];exact ht) ?_;exact gM (n:=U.size) K87 (.inl (.inl (.inr rfl))) (K85b.cY e87 hbv85 (.inl (.inl (.inr rfl)))) λw' K'=>hR w' _ K'.e (K'.fin h)
 | dE s a=>
  obtain⟨ha0,hal,hru⟩:0<=a/\a.toNat<H.bY.length/\∀A∈H.bY,∀r∈A.runs,r.1<=1000000:=hp;obtain⟨A2,hA2⟩:∃A,H.bY[a.toNat]?=some A:=⟨_,cX hal⟩;have hae:a=((a.toNat:Nat):Int):=by omega
  refine lg aB (jg aB (jg aB (jg aB (sG aB (lg aB (lg aB (jg aB (sG aB (xM (nw (cs:=[.int .i64 0,.int .i64 0]) λv5 M Z N=>?_))))))))));have K5:=K1.box Z M;refine N.s1 aA λv5b o5 b5=>b5.s1 aA λv6 o6 b6=>?_;have K6:=(K5.own o5 (.inr rfl)).own o6 (.inr rfl);have S:U.size≠v.size:=by omega
  have C:=WH o6 (WH o5 (Z.bW i id) S) S;obtain⟨Y2,hY2,_,_⟩:=K6.h.ar hA2;refine aG (K6.h.hd.rS rfl (b6.rI (x:=((a.toNat:Nat):Int)) (by rw[←hae];rfl) (K6.h.rA hY2 (b6.rI rfl ?_))));refine NA K6.h hA2 hY2 s (hru A2 (zG hA2)) λv7 W h7=>?_;have K7:=K6.to W h7 λb _ i=>i;have B:=K6.cY W C (.inl (.inr rfl));have X:WJ H t (.dE s a)=(H.cF a.toNat (QT A2 s),none,0,0):=by
   simp only[WJ,hA2]
  refine hJ v7 ⟨_,L.ts,⟨?_,K7.e,λb i=>⟨(K7.p b i).1,λE=>(K7.p b i).2.1 (.inl E),(K7.p b i).2.2⟩,λb i=>K7.b b (.inl i),K7.o⟩,B,by rw[X]⟩;rw[X];exact K7.h
 | drain=>
  refine lg aB (jg aB (jg aB (jg aB (sG aB (lg aB (lg aB (jg aB (sG aB (jg aB (Cx (nw (cs:=[]) λv5 M Z N=>?_)))))))))));have K5:=K1.box Z M;have hbv5:=Z.bW i id;refine aG (vd (K5.h.tc E hg ha (d:=0) O rfl) ?_);refine Rz hso K5.h E hg λv7 s Q W hQ hB h7=>?_;have K7:=K5.to W h7 λb _ i=>i.1;have B:=K5.cY W hbv5 (.inl (.inr rfl));have hz0:=K5.e.1;have hg7:(H.dT t g (Kr ZY H.tb g.ls)).bR[t]?=some {g with ls:=Kr ZY H.tb g.ls}:=by simp[Hw.dT,ht]
  obtain⟨G,D,hG,hD,hd,aa,hr,hput⟩:=K7.h.vR (λb i=>i.2) E hg7 Q (λb _ i z=>i.1.2 z) (K5.o.1.sub λb i=>by have:=hQ b i;omega) (λz=>K5.o.2 (by have:=hQ _ z;omega));refine aG (hput v7 s _ Q (Ext.refl _ _) (λb i=>.inr i) hB ha λv8 e8 h8=>?_);have e8':=e8.sub hD;have K8:=K7.sX e8' h8 λb _ z=>by
   rcases z with z|z
   ·exact .inl z.1
   ·have:=hQ b z.1;exact .inr (.inr ⟨.inr O,λhB=>by have:=(K5.b b hB).2;omega⟩)
  have hbv8:=K7.cY e8' B (.inl (.inr rfl));have X:WJ H t .drain=({H with bR:=H.bR.set t {g with ls:=Kr ZY H.tb g.ls,bQ:=Kx ZY H.tb g.ls}},jS {H with bR:=H.bR.set t {g with ls:=Kr ZY H.tb g.ls,bQ:=Kx ZY H.tb g.ls}} t,0,0):=by
   simp only[WJ,ZK hg]
  have K9:=K8;simp only[Hw.dT,nC]at K9;rw[X]at hR;refine Ui K9.h (t:=t) (by simpa using ht) ?_;exact gM (n:=U.size) K9 (.inl (.inr rfl)) hbv8 λw' K'=>hR w' _ K'.e (K'.fin h)
def eP (H:Hw)(t:Nat)(p:Option Ph):Hw:=H.dV t λh=>{h with ph:=p}
theorem VN (H:Hw)(t:Nat)(f:Th->Th):(H.dV t f).bR.length=H.bR.length:=by simp[Hw.dV]
theorem Nc (H:Hw)(t k:Nat)(x:Int):(iz H t k x).bR.length=H.bR.length:=by
 unfold iz;simp only;split<;>split<;>simp[VN,Q8]
theorem Ju (H:Hw)(t:Nat)(p:Ph):(WJ H t p).1.bR.length=H.bR.length:=by
 cases p with
 | take k=>simp only[WJ];split<;>simp[VV,VN]
 | cJ k w=>
  simp only[WJ];split
  ·split<;>simp[Q8,VN,Hw.cF]
  ·rfl
 | cL k w=>simp only[WJ];split<;>simp[Q8,VN,Hw.cF]
 | grow k w=>simp only[WJ];split<;>simp[Hw.cF]
 | fill=>simp only[WJ];split<;>simp[VV,VN]
 | eI m=>simp only[WJ];split<;>simp[VV,Hw.cF]
 | find x=>
  simp only[WJ,Hi];split
  ·rfl
  ·split<;>simp[Q8,VN]
 | put k x=>exact Nc H t k x
 | back=>simp only[WJ];split<;>simp[AG,VN]
 | dE s a=>simp only[WJ];split<;>simp[Hw.cF]
 | drain=>simp[WJ,VN]
def uG (H:Hw)(t:Nat)(p:Ph):Prop:=vo H t p/\∀g,H.bR[t]?=some g->g.bQ.length<=900
def QW (H:Hw)(t:Nat)(p:Ph):Hw:=eP (WJ H t p).1 t (WJ H t p).2.1
theorem TL (hso:GM)(h:HH U F L H)(hg:H.bR[t]?=some g){p:Ph}(hp:g.ph=some p)(hok:uG H t p){R:Bool->Int->Int->Int->Hp->Prop}
 (hR:∀σ' ts',Ext F U σ'->HH σ' (Grow F U) {L with ts:=ts'} (QW H t p)->R (WJ H t p).2.1.isNone (WJ H t p).2.2.1 (WJ H t p).2.2.2 0 σ'):Zj.c (aW L.p) (t:Int) U R:=by
 refine Zj.o ?_;unfold Zj.v;have N:=(cZ.1 hg).1;refine nw (cs:=[.int .i64 0,.int .i64 0]) λv hz e r=>?_;have K1:=(HK.start h).box e hz;obtain⟨x,g',Q,A⟩:=h.th N;rw[hg]at A;cases A;refine US K1.h (cE rfl (AM K1.h (t:Int) (cE (by rw[zJ O];rfl) ?_)));refine aG (K1.h.hd.rS rfl (K1.h.tR Q hg ?_));rw[hp];refine⟨vf _,cE (by rw[wK];rfl) (aG (K1.h.hd.rS rfl (K1.h.tR Q hg ?_)))⟩;rw[hp];refine JR hso K1.h N p hok.1 hok.2 λW E P Y=>?_;have K9:=K1.to P Y λb _ r=>r;have m:=K1.cY P r (.inr rfl);refine nw (cs:=[.int .i64 0,.int .i64 0]) λv10 s u j=>?_;have K10:=K9.box u s;refine j.s1 aA λZ w G=>G.s1 aA λv12 y C=>?_;have K12:=(K10.own w (.inr rfl)).own y (.inr rfl);have z:U.size≠W.size:=by have:=(K9.b U.size (.inr rfl)).2;omega
 have i:=WH y (WH w (u.bW m id) z) z;have M:t<(WJ H t p).1.bR.length:=by rw[Ju];exact N
 obtain⟨x9,X,D,B⟩:=K12.h.th M;have K:QW H t p = {(WJ H t p).1 with bR:=(WJ H t p).1.bR.set t {X with ph:=(WJ H t p).2.1}}:=ZK B _;refine aG (K12.h.hd.rS rfl (K12.h.sk D B (WJ H t p).2.1 λV d J=>?_));have K13:=K12.to d J λb _ r=>.inl r;have a:=K12.cY d C (.inr rfl);rw[←K]at K13;refine⟨vf _,a.rI rfl (a.rI rfl ?_)⟩;refine gM (n:=U.size) K13 (.inl (.inr rfl)) (K12.cY d i (.inl (.inr rfl))) λS K'=>?_;rw[wK];exact hR S E K'.e (K'.fin h)
theorem Ct {p:Nat->Prop}(h:∃n,p n):∃n,p n/\∀m,p m->n<=m:=by
 obtain⟨n,d⟩:=h
 induction n using Nat.strongRecOn with
 | _ n ih=>
  by_cases hm:∃m,m<n/\p m
  ·obtain⟨m,b,a⟩:=hm;exact ih m b a
  ·exact⟨n,d,λm a=>Nat.le_of_not_lt λb=>hm ⟨m,b,a⟩⟩
theorem Dh {start:eL []->Prop}{round:eL []->eL []}(Inv:Nat->Hp->Prop)(h0:start λh=>∃n,Inv n h)(hr:∀n h,Inv n h->∀J:Hp->Prop,(∀m h',m<n->Inv m h'->J h')->round J h):Ya [] start round:=by
 classical
 refine Ep (λh=>∃n,Inv n h) (λh=>if hx:∃n,Inv n h then(Ct hx).choose else 0) h0 λh d=>?_
 have g:=(Ct d).choose_spec;refine hr _ h g.1 _ λm h' e b=>⟨⟨m,b⟩,?_⟩;have a:∃n,Inv n h':=⟨m,b⟩;rw[dif_pos a,dif_pos d];exact CO ((Ct a).choose_spec.2 m b) e
inductive iG:Nat->Hw->Nat->Ph->Hw->Int->Int->Prop
 | done {H:Hw} {t:Nat} {p:Ph}:uG H t p->(WJ H t p).2.1=none->iG 1 H t p (QW H t p) (WJ H t p).2.2.1 (WJ H t p).2.2.2
 | next {n:Nat} {H:Hw} {t:Nat} {p p':Ph} {H':Hw} {a e:Int}:uG H t p->(WJ H t p).2.1=some p'->iG n (QW H t p) t p' H' a e->iG (n+1) H t p H' a e
theorem D4 {p:Ph}(ht:t<H.bR.length):∃g,(QW H t p).bR[t]?=some g/\g.ph=(WJ H t p).2.1:=by
 have a:t<(WJ H t p).1.bR.length:=by rw[Ju];exact ht
 exact⟨{(WJ H t p).1.bR[t]with ph:=(WJ H t p).2.1},by simp[QW,eP,Hw.dV,tu,cX a],rfl⟩
end Go.Ar
namespace Go.Ar
open Go Go.Vc Go.Proofs
open Go.Bu (eW)
variable {U:Hp}{F:Rg}
def U4 (size align:Int):Bool:=decide (1<=size)&&(decide (1<=align)&&(decide (align<=256)&&eW align))
def gV (tb:List cA)(size align:Int):Option Nat:=tb.findIdx? λc=>decide (size<=(c.size:Int))&&((c.size:Int)%align==0)
theorem Pz (n:Int)(h1:1<=n)(h2:n<=256){R:aN}(hR:∀p:Int,(p != n) = !eW n->R p U):Qv.c n U R:=by
 refine Qv.o ?_;unfold Qv.v;refine Us (a:=bO) (bb:=bO) (λ(p q:Int) w=>w=U/\(p=0/\q=1\/∃k:Nat,k<=8/\p=((2^k:Nat):Int)/\q=((2^(k+1):Nat):Int)/\p<=n)) (λp q _=>1000-q.toNat) ⟨rfl,.inl ⟨rfl,rfl⟩⟩ ?_;rintro(p:Int) (q:Int) w ⟨rfl,hpq⟩;refine cQ (λd=>?_) λg=>?_
 ·rcases hpq with⟨rfl,rfl⟩|⟨k,hk,rfl,rfl,hp⟩
  ·exact cS (m:=2) O O ⟨⟨rfl,.inr ⟨0,O,by simp,by simp,O⟩⟩,by simp⟩
  ·have r:k<=7:=by
    apply Classical.byContradiction;intro hc;have:2^9<=2^(k+1):=oL aB O;omega
   have s:=kL (k+1);exact cS (m:=2^(k+1+1)) (by rw[mQ 2 (k+1)];omega) (by rw[mQ 2 (k+1)];omega) ⟨⟨rfl,.inr ⟨k+1,O,rfl,rfl,d⟩⟩,by rw[mQ 2 (k+1)];omega⟩
 ·rcases hpq with⟨rfl,rfl⟩|⟨k,hk,rfl,rfl,hp⟩
  ·omega
  ·refine hR _ ?_;by_cases e:((2^k:Nat):Int)=n
   ·have:eW n=true:=by
     unfold eW;rw[zy];exact⟨k,zh.2 O,by simp[←e]⟩
    rw[this,e];simp
   ·have:eW n=false:=by
     unfold eW;rw[mc];intro j hj he;have b:n=((2^j:Nat):Int):=by simpa using he
     rcases qi j k with h3|h3|h3
     ·have:2^(j+1)<=2^k:=oL aB h3;rw[mQ]at this;have:=kL j;omega
     ·subst h3;exact e b.symm
     ·have:2^(k+1)<=2^j:=oL aB h3;omega
    rw[this];simpa using e
theorem Sw {s:Sl}{xs:List (Int×Int×Int)}(ha:iw U s xs)(hv:QK xs=true)(size align:Int){R:Int->Int->Hp->Prop}
 (hR:∀σ',bL U σ'->R (if U4 size align then((gV (xs.map Qo) size align).getD 0:Nat)else 0) (if U4 size align then(if(gV (xs.map Qo) size align).isSome then 0 else 4)else 1) σ'):Qx.c s size align U R:=by
 refine Qx.o ?_;unfold Qx.v;refine nw (cs:=[.int .i64 size]) λv hz e hb=>nw (cs:=[.int .i64 align]) λv1 S e1 Q=>?_;have N:=e1.bW hb id;refine G2 (Qb ha (e.trans e1)) λx e2=>?_;rw[hv];have L:=e2.bW N id;have y:=e2.bW Q id;have g:=(e.trans e1).trans e2;refine cE rfl ?_;have key:∀r,r = !U4 size align->(If r (R 0 1 x) (Wu.c s ⟨228,#[],#[.pointer (some ⟨U.size,0,none⟩),.pointer (some ⟨v.size,0,none⟩)]⟩ x λk v4=>If (decide (k<0)) (R 0 4 v4) (R k 0 v4))):=by
  intro r b;cases hok:U4 size align with
  | false=>
   rw[hok]at b;have:=hR x g;rw[hok]at this;exact cD (by rw[b];rfl) this
  | true=>
   rw[hok]at b;refine cE (by rw[b];rfl) ?_;have H:=hok;simp only[U4,zE,zU]at H;refine Wu.o ?_;unfold Wu.v;have hlen:=ha.1;have hxl:=((QB xs).1 hv).2.1;refine Qg (a:=bO) (λ(z:Int) w=>∃i:Nat,z=(i:Int)/\i<=xs.length/\bL x w/\∀j c,j<i->(xs.map Qo)[j]?=some c->(decide (size<=(c.size:Int))&&((c.size:Int)%align==0))=false) (λz _=>xs.length-z.toNat) ⟨0,rfl,O,Ext.refl _ _,λj c h=>O⟩ ?_;rintro(z:Int) w ⟨i,rfl,hi,ew,hno⟩;refine cQ (λhlt=>?_) λW=>?_
   ·have P:i<xs.length:=by omega
    have B:(xs.map Qo)[i]?=some (Qo xs[i]):=by simp[P]
    generalize Qo xs[i]=c at B;have K:=Qb ha (g.trans ew);obtain⟨hx,hcok⟩:=Hx K hv B;refine Ah K hx ?_;refine GR (all := #[.agg #[.int .i64 (c.size:Int),.int .i64 (c.aF:Int),.int .i64 (c.batch:Int)],.pointer (some ⟨U.size,0,none⟩),.pointer (some ⟨v.size,0,none⟩)]) (by kernel_rfl) aA ?_;refine Z7.o ?_;unfold Z7.v;refine nw (cs:=[.int .i64 (c.size:Int),.int .i64 (c.aF:Int),.int .i64 (c.batch:Int)]) λC S e1 D=>?_;have M:=e1.bW (ew.bW L id) id;have X:=e1.bW (ew.bW y id) id;have G:=ew.trans e1;have go:∀r,r=(decide (size<=(c.size:Int))&&((c.size:Int)%align==0))->If r (If (decide ((i:Int)<0)) (R 0 4 C) (R (i:Int) 0 C)) (Ar .i64 ((i:Int)+1) λE=>(∃i:Nat,E=(i:Int)/\i<=xs.length/\bL x C/\∀j c,j<i->(xs.map Qo)[j]?=some c->(decide (size<=(c.size:Int))&&((c.size:Int)%align==0))=false)/\xs.length-E.toNat<xs.length-(i:Int).toNat):=by
     intro r b;refine cU (λh1=>fV O ?_) λh0=>?_
     ·have V:gV (xs.map Qo) size align=some i:=by
       obtain⟨hi1,rfl⟩:=cZ.1 B;exact nG.2 ⟨hi1,by rw[←b];exact h1,λj F=>by rw[hno j _ F (cX O)];simp⟩
      have:=hR C (g.trans G);rw[hok,V]at this;exact this
     ·exact cS (m:=i+1) O O ⟨⟨i+1,rfl,O,G,λj d F hd=>by
       by_cases e:j=i
       ·subst e;rw[B]at hd;cases hd;rw[←b];exact h0
       ·exact hno j d O hd⟩,O⟩
    refine D.rI rfl (M.tZ rfl ?_);refine KH (λr w=>w=C/\r=(decide (size<=(c.size:Int))&&((c.size:Int)%align==0))) (λr w ⟨Z,b⟩=>by subst Z;exact go r b) λJ A=>?_;refine cQ (λW=>D.rI rfl (X.tZ rfl (nz O (A _ _ ⟨rfl,?_⟩)))) λhlt2=>A _ _ ⟨rfl,?_⟩
    ·rw[Kg O,zJ (by omega:size<=(c.size:Int)),rk]
    ·rw[zL O,ux]
   ·have V:gV (xs.map Qo) size align=none:=by
     unfold gV;rw[uB];intro c B;obtain⟨j,F⟩:=zO B;have:=(cZ.1 F).1;simp at this;exact hno j c O F
    have:=hR w (g.trans ew);rw[hok,V]at this;exact lV aB this
 refine yF (λr w=>w=x/\r = !U4 size align) (λr w ⟨Z,b⟩=>by subst Z;exact key r b) λJ A=>?_;have Y:∀m,m=x->cell m ⟨U.size,0,none⟩=some (.int .i64 size):=λm hm=>by rw[hm,L.cell];rfl
 have u:∀m,m=x->cell m ⟨v.size,0,none⟩=some (.int .i64 align):=λm hm=>by rw[hm,y.cell];rfl
 refine⟨λm=>m=x,rfl,⟨size,Y,?_⟩⟩;refine cQ (λh1=>A _ _ ⟨rfl,?_⟩) λh1=>⟨align,u,cQ (λh2=>A _ _ ⟨rfl,?_⟩) λh2=>⟨align,u,cQ (λh3=>A _ _ ⟨rfl,?_⟩) λh3=>⟨align,u,⟨align,u,?_⟩⟩⟩⟩
 ·simp only[U4,zL (by omega:¬1<=size),ux,wS]
 ·simp only[U4,zL (by omega:¬1<=align),ux,tW,wS]
 ·simp only[U4,zL (by omega:¬align<=256),ux,tW,wS]
 ·refine Pz align O O λp hp=>⟨rfl,A _ _ ⟨rfl,?_⟩⟩;rw[hp];simp only[U4,zJ (by omega:1<=size),zJ (by omega:1<=align),zJ (by omega:align<=256),rk]
end Go.Ar
namespace Go.Ar
open Go Go.Vc Go.Proofs
variable {U u u':Hp}{F B P Q:Rg}{L:dH}{H H':Hw}{t k n pb:Nat}{A:AR}{Y:Lay}{x:eJ}{g:Th}{c:cA}{l:Li}{cs:List Value}
def mo (c:cA):Int×Int×Int:=((c.size:Int),(c.aF:Int),(c.batch:Int))
theorem Nd (tb:List cA):(tb.map mo).map Qo=tb:=by
 rw[lB]
 conv=>rhs;rw[←uJ tb]
 apply ke;intro c _;rfl
theorem T8 {s:Sl}{tb:List cA}(h:cV s 3 (gF tb) U F):iw U s (tb.map mo):=by
 have D:=h.1;rw[Up]at D;refine⟨by simp;omega,λi x y z g=>?_⟩;rw[za,nR]at g;obtain⟨c,r,e⟩:=g;obtain⟨p,u,B⟩:=GY r;simp only[mo,Prod.mk.injEq]at e;obtain⟨rfl,rfl,rfl⟩:=e;obtain⟨b,o,d,j⟩:=h.cell p;obtain⟨w,m,a,A⟩:=h.cell u;rw[d]at a;cases a;obtain⟨w,m,a,C⟩:=h.cell B;rw[d]at a;cases a;exact⟨b,o,d,KJ j,by rw[show o+i*3=o+3*i by omega];exact j,by rw[show o+i*3+1=o+(3*i+1) by omega];exact A,by rw[show o+i*3+2=o+(3*i+2) by omega];exact C⟩
def mE (tb:List cA):Prop:=QK (tb.map mo)=true
def iK (tb:List cA)(kind size align addr:Int):Option Ph:=
 if kind=0 then(if 1<=size/\size<=16384 then(if U4 size align then(match gV tb size align with
  | some k=>some (.take k)
  | none=>some (.eI ((size+255).toNat/256)))else none)else none)
 else if kind=1 then some (.find addr)else if kind=2 then some .drain else none
theorem SG (h:HH U F L H)(hv:mE H.tb)(kind size align addr:Int){R:Value->Hp->Prop}(hR:∀σ',bL U σ'->R (nc (iK H.tb kind size align addr)) σ'):Yx.c (aW L.p) kind size align addr U R:=by
 refine Yx.o ?_;unfold Yx.v;refine nw (cs:=[.int .i64 kind,.int .i64 size,.int .i64 align,.int .i64 addr]) λv M e u=>u.rI rfl ?_;have B:=h.bP e;have a:=hR v e;refine cU (λz=>?_) λz=>?_
 ·have g:kind=0:=by simpa using z
  have E:iK H.tb kind size align addr=(if 1<=size/\size<=16384 then(if U4 size align then(match gV H.tb size align with
   | some k=>some (.take k)
   | none=>some (.eI ((size+255).toNat/256)))else none)else none):=by unfold iK;rw[zC g]
  rw[E]at hR a;refine u.rI rfl (KH (λr w=>w=v/\r = !decide (1<=size/\size<=16384)) (λr w ⟨D,y⟩=>?_) λJ C=>?_)
  ·subst D;by_cases hs:1<=size/\size<=16384
   ·rw[zC hs]at hR;rw[zJ hs]at y;refine cE (by rw[y];rfl) ⟨λm=>m=w,rfl,aG ⟨L.dF,λm x=>by rw[x,add_lit,B.hd.cell];rfl,⟨size,λm x=>by rw[x,add_lit,u.cell];rfl,⟨align,λm x=>by rw[x,add_lit,u.cell];rfl,?_⟩⟩⟩⟩;refine Sw (T8 B.jC) hv size align λK e2=>?_;rw[Nd];have A:=e2.bW u id;have b:=hR K (e.trans e2);cases hok:U4 size align with
    | false=>
     rw[hok]at b;exact cE rfl (cE rfl b)
    | true=>
     rw[hok]at b;simp only[zR]at b ⊢;cases hcl:gV H.tb size align with
     | some k=>rw[hcl]at b;exact cD rfl b
     | none=>
      rw[hcl]at b;refine cE rfl (cD rfl (A.rI rfl (ar O O (ar O O (nz aB (ar (by rw[YK O];omega) (by rw[YK O];omega) ?_))))));rw[YK O];have:(size+256-1)/256=(((size+255).toNat/256:Nat):Int):=by omega
      rw[this];exact b
   ·rw[zB hs]at a;rw[zL hs]at y;exact cD (by rw[y];rfl) a
  ·refine cQ (λG=>C _ _ ⟨rfl,?_⟩) λG=>u.rI rfl (C _ _ ⟨rfl,?_⟩)
   ·rw[zL O];rfl
   ·by_cases h2:size>16384
    ·rw[zJ h2,zL O];rfl
    ·rw[zL h2,zJ O];rfl
 ·have g:kind≠0:=by simpa using z
  refine cU (λj=>u.rI rfl ?_) λj=>?_
  ·have d:kind=1:=by simpa using j
   unfold iK at a;rw[zB g,zC d]at a;exact a
  ·have d:kind≠1:=by simpa using j
   refine cU (λs=>?_) λs=>?_
   ·have i:kind=2:=by simpa using s
    unfold iK at a;rw[zB g,zB d,zC i]at a;exact a
   ·have i:kind≠2:=by simpa using s
    unfold iK at a;rw[zB g,zB d,zB i]at a;exact a
def KP (H:Hw)(thread kind size align addr:Int):Int ⊕ (Nat×Ph):=
 if 0<=thread/\thread<(H.bR.length:Int)then(match H.bR[thread.toNat]? with
  | some g=>(if g.ph=none then(match iK H.tb kind size align addr with
   | some p=>.inr (thread.toNat,p)
   | none=>.inl 1)else .inl 5)
  | none=>.inl 1)else .inl 1
theorem PV (h:HH U F L H)(hv:mE H.tb)(thread kind size align addr:Int){R:aN}(h0:∀e,KP H thread kind size align addr=.inl e->e≠0->∀σ',Ext F U σ'->HH σ' (Grow F U) L H->R e σ')
 (h1:∀t p,KP H thread kind size align addr=.inr (t,p)->thread=(t:Int)->t<H.bR.length->∀σ',Ext F U σ'->HH σ' (Grow F U) L (eP H t (some p))->R 0 σ'):Ze.c (aW L.p) thread kind size align addr U R:=by
 refine Ze.o ?_;unfold Ze.v;refine nw (cs:=[.int .i64 kind,.int .i64 size,.int .i64 align,.int .i64 addr]) λv z e d=>?_;have K1:=(HK.start h).box e z;refine US K1.h (cE rfl (AM K1.h thread ?_));by_cases hth:0<=thread/\thread<(H.bR.length:Int)
 ·obtain⟨t,rfl⟩:∃t:Nat,thread=(t:Int):=⟨thread.toNat,O⟩;have m:t<H.bR.length:=by omega
  obtain⟨x,g,j,i⟩:=h.th m;have a:KP H (t:Int) kind size align addr=(if g.ph=none then(match iK H.tb kind size align addr with
   | some p=>.inr (t,p)
   | none=>.inl 1)else .inl 5):=by
   unfold KP;rw[zC hth,dD,i]
  refine cE (by rw[zJ hth];rfl) (aG (K1.h.hd.rS rfl (K1.h.tR j i ⟨vf _,?_⟩)));cases hp:g.ph with
  | some p=>
   rw[hp,zB aA]at a;exact cD (by rw[wK];rfl) (h0 5 a aB v K1.e (K1.fin h))
  | none=>
   rw[hp,zC rfl]at a;refine cE rfl (d.rI rfl (d.rI rfl (d.rI rfl (d.rI rfl (SG K1.h hv kind size align addr λv3 w=>⟨vf _,?_⟩)))));have K3:=K1.fr w;rw[wK];cases hq:iK H.tb kind size align addr with
   | none=>
    rw[hq]at a;exact cD rfl (h0 1 a aB v3 K3.e (K3.fin h))
   | some p=>
    rw[hq]at a;refine cE rfl (aG (K3.h.hd.rS rfl (K3.h.sk j i (some p) λy s u=>?_)));have K4:=K3.to s u λb _ d=>.inl d;have r:eP H t (some p) = {H with bR:=H.bR.set t {g with ph:=some p}}:=ZK i _;rw[←r]at K4;exact h1 t p a rfl m y K4.e (K4.fin h)
 ·have a:KP H thread kind size align addr=.inl 1:=by unfold KP;rw[zB hth]
  exact cD (by rw[zL hth];rfl) (h0 1 a aB v K1.e (K1.fin h))
theorem NI {p:Option Ph}(ht:t<H.bR.length):∃g,(eP H t p).bR[t]?=some g/\g.ph=p:=
 ⟨{H.bR[t]with ph:=p},by simp[eP,Hw.dV,tu,cX ht],rfl⟩
theorem Fk (hso:GM)(h:HH U F L H)(hv:mE H.tb)(thread kind size align addr:Int){R:Int->Int->Hp->Prop}(h0:∀e,KP H thread kind size align addr=.inl e->e≠0->∀σ',Ext F U σ'->HH σ' (Grow F U) L H->R 0 e σ')
 (h1:∀t p,KP H thread kind size align addr=.inr (t,p)->∃n H' a e,iG n (eP H t (some p)) t p H' a e/\∀σ' ts',Ext F U σ'->HH σ' (Grow F U) {L with ts:=ts'} H'->R a e σ'):Yf.c (aW L.p) thread kind size align addr U R:=by
 refine Yf.o ?_;unfold Yf.v;refine nw (cs:=[.int .i64 kind,.int .i64 size,.int .i64 align,.int .i64 addr]) λv hz e i=>i.rI rfl (i.rI rfl (i.rI rfl (i.rI rfl ?_)));have K1:=(HK.start h).box e hz;refine PV K1.h hv thread kind size align addr (λD he A v1 e1 s=>?_) λt p N W ht v1 e1 s=>?_
 ·have K2:=K1.to e1 s λb _ i=>i;exact cD (by simpa using A) (h0 D he A v1 K2.e (K2.fin h))
 ·subst W;have K2:=K1.to e1 s λb _ i=>i;obtain⟨n,Hf,a,D,d,C⟩:=h1 t p N;refine cE rfl (Dh (λn w=>∃(B P:Rg) (ts:List eJ) (H:Hw) (p:Ph),HK F U B w P {L with ts:=ts} H/\(∃g,H.bR[t]?=some g/\g.ph=some p)/\iG n H t p Hf a D) ⟨n,_,_,L.ts,_,p,K2,NI ht,d⟩ ?_);rintro n w ⟨B,P,ts,H2,r,K,⟨g,hg,Q⟩,d⟩ J hJ;have go:uG H2 t r->((WJ H2 t r).2.1.isNone=true->(WJ H2 t r).2.2.1=a/\(WJ H2 t r).2.2.2=D/\QW H2 t r=Hf)->((WJ H2 t r).2.1.isNone=false->∃m M,m<n/\(WJ H2 t r).2.1=some M/\iG m (QW H2 t r) t M Hf a D)->Zj.c (aW L.p) (t:Int) w λab y z t223 v3=>Nw (.cells #[.int .i64 0,.int .i64 0] 137 (0,0)) v3 λj v4=>dU (j.add 0) (.int .i64 y) v4 λv5=>dU (j.add 1) (.int .i64 z) v5 λu=>If ab (gJ .i64 (j.add 0) u λV=>gJ .i64 (j.add 1) u λag=>R V ag u) (J u):=by
   intro hok hd hn;refine TL hso K.h hg Q hok λv3 G e3 X=>?_;have K3:=K.to e3 X λb _ i=>i;refine nw (cs:=[.int .i64 0,.int .i64 0]) λv4 ae e4 S=>?_;have K4:=K3.box e4 ae;refine S.s1 aA λv5 o5 b5=>b5.s1 aA λu o6 b6=>?_;have K6:=(K4.own o5 (.inr rfl)).own o6 (.inr rfl);refine cU (λac=>?_) λZ=>?_
   ·obtain⟨q1,q2,q3⟩:=hd ac;rw[q3]at K6;refine b6.rI rfl (b6.rI rfl ?_);rw[q1,q2];exact C u G K6.e (K6.fin h)
   ·obtain⟨m,M,hm,Y,af⟩:=hn Z;have ad:t<H2.bR.length:=(cZ.1 hg).1;obtain⟨g',aa,x⟩:=D4 (p:=r) ad;exact hJ m u hm ⟨_,_,G,_,M,K6,⟨g',aa,by rw[x,Y]⟩,af⟩
  cases d with
  | done hok hnone=>exact go hok (λ_=>⟨rfl,rfl,rfl⟩) λE=>by rw[hnone]at E;cases E
  | next hok hsome hrun'=>exact go hok (λE=>by rw[hsome]at E;cases E) λ_=>⟨_,_,Nat.lt_succ_self _,hsome,hrun'⟩
end Go.Ar
namespace Go.Ar
open Go Go.Vc Go.Proofs
variable {U u w w':Hp}{F B P Q:Rg}{n:Nat}{cs:List Value}{tb:List cA}{cf:Cf}
def Un (tb:List cA)(cf:Cf):Hw:=⟨tb,cf,VT cf.aF,List.replicate cf.ia (fB cf.aF cf.room tb),List.replicate cf.threads ⟨List.replicate tb.length ir,[],none⟩,[]⟩
def sA (p a t b r:Int):Bool:=decide (32<=p)&&decide (p<=1024)&&(p%16==0)&&decide (1<=a)&&decide (a<=4)&&decide (1<=t)&&decide (t<=4)&&decide (0<=b)&&decide (b<=65536)&&decide (0<=r)&&decide (r<=8)
theorem lvl {K:aO}{r:Bool}{a:Addr}{x:Int}{k:IntKind}{f:Int->Bool}(hl:∀{K':Int->Prop},K' x->gJ k a w K')(h:K (r&&f x) w):bV K λJ=>If r (gJ k a w λt=>J (f t) w) (J false w):=
 bV.intro (cU (λb=>hl (by rw[b]at h;exact h)) λb=>by rw[b]at h;exact h)
theorem SS (p a t b r:Int){R:aO}(hR:∀σ',bL U σ'->R (sA p a t b r) σ'):QN.c p a t b r U R:=by
 refine QN.o ?_;unfold QN.v;refine nw (cs:=[.int .i64 p,.int .i64 a,.int .i64 t,.int .i64 b,.int .i64 r]) λv A e g=>g.rI rfl ?_;have i:=hR v e;unfold sA at i;refine KH (λj w=>w=v/\j=(decide (32<=p)&&decide (p<=1024))) (λj w ⟨u,x⟩=>?_) λJ m=>?_
 ·subst u;subst x;refine KH (λj z=>z=w/\j=(decide (32<=p)&&decide (p<=1024)&&(p%16==0))) (λj z ⟨u,x⟩=>?_) λJ m=>?_
  ·rw[u];subst x;exact lvl (λd=>g.rI rfl d) (lvl (λd=>g.rI rfl d) (lvl (λd=>g.rI rfl d) (lvl (λd=>g.rI rfl d) (lvl (λd=>g.rI rfl d) (lvl (λd=>g.rI rfl d) (lvl (λd=>g.rI rfl d) (lvl (λd=>g.rI rfl d) i)))))))
  ·refine cU (λs=>g.rI rfl (nz aB (m _ _ ⟨rfl,?_⟩))) λy=>m _ _ ⟨rfl,?_⟩
   ·simp only[zE,zU]at s;rw[Kg O,zJ s.1,zJ s.2];rfl
   ·rw[y];rfl
 ·refine cQ (λs=>g.rI rfl (m _ _ ⟨rfl,?_⟩)) λy=>m _ _ ⟨rfl,?_⟩
  ·rw[zJ (by omega:32<=p)];rfl
  ·rw[zL O];rfl
structure pt where
 p:Nat
 dF:Sl
 lm:Nat
 hs:Option Nat
 hp:Option Nat
 aw:Sl
 al:List Nat
 ha:Sl
 tw:Sl
 tl:List Value
 ht:Sl
 ys:List Lay
 cs:List gU
def qI (cf:Cf)(N:pt):List Value:=[.slice N.dF.a N.dF.len N.dF.cap,.int .i64 (cf.aF:Int),.int .i64 (cf.ia:Int),.int .i64 (cf.threads:Int),.int .i64 (cf.dC:Int),.int .i64 (cf.room:Int),
 .pointer (N.hp.map λq=>⟨q,0,none⟩),.slice N.ha.a N.ha.len N.ha.cap,.slice N.ht.a N.ht.len N.ht.cap,.map (some N.lm)]
def r7 (n room:Nat)(tb:List cA)(y:Option Lay):Hp->Rg->Prop:=λU F=>match y with
 | some Y=>dI U F Y (fB n room tb) (cM (fB n room tb) Y)
 | none=>True
def rK (tb:List cA)(bud:Nat)(y:Option gU):Hp->Rg->Prop:=λU F=>match y with
 | some Y=>eH U F Y tb bud (List.replicate tb.length ir)
 | none=>True
def xU (n:Nat)(q:Option Nat):Hp->Rg->Prop:=λU F=>match q with
 | some q=>dN U F q (VT n)
 | none=>True
def iR (tb:List cA)(cf:Cf)(N:pt):kI->Hp->Rg->Prop
 | .hd=>iB N.p (qI cf N)
 | .dF=>cV N.dF 3 (gF tb)
 | .sp=>xU cf.aF N.hs
 | .fN=>bS N.aw 1 (fJ N.al)
 | .cP=>bS N.tw 3 N.tl
 | .live=>jH N.lm .i64 (.ag 4) []
 | .ar k=>r7 cf.aF cf.room tb N.ys[k]?
 | .ca k=>rK tb cf.dC N.cs[k]?
 | .hn _=>λ_ _=>True
theorem r7.loc (n room:Nat)(tb:List cA)(y:Option Lay):dM (r7 n room tb y):=by
 intro U σ' F G h hz hs;cases y with
 | some Y=>exact dI.loc _ _ _ _ h hz hs
 | none=>trivial
theorem rK.loc (tb:List cA)(bud:Nat)(y:Option gU):dM (rK tb bud y):=by
 intro U σ' F G h hz hs;cases y with
 | some Y=>exact eH.loc _ _ _ _ h hz hs
 | none=>trivial
theorem xU.loc (n:Nat)(q:Option Nat):dM (xU n q):=by
 intro U σ' F G h hz hs;cases q with
 | some q=>exact dN.loc _ _ _ _ h hz hs
 | none=>trivial
theorem iR.loc {N:pt}:∀i,dM (iR tb cf N i)
 | .hd=>iB.loc _ _
 | .dF=>cV.loc _ _ _
 | .sp=>xU.loc _ _
 | .fN=>bS.loc _ _ _
 | .cP=>bS.loc _ _ _
 | .live=>jH.loc _ _ _ _
 | .ar k=>r7.loc _ _ _ _
 | .ca k=>rK.loc _ _ _
 | .hn _=>λ_ _ _ _ _ _ _=>trivial
structure NK (U:Hp) (B:Rg) (w:Hp) (P:Rg) (tb:List cA) (cf:Cf) (N:pt):Prop where
 sep:Sep (iR tb cf N) w P
 e:bL U w
 p:∀b,P b->U.size<=b/\¬B b/\b<w.size
 b:∀b,B b->U.size<=b/\b<w.size
variable {N N':pt}
theorem NK.fr (K:NK U B w P tb cf N)(e:bL w w'):NK U B w' P tb cf N:=
 ⟨(Sep.loc iR.loc).bP K.sep e,K.e.trans e,λb a=>⟨(K.p b a).1,(K.p b a).2.1,by have:=(K.p b a).2.2;have:=e.1;omega⟩,λb a=>by have:=K.b b a;have:=e.1;omega⟩
theorem NK.box (K:NK U B w P tb cf N)(e:bL w w')(hz:w'.size=w.size+1):NK U (λb=>B b\/b=w.size) w' P tb cf N:=by
 have h:=K.fr e;have i:=K.e.1;exact⟨h.sep,h.e,λb a=>⟨(K.p b a).1,λg=>g.elim (K.p b a).2.1 λd=>by have:=(K.p b a).2.2;omega,(h.p b a).2.2⟩,λb a=>a.elim (h.b b) λd=>O⟩
theorem NK.drop (K:NK U B w P tb cf N){B':Rg}(hb:∀b,B' b->B b):NK U B' w P tb cf N:=⟨K.sep,K.e,λb h=>⟨(K.p b h).1,λa=>(K.p b h).2.1 (hb b a),(K.p b h).2.2⟩,λb h=>K.b b (hb b h)⟩
theorem NK.put (K:NK U B w P tb cf N)(e:bL w w')(i:kI)(hj:∀j,j≠i->iR tb cf N' j=iR tb cf N j)(hi:iR tb cf N' i w' (λb=>w.size<=b)):NK U B w' (λb=>P b\/w.size<=b/\b<w'.size) tb cf N':=by
 have h:=K.fr e;have m:=K.e.1;refine⟨h.sep.put iR.loc i (G:=λb=>w.size<=b/\b<w'.size) (λb a g=>by have:=(K.p b g).2.2;omega) hj ((iR.loc i).mono hi λb a d=>⟨d,a⟩) (iR.loc i),h.e,λb a=>?_,h.b⟩;rcases a with a|a
 ·exact h.p b a
 ·exact⟨O,λd=>by have:=(K.b b d).2;omega,a.2⟩
theorem NK.step (K:NK U B w P tb cf N)(i:kI):∃G:Rg,(∀b,G b->P b)/\iR tb cf N i w G/\∀(w':Hp) (N':pt) (G':Rg),(∀j,j≠i->iR tb cf N' j=iR tb cf N j)->Ext G w w'->(∀b,G' b->G b\/w.size<=b/\¬B b)->iR tb cf N' i w' G'->(∀b,B b->b<w'.size) →
 NK U B w' (λb=>(P b/\¬G b\/G' b)/\b<w'.size) tb cf N':=by
 obtain⟨G,m,y,_,g⟩:=K.sep.jM iR.loc i;refine⟨G,m,y,λw' N' G' u e r s x=>⟨?_,?_,λb a=>?_,λb a=>⟨(K.b b a).1,x b a⟩⟩⟩
 ·have:=g w' (iR tb cf N') G' u e (λb a=>(r b a).imp id λd=>d.1) s (iR.loc _);refine(Sep.loc iR.loc).mono this λb a d=>⟨?_,a⟩;exact d.imp (λd=>⟨d.1,d.2.2⟩) id
 ·exact Ext.dS K.e e λb a=>.inr (K.p b (m b a)).1
 ·have z:=K.e.1;rcases a.1 with h1|h1
  ·exact⟨(K.p b h1.1).1,(K.p b h1.1).2.1,a.2⟩
  ·rcases r b h1 with h2|h2
   ·exact⟨(K.p b (m b h2)).1,(K.p b (m b h2)).2.1,a.2⟩
   ·exact⟨O,h2.2,a.2⟩
theorem Bc {K:eL [.p]}{body:eL [.p]->Prop}(P:Option Addr->Hp->Prop)(h1:∀r w,P r w->K r w)(h2:∀J:eL [.p],(∀r w,P r w->J r w)->body J):Jn [.p] K body:=Jn.intro (h2 K h1)
def gI:Sl:=⟨none,0,0⟩
def pR (cs:List gU):List Value:=cs.flatMap λc=>[.pointer (some ⟨c.p,0,none⟩),.slice none 0 0,.nilIface]
def N0 (p:Nat)(dF:Sl)(lm:Nat):pt:=⟨p,dF,lm,none,none,gI,[],gI,gI,[],gI,[],[]⟩
def NB (p:Nat)(dF:Sl)(lm q:Nat)(aw:Sl)(ys:List Lay)(tw:Sl)(cs:List gU):pt:=⟨p,dF,lm,some q,some q,aw,ys.map (·.p),aw,tw,pR cs,tw,ys,cs⟩
theorem D8 {p lm:Nat}{dF:Sl}{D:Rg}(e:bL U w)(hz:U.size<w.size)(hp:bZ w p (qI cf (N0 p dF lm)))(hm:dJ w lm .i64 (.ag 4) [])(ht:cV dF 3 (gF tb) w D)(hD:∀b,D b->U.size<b/\b<w.size/\b≠p/\b≠lm)(hpl:p≠lm)(h1:U.size<p)(h2:U.size<lm) :
 NK U (· = U.size) w (λb=>D b\/b=p\/b=lm) tb cf (N0 p dF lm):=by
 have d:=hp.lt;have g:=hm.lt;refine⟨⟨λb=>if b=p then .hd else if b=lm then .live else .dF,λi=>?_⟩,e,λb a=>?_,λb a=>O⟩
 ·cases i with
  | hd=>exact⟨⟨.inr (.inl rfl),zC rfl⟩,hp⟩
  | live=>exact⟨⟨.inr (.inr rfl),by show(if lm=p then kI.hd else if lm=lm then kI.live else kI.dF)=.live;rw[zB (Ne.symm hpl),zC rfl]⟩,hm⟩
  | dF=>exact aH.mono ht λb _ a=>⟨.inl a,by show(if b=p then kI.hd else if b=lm then kI.live else kI.dF)=.dF;rw[zB (hD b a).2.2.1,zB (hD b a).2.2.2]⟩
  | sp=>trivial
  | fN=>exact bS.nil _ _ _ _
  | cP=>exact bS.nil _ _ _ _
  | ar k=>trivial
  | ca k=>trivial
  | hn k=>trivial
 ·rcases a with a|a|a
  ·have:=hD b a;omega
  ·omega
  ·omega
theorem NK.yP (K:NK U B w P tb cf N):P N.p/\bZ w N.p (qI cf N):=by
 obtain⟨G,b,a⟩:=K.sep.get .hd;exact⟨b _ a.1,a.2⟩
theorem NK.qF (K:NK U B w P tb cf N)(N':pt)(hN':∀j,j≠.hd->iR tb cf N' j=iR tb cf N j)(hp:N'.p=N.p){i:Nat}{v:Value}(hs:(qI cf N).set i v=qI cf N')(hi:i<10){Kk:aP}(hK:∀w' P',NK U B w' P' tb cf N'->QR w w' N.p->Kk w'):dU (Addr.add ⟨N.p,0,none⟩ i) v w Kk:=by
 obtain⟨G,m,e,a⟩:=K.step .hd;have e:iB N.p (qI cf N) w G:=e;refine e.2.s1 (by simpa[qI]using hi) λw' o g=>hK w' _ (a w' N' G hN' (o.ext.sub λx d=>by rw[d];exact e.1) (λx d=>.inl d) ?_ λx d=>by have:=(K.b x d).2;have:=o.1;omega) o;show iB N'.p (qI cf N') w' G;rw[zH,hs]at g;rw[hp];exact⟨e.1,g⟩
theorem OE {Y:Lay}(h:N'.ys=N.ys++[Y])(hr:∀j,(∀k,j≠.ar k)->iR tb cf N' j=iR tb cf N j):∀j,j≠kI.ar N.ys.length->iR tb cf N' j=iR tb cf N j:=by
 intro j hj;cases j with
 | ar k=>
  have a:k≠N.ys.length:=λe=>hj (by rw[e]);show r7 _ _ _ N'.ys[k]?=r7 _ _ _ N.ys[k]?;rw[h]
  congr 1
  rcases Nat.lt_or_gt_of_ne a with h1|h1
  ·rw[zd h1]
  ·rw[zW aE,zW O]
 | _=>exact hr _ (λk e=>by cases e)
theorem MZ {Y:gU}(h:N'.cs=N.cs++[Y])(hr:∀j,(∀k,j≠.ca k)->iR tb cf N' j=iR tb cf N j):∀j,j≠kI.ca N.cs.length->iR tb cf N' j=iR tb cf N j:=by
 intro j hj;cases j with
 | ca k=>
  have a:k≠N.cs.length:=λe=>hj (by rw[e]);show rK _ _ N'.cs[k]?=rK _ _ N.cs[k]?;rw[h]
  congr 1
  rcases Nat.lt_or_gt_of_ne a with h1|h1
  ·rw[zd h1]
  ·rw[zW aE,zW O]
 | _=>exact hr _ (λk e=>by cases e)
end Go.Ar
namespace Go.Ar
open Go Go.Vc Go.Proofs
variable {U u w w':Hp}{F B P Q:Rg}{n:Nat}{cs:List Value}{tb:List cA}{cf:Cf}{N:pt}
theorem DC (p a t b r:Int):sA p a t b r=true↔(32<=p/\p<=1024/\p%16=0)/\(1<=a/\a<=4)/\(1<=t/\t<=4)/\(0<=b/\b<=65536)/\0<=r/\r<=8:=by
 simp only[sA,zE,zU,zT];omega
theorem AE (g:Gl U)(gd:Gd U):iW (λb=>U.size<=b)/\¬(U.size<=1):=by
 refine⟨?_,λh=>by have:=Au gd;omega⟩;have d:iW (λ_=>False):=λb a=>a.elim;exact(d.grow g).sub λb a=>.inr a
theorem TC (cs:List gU)(ls:List Li):gT (cs.map λc=>⟨c,gI⟩) (List.replicate cs.length ⟨ls,[],none⟩)=pR cs:=by
 induction cs with
 | nil=>rfl
 | cons c cs ih=>
  have e1:gT ((c::cs).map λc=>(⟨c,gI⟩:eJ)) (List.replicate (c::cs).length ⟨ls,[],none⟩)=jq (⟨c,gI⟩,⟨ls,[],none⟩)++gT (cs.map λc=>(⟨c,gI⟩:eJ)) (List.replicate cs.length ⟨ls,[],none⟩):=rfl;rw[e1,ih];rfl
theorem Rk (cs:List gU):(pR cs).length=cs.length*3:=by
 induction cs with
 | nil=>rfl
 | cons c cs ih=>simp only[pR,qm,zM,zV,lx]at *;omega
set_option maxRecDepth 8000 in
theorem N9 {s:Sl}{xs:List (Int×Int×Int)}(ha:iw U s xs)(g:Gl U)(gd:Gd U)(p a t b r:Int){R:Option Addr->Int->Hp->Prop}
 (h2:QK xs=false->∀σ',bL U σ'->R none 2 σ')
 (h1:QK xs=true->sA p a t b r=false->∀σ',bL U σ'->R none 1 σ')
 (h0:QK xs=true->sA p a t b r=true->∀σ' L,bL U σ'->HH σ' (λq=>U.size<=q) L (Un (xs.map Qo) ⟨p.toNat,a.toNat,t.toNat,b.toNat,r.toNat⟩)->R (some ⟨L.p,0,none⟩) 0 σ') :
 KY.c s p a t b r U R:=by
 refine KY.o ?_;unfold KY.v;refine nw (cs:=[.int .i64 p,.int .i64 a,.int .i64 t,.int .i64 b,.int .i64 r]) λv hz e y=>?_;refine G2 (Qb ha e) λv1 e1=>?_;cases hv:QK xs with
 | false=>exact cD rfl (h2 hv v1 (e.trans e1))
 | true=>
 have X:=e1.bW y id;refine cE rfl (X.rI rfl (X.rI rfl (X.rI rfl (X.rI rfl (X.rI rfl (SS p a t b r λv2 e2=>?_))))));have W:=(e.trans e1).trans e2;cases hc:sA p a t b r with
 | false=>exact cD rfl (h1 hv hc v2 W)
 | true=>
 have hcf:=(DC p a t b r).1 hc;obtain⟨p,rfl⟩:∃n:Nat,p=(n:Int):=⟨p.toNat,O⟩;obtain⟨a,rfl⟩:∃n:Nat,a=(n:Int):=⟨a.toNat,O⟩;obtain⟨t,rfl⟩:∃n:Nat,t=(n:Int):=⟨t.toNat,O⟩;obtain⟨b,rfl⟩:∃n:Nat,b=(n:Int):=⟨b.toNat,O⟩;obtain⟨r,rfl⟩:∃n:Nat,r=(n:Int):=⟨r.toNat,O⟩;simp only[dD]at h0;have h0:=h0 hv hc;have A:=e2.bW X id;have hxl:=(QB xs).1 hv;have hz2:=W.1;have hz02:U.size<v2.size:=A.lt;generalize hcfd:(⟨p,a,t,b,r⟩:Cf)=cf at h0;generalize htbd:xs.map Qo=tb at h0;have hdE:∀(q:Nat) (dF:Sl) (C:Nat),qI cf (N0 q dF C)=[.slice dF.a dF.len dF.cap,.int .i64 (p:Int),.int .i64 (a:Int),.int .i64 (t:Int),.int .i64 (b:Int),.int .i64 (r:Int),.pointer none,.slice none 0 0,.slice none 0 0,.map (some C)]:=λq dF C=>by rw[←hcfd];rfl
 refine cE rfl (Bc (λvh w=>∃P q dF C,vh=some ⟨q,0,none⟩/\NK U (· = U.size) w P tb cf (N0 q dF C)/\bZ w U.size [.int .i64 (p:Int),.int .i64 (a:Int),.int .i64 (t:Int),.int .i64 (b:Int),.int .i64 (r:Int)]) (λvh w ⟨P,q,dF,C,hvh,K,hbw⟩=>?_) λJ hJ=>?_)
 ·subst hvh;refine hbw.rI rfl (P8 (n:=p) O O λv4 sp e4 _ hS=>?_);have hp:cf.aF=p:=by rw[←hcfd]
  have hroom:cf.room=r:=by rw[←hcfd]
  have hbud:cf.dC=b:=by rw[←hcfd]
  have K1:NK U (· = U.size) v4 _ tb cf {N0 q dF C with hs:=some sp}:=K.put e4 .sp (λj H=>by cases j<;>first|rfl|exact absurd rfl H) (by
   show dN v4 _ sp (VT cf.aF);rw[hp];exact hS)
  have hbw4:=e4.bW hbw id;refine aG (K1.qF (NB q dF C sp gI [] gI []) (λj H=>by cases j<;>first|rfl|exact absurd rfl H) rfl (i:=6) rfl O λv5 P5 K5 o5=>?_)
  have ak:∀{w:Hp} {P:Rg} {N:pt},NK U (· = U.size) w P tb cf N->U.size≠N.p:=λK e=>(K.p _ K.yP.1).2.1 e.symm;have hbw5:=WH o5 hbw4 (ak K1);refine hbw5.rI rfl ?_;refine Qg (a:=bO) (λ(z:Int) w=>∃(P:Rg) (aw:Sl) (ys:List Lay),z=(ys.length:Int)/\ys.length<=a/\(∀Y∈ys,Y.hs=sp)/\NK U (· = U.size) w P tb cf (NB q dF C sp aw ys gI [])/\bZ w U.size [.int .i64 (p:Int),.int .i64 (a:Int),.int .i64 (t:Int),.int .i64 (b:Int),.int .i64 (r:Int)]) (λz _=>a-z.toNat) ⟨P5,gI,[],rfl,by simp,by simp,K5,hbw5⟩ ?_;rintro(z:Int) w6 ⟨P6,aw,ys,rfl,hyl,hys,K6,hbw6⟩;refine cQ (λhlt=>?_) λhge=>?_
  ·refine⟨λu=>u=w6,rfl,aG ⟨some ⟨sp,0,none⟩,λu hu=>by cases hu;rw[add_lit];exact(bZ.cell (b:=q) K6.yP.2).trans rfl,⟨(r:Int),λu hu=>by cases hu;rw[add_lit,hbw6.cell];rfl,?_⟩⟩⟩;obtain⟨GS,hGS,hSp⟩:=K6.sep.get .sp;have hSp:dN w6 GS sp (VT cf.aF):=hSp;have hnl:(VT cf.aF).st.length=p:=by rw[hp];simp[VT]
   have hnE:kW xs (VT cf.aF).st.length (r:Int)=0:=by
    unfold kW;rw[zC hv,hnl,zC O]
   refine Oa (Qb ha K6.e) hSp (r:Int) (λhne=>absurd hnE hne) λ_ v7 Y e7 hYh hA=>?_;rw[hnl,dD,htbd]at hA;have K7:NK U (· = U.size) v7 _ tb cf {NB q dF C sp aw ys gI []with ys:=ys++[Y]}:=K6.put e7 (.ar ys.length) (OE (N:=NB q dF C sp aw ys gI []) rfl (λj H=>by
    cases j with
    | ar k=>exact absurd rfl (H k)
    | _=>rfl)) (by
    show r7 cf.aF cf.room tb (ys++[Y])[ys.length]? v7 _;rw[zm (zD _),oU,hp,hroom];exact hA)
   have Q:=e7.bW hbw6 id;refine aG (K7.yP.2.rS (a:=aw.a) (n:=aw.len) (c:=aw.cap) rfl (nw (cs:=[.pointer (some ⟨Y.p,0,none⟩)]) λv8 hz8 e8 hb8=>?_));have K8:=K7.box e8 hz8;obtain⟨G,hG,d,ah⟩:=K8.step .fN;have d:bS aw 1 (fJ (ys.map (·.p))) v8 G:=d;have hal:aw.len=ys.length:=by have:=d.1;simp[fJ]at this;omega
   refine d.app (ys:=[.pointer (some ⟨Y.p,0,none⟩)]) rfl rfl ?_ (by simp[dR]) ?_ ?_ ng λs' v9 _ e9 hr9=>?_
   ·intro j u hu;rw[add_lit,zH,hb8.cell];exact hu
   ·simp only;omega
   ·simp only;omega
   have hz9:=e9.1;have hbw9:bZ v9 U.size _:=e9.bW (e8.bW Q id) λE=>(K8.p _ (hG _ E)).2.1 (.inl rfl);have K9:=(ah v9 {NB q dF C sp aw ys gI []with ys:=ys++[Y],aw:=s',al:=(ys++[Y]).map (·.p)} (λb=>Grow G v8 b/\b<v9.size) (λj H=>by cases j<;>first|rfl|exact absurd rfl H) e9 (λb y=>y.1.imp id λE=>⟨E,λhB=>by have:=(K8.b b hB).2;omega⟩) (by
    show bS s' 1 (fJ ((ys++[Y]).map (·.p))) v9 _;have:fJ ((ys++[Y]).map (·.p))=fJ (ys.map (·.p))++[.pointer (some ⟨Y.p,0,none⟩)]:=by simp[fJ]
    rw[this];exact aI.mono hr9 λb y E=>⟨E,y⟩) λb hB=>by have:=(K8.b b hB).2;omega).drop (B':=(· = U.size)) λb y=>.inl y
   refine aG (K9.qF (NB q dF C sp s' (ys++[Y]) gI []) (λj H=>by cases j<;>first|rfl|exact absurd rfl H) rfl (i:=7) rfl O λaf P10 K10 fZ=>?_)
   have M:=WH fZ hbw9 (ak K9);exact cS (m:=ys.length+1) O O ⟨⟨P10,s',ys++[Y],by simp,by simp;omega,λZ hZ=>(zK.1 hZ).elim (hys Z) λh=>by
    rw[zP]at h;rw[h];exact hYh,K10,M⟩,O⟩
  ·have hya:ys.length=a:=by omega
   refine hbw6.rI rfl ?_;refine Qg (a:=bO) (λ(z:Int) w=>∃(P:Rg) (tw:Sl) (cs:List gU),z=(cs.length:Int)/\cs.length<=t/\NK U (· = U.size) w P tb cf (NB q dF C sp aw ys tw cs)/\bZ w U.size [.int .i64 (p:Int),.int .i64 (a:Int),.int .i64 (t:Int),.int .i64 (b:Int),.int .i64 (r:Int)]) (λz _=>t-z.toNat) ⟨P6,gI,[],rfl,by simp,K6,hbw6⟩ ?_;rintro(z:Int) w7 ⟨P7,tw,cs,rfl,hcsl,K7,Q⟩;refine cQ (λhlt=>?_) λhge2=>?_
   ·refine Q.rI rfl (Rf (Qb ha K7.e) (b:Int) (λhvf=>by rw[hv]at hvf;cases hvf) (λ_ hn=>absurd ⟨O,O⟩ hn) λ_ _ _ v8 Y e8 hC=>?_);rw[dD,htbd]at hC;have K8:NK U (· = U.size) v8 _ tb cf {NB q dF C sp aw ys tw cs with cs:=cs++[Y]}:=K7.put e8 (.ca cs.length) (MZ (N:=NB q dF C sp aw ys tw cs) rfl (λj H=>by
     cases j with
     | ca k=>exact absurd rfl (H k)
     | _=>rfl)) (by
     show rK tb cf.dC (cs++[Y])[cs.length]? v8 _;rw[zm (zD _),oU,hbud];exact hC)
    have hbw8:=e8.bW Q id;refine aG (K8.yP.2.rS (a:=tw.a) (n:=tw.len) (c:=tw.cap) rfl (nw (cs:=[.pointer (some ⟨Y.p,0,none⟩),.slice none 0 0,.nilIface]) λv9 hz9 e9 hb9=>?_));have K9:=K8.box e9 hz9;obtain⟨G,hG,d,ah⟩:=K9.step .cP;have d:bS tw 3 (pR cs) v9 G:=d;have hal:tw.len=cs.length:=by have:=d.1;rw[Rk]at this;omega
    refine d.app (ys:=[.pointer (some ⟨Y.p,0,none⟩),.slice none 0 0,.nilIface]) rfl rfl ?_ (by simp[dR]) ?_ ?_ ng λs' af _ e10 hr10=>?_
    ·intro j u hu;rw[add_lit,zH,hb9.cell];exact hu
    ·simp only;omega
    ·simp only;omega
    have hz10:=e10.1;have M:bZ af U.size _:=e10.bW (e9.bW hbw8 id) λE=>(K9.p _ (hG _ E)).2.1 (.inl rfl);have K10:=(ah af {NB q dF C sp aw ys tw cs with cs:=cs++[Y],tw:=s',tl:=pR (cs++[Y])} (λb=>Grow G v9 b/\b<af.size) (λj H=>by cases j<;>first|rfl|exact absurd rfl H) e10 (λb y=>y.1.imp id λE=>⟨E,λhB=>by have:=(K9.b b hB).2;omega⟩) (by
     show bS s' 3 (pR (cs++[Y])) af _;have:pR (cs++[Y])=pR cs++[.pointer (some ⟨Y.p,0,none⟩),.slice none 0 0,.nilIface]:=by simp[pR]
     rw[this];exact aI.mono hr10 λb y E=>⟨E,y⟩) λb hB=>by have:=(K9.b b hB).2;omega).drop (B':=(· = U.size)) λb y=>.inl y
    refine aG (K10.qF (NB q dF C sp aw ys s' (cs++[Y])) (λj H=>by cases j<;>first|rfl|exact absurd rfl H) rfl (i:=8) rfl O λv11 P11 K11 o11=>?_)
    have hbw11:=WH o11 M (ak K10);exact cS (m:=cs.length+1) O O ⟨⟨P11,s',cs++[Y],by simp,by simp;omega,K11,hbw11⟩,O⟩
   ·have hct:cs.length=t:=by omega
    have V:cf.threads=cs.length:=by rw[←hcfd,hct]
    have aj:cf.ia=ys.length:=by rw[←hcfd,hya]
    have hN:=AE g gd;refine h0 w7 ⟨q,sp,C,dF,aw,tw,ys,cs.map λc=>⟨c,gI⟩⟩ K7.e ⟨⟨?_,hys,?_,?_,?_,?_,?_,?_⟩,?_,g.bP K7.e,gd.bP K7.e,hN.1,hN.2⟩
    ·simp[Un,aj]
    ·simp[Un,V]
    ·simp[Un,aj];omega
    ·simp[Un,aj];omega
    ·simp[Un,V];omega
    ·simp[Un,V];omega
    ·intro B hB;have:=A4 hB;rw[this];rfl
    ·refine(Sep.loc CH.loc).mono (G:=λq=>U.size<=q) ?_ λb _ y=>y;obtain⟨ρ,hs⟩:=(Sep.loc iR.loc).mono K7.sep (G:=λq=>U.size<=q) λb _ y=>(K7.p b y).1;refine⟨ρ,λi=>?_⟩;have S:=hs i;cases i with
     | hd=>exact S
     | dF=>exact S
     | sp=>exact S
     | fN=>exact bS.fX S
     | cP=>
      show bS tw 3 (gT (cs.map λc=>⟨c,gI⟩) (List.replicate cf.threads ⟨List.replicate tb.length ir,[],none⟩)) w7 _;rw[V,TC];exact S
     | live=>exact S
     | ar k=>
      show nQ ys[k]? (List.replicate cf.ia (fB cf.aF cf.room tb))[k]? w7 _;have S:r7 cf.aF cf.room tb ys[k]? w7 _:=S;unfold nQ;by_cases hk:k<ys.length
      ·rw[mR,zC O,cX hk];rw[cX hk]at S;exact S
      ·rw[zW O];trivial
     | ca k=>
      show qV (cs.map λc=>(⟨c,gI⟩:eJ))[k]? (List.replicate cf.threads (⟨List.replicate tb.length ir,[],none⟩:Th))[k]? tb cf.dC w7 _;have S:rK tb cf.dC cs[k]? w7 _:=S;unfold qV;by_cases hk:k<cs.length
      ·rw[mR,zC O,za,cX hk];rw[cX hk]at S;exact S
      ·rw[za,zW O];trivial
     | hn k=>
      show qf (cs.map λc=>(⟨c,gI⟩:eJ))[k]? (List.replicate cf.threads (⟨List.replicate tb.length ir,[],none⟩:Th))[k]? w7 _;unfold qf;by_cases hk:k<cs.length
      ·rw[mR,zC O,za,cX hk];exact iA.nil _ _ _
      ·rw[za,zW O];trivial
 ·have rd:∀(i:Nat) (x:Int),[Value.int .i64 (p:Int),.int .i64 (a:Int),.int .i64 (t:Int),.int .i64 (b:Int),.int .i64 (r:Int)][i]?=some (.int .i64 x)->∀m,bZ m U.size [.int .i64 (p:Int),.int .i64 (a:Int),.int .i64 (t:Int),.int .i64 (b:Int),.int .i64 (r:Int)]->cell m (Addr.add ⟨U.size,0,none⟩ i)=some (.int .i64 x):=λi x E m hm=>by
   rw[add_lit,hm.cell,zH];exact E
  refine⟨λm=>bZ m U.size [.int .i64 (p:Int),.int .i64 (a:Int),.int .i64 (t:Int),.int .i64 (b:Int),.int .i64 (r:Int)],A,⟨(p:Int),rd 0 _ rfl,⟨(a:Int),rd 1 _ rfl,⟨(t:Int),rd 2 _ rfl,⟨(b:Int),rd 3 _ rfl,⟨(r:Int),rd 4 _ rfl,⟨?_,?_⟩⟩⟩⟩⟩⟩⟩
  ·refine Uh (Qb ha W) hv λdF am ab F=>⟨ab.bW A id,ud λv17 z17 ad hm=>⟨ad.bW (ab.bW A id) id,?_⟩⟩;rw[htbd]at F;have hz16:=ab.1;refine nw (cs:=[.slice dF.a dF.len dF.cap,.int .i64 (p:Int),.int .i64 (a:Int),.int .i64 (t:Int),.int .i64 (b:Int),.int .i64 (r:Int),.pointer none,.slice none 0 0,.slice none 0 0,.map (some am.size)]) λv18 z18 ae hb18=>⟨ae.bW (ad.bW (ab.bW A id) id) id,hJ _ _ ⟨_,v17.size,dF,am.size,rfl,D8 (D:=λq=>v2.size<=q/\q<am.size) (((W.trans ab).trans ad).trans ae) O (by rw[hdE];exact hb18) (ae.fR (hm .i64 (.ag 4)) id) ?_ (λb y=>O) O O O,ae.bW (ad.bW (ab.bW A id) id) id⟩⟩;exact aH.bP (aH.bP (aH.mono F (G:=λq=>v2.size<=q/\q<am.size) λb y E=>⟨E,y⟩) ad) ae
  ·refine ud λv19 z19 aa hm=>⟨aa.bW A id,Uh (Qb ha (W.trans aa)) hv λdF v20 ac F=>⟨ac.bW (aa.bW A id) id,?_⟩⟩;rw[htbd]at F;have hz20:=ac.1;refine nw (cs:=[.slice dF.a dF.len dF.cap,.int .i64 (p:Int),.int .i64 (a:Int),.int .i64 (t:Int),.int .i64 (b:Int),.int .i64 (r:Int),.pointer none,.slice none 0 0,.slice none 0 0,.map (some v2.size)]) λv21 z21 ai hb21=>⟨ai.bW (ac.bW (aa.bW A id) id) id,hJ _ _ ⟨_,v20.size,dF,v2.size,rfl,D8 (D:=λq=>v19.size<=q/\q<v20.size) (((W.trans aa).trans ac).trans ai) O (by rw[hdE];exact hb21) (ai.fR (ac.fR (hm .i64 (.ag 4)) id) id) ?_ (λb y=>O) O O O,ai.bW (ac.bW (aa.bW A id) id) id⟩⟩;exact aH.bP (aH.mono F (G:=λq=>v19.size<=q/\q<v20.size) λb y E=>⟨E,y⟩) ai
end Go.Ar
namespace Go.Ar
open Go Go.Vc Go.Proofs
variable {U u w w':Hp}{F B P Q:Rg}{L:dH}{H:Hw}{t:Nat}{g:Th}
theorem Og (u:Value){R:ByteArray->Hp->Prop}(h:Wi Tryz.prog 379 #[u] [.one .str] U R):iV Tryz.prog (.iface 235 u) "freehold/heap.name" [] [.one .str] U R :=
 ⟨235,u,379,rfl,λw=>by kernel_rfl,λxs w=>by kernel_rfl,h⟩
theorem TU (u:Value){R:ByteArray->Hp->Prop}(h:Wi Tryz.prog 383 #[u] [.one .str] U R):iV Tryz.prog (.iface 245 u) "freehold/heap.name" [] [.one .str] U R :=
 ⟨245,u,383,rfl,λw=>by kernel_rfl,λxs w=>by kernel_rfl,h⟩
theorem RX (u:Value){R:ByteArray->Hp->Prop}(h:Wi Tryz.prog 385 #[u] [.one .str] U R):iV Tryz.prog (.iface 248 u) "freehold/heap.name" [] [.one .str] U R :=
 ⟨248,u,385,rfl,λw=>by kernel_rfl,λxs w=>by kernel_rfl,h⟩
theorem Td (u:Value){R:ByteArray->Hp->Prop}(h:Wi Tryz.prog 386 #[u] [.one .str] U R):iV Tryz.prog (.iface 250 u) "freehold/heap.name" [] [.one .str] U R :=
 ⟨250,u,386,rfl,λw=>by kernel_rfl,λxs w=>by kernel_rfl,h⟩
theorem OI (u:Value){R:ByteArray->Hp->Prop}(h:Wi Tryz.prog 384 #[u] [.one .str] U R):iV Tryz.prog (.iface 247 u) "freehold/heap.name" [] [.one .str] U R :=
 ⟨247,u,384,rfl,λw=>by kernel_rfl,λxs w=>by kernel_rfl,h⟩
theorem Rr (u:Value){R:ByteArray->Hp->Prop}(h:Wi Tryz.prog 380 #[u] [.one .str] U R):iV Tryz.prog (.iface 237 u) "freehold/heap.name" [] [.one .str] U R :=
 ⟨237,u,380,rfl,λw=>by kernel_rfl,λxs w=>by kernel_rfl,h⟩
theorem N3 (u:Value){R:ByteArray->Hp->Prop}(h:Wi Tryz.prog 381 #[u] [.one .str] U R):iV Tryz.prog (.iface 239 u) "freehold/heap.name" [] [.one .str] U R :=
 ⟨239,u,381,rfl,λw=>by kernel_rfl,λxs w=>by kernel_rfl,h⟩
theorem SE (u:Value){R:ByteArray->Hp->Prop}(h:Wi Tryz.prog 387 #[u] [.one .str] U R):iV Tryz.prog (.iface 255 u) "freehold/heap.name" [] [.one .str] U R :=
 ⟨255,u,387,rfl,λw=>by kernel_rfl,λxs w=>by kernel_rfl,h⟩
theorem OV (u:Value){R:ByteArray->Hp->Prop}(h:Wi Tryz.prog 388 #[u] [.one .str] U R):iV Tryz.prog (.iface 258 u) "freehold/heap.name" [] [.one .str] U R :=
 ⟨258,u,388,rfl,λw=>by kernel_rfl,λxs w=>by kernel_rfl,h⟩
theorem T5 (u:Value){R:ByteArray->Hp->Prop}(h:Wi Tryz.prog 389 #[u] [.one .str] U R):iV Tryz.prog (.iface 262 u) "freehold/heap.name" [] [.one .str] U R :=
 ⟨262,u,389,rfl,λw=>by kernel_rfl,λxs w=>by kernel_rfl,h⟩
theorem RK (u:Value){R:ByteArray->Hp->Prop}(h:Wi Tryz.prog 382 #[u] [.one .str] U R):iV Tryz.prog (.iface 241 u) "freehold/heap.name" [] [.one .str] U R :=
 ⟨241,u,382,rfl,λw=>by kernel_rfl,λxs w=>by kernel_rfl,h⟩
def n4 (s:ByteArray):Prop:=(s.toList==(ByteArray.mk #[]).toList)=false
theorem LH (p:Ph){R:ByteArray->Hp->Prop}(hR:∀s σ',bL U σ'->n4 s->R s σ'):iV Tryz.prog (nc (some p)) "freehold/heap.name" [] [.one .str] U R := by
 cases p with
 | take k=>
  refine Og _ (Z4.o ?_);unfold Z4.v;exact nw (cs:=[.int .i64 (k:Int)]) λv hz e hb=>hR _ v e (by unfold n4;decide +kernel)
 | cJ k w=>
  refine TU _ (Zd.o ?_);unfold Zd.v;exact nw (cs:=[.int .i64 (k:Int),.int .i64 (w:Int)]) λv hz e hb=>hR _ v e (by unfold n4;decide +kernel)
 | cL k w=>
  refine RX _ (Zv.o ?_);unfold Zv.v;exact nw (cs:=[.int .i64 (k:Int),.int .i64 (w:Int)]) λv hz e hb=>hR _ v e (by unfold n4;decide +kernel)
 | grow k w=>
  refine Td _ (Z9.o ?_);unfold Z9.v;exact nw (cs:=[.int .i64 (k:Int),.int .i64 (w:Int)]) λv hz e hb=>hR _ v e (by unfold n4;decide +kernel)
 | fill=>
  refine OI _ (Z6.o ?_);unfold Z6.v;exact nw (cs:=[]) λv hz e hb=>hR _ v e (by unfold n4;decide +kernel)
 | eI m=>
  refine Rr _ (ZV.o ?_);unfold ZV.v;exact nw (cs:=[.int .i64 (m:Int)]) λv hz e hb=>hR _ v e (by unfold n4;decide +kernel)
 | find x=>
  refine N3 _ (Z3.o ?_);unfold Z3.v;exact nw (cs:=[.int .i64 x]) λv hz e hb=>hR _ v e (by unfold n4;decide +kernel)
 | put k x=>
  refine SE _ (Qj.o ?_);unfold Qj.v;exact nw (cs:=[.int .i64 (k:Int),.int .i64 x]) λv hz e hb=>hR _ v e (by unfold n4;decide +kernel)
 | back=>
  refine OV _ (Z8.o ?_);unfold Z8.v;exact nw (cs:=[]) λv hz e hb=>hR _ v e (by unfold n4;decide +kernel)
 | dE s a=>
  refine T5 _ (Z2.o ?_);unfold Z2.v;exact nw (cs:=[.int .i64 s,.int .i64 a]) λv hz e hb=>hR _ v e (by unfold n4;decide +kernel)
 | drain=>
  refine RK _ (ZW.o ?_);unfold ZW.v;exact nw (cs:=[]) λv hz e hb=>hR _ v e (by unfold n4;decide +kernel)
def Ur (H:Hw)(thread:Int):Option Ph:=if 0<=thread/\thread<(H.bR.length:Int)then(match H.bR[thread.toNat]? with
 | some g=>g.ph
 | none=>none)else none
theorem E0 (h:HH U F L H)(thread:Int){R:ByteArray->Hp->Prop}(hR:∀s σ',bL U σ'->(s.toList==(ByteArray.mk #[]).toList)=(Ur H thread).isNone->R s σ'):YR.c (aW L.p) thread U R:=by
 refine YR.o ?_;unfold YR.v;have i:Ur H thread=none->R (ByteArray.mk #[]) U:=λd=>hR _ U (Ext.refl _ _) (by rw[d];decide +kernel);refine US h (KH (λr w=>w=U/\r = !decide (0<=thread/\thread<(H.bR.length:Int))) (λr w ⟨y,B⟩=>?_) λJ C=>cE rfl (AM h thread (C _ _ ⟨rfl,rfl⟩)));subst y;refine KH (λr A=>A=w/\r=(Ur H thread).isNone) (λr A ⟨y,b⟩=>?_) λJ1 j=>?_
 ·rw[y];cases d:Ur H thread with
  | none=>rw[d]at b;exact cD (by rw[b];rfl) (i d)
  | some p=>
   rw[d]at b;have a:=d;unfold Ur at a;split at a
   ·rename_i hth;obtain⟨t,rfl⟩:∃t:Nat,thread=(t:Int):=⟨thread.toNat,O⟩;have u:t<H.bR.length:=by omega
    obtain⟨x,g,z,m⟩:=h.th u;rw[dD,m]at a;simp only at a;refine cE (by rw[b];rfl) (aG (h.hd.rS rfl (h.tR z m ?_)));rw[a];exact LH p λs σ' e u=>hR s σ' e (by rw[d];exact u)
   ·cases a
 ·by_cases hth:0<=thread/\thread<(H.bR.length:Int)
  ·obtain⟨t,rfl⟩:∃t:Nat,thread=(t:Int):=⟨thread.toNat,O⟩;have u:t<H.bR.length:=by omega
   obtain⟨x,g,z,m⟩:=h.th u;refine cE (by rw[B,zJ hth];rfl) (aG (h.hd.rS rfl (h.tR z m ⟨vf _,j _ _ ⟨rfl,?_⟩⟩)));rw[wK];unfold Ur;rw[zC hth,dD,m]
  ·refine cD (by rw[B,zL hth];rfl) (j _ _ ⟨rfl,?_⟩);unfold Ur;rw[zB hth];rfl
def lO (H:Hw):Prop:=1<=H.cf.aF/\H.cf.threads=H.bR.length/\mE H.tb
end Go.Ar
namespace Go.Ar
open Go Go.Vc Go.Proofs
open Go.Bu (eW)
variable {U u w w':Hp}{F B P Q:Rg}{L:dH}{H H':Hw}{t:Nat}{g:Th}
def Pa:List Value:=[.slice none 0 0,.int .i64 0,.int .i64 0,.int .i64 0,.int .i64 0,.int .i64 0,.pointer none,.slice none 0 0,.slice none 0 0,.map none]
def C1 (vh:Option Addr)(U:Hp):Prop:=vh=none\/∃n,vh=some ⟨n,0,none⟩/\bZ U n Pa
theorem C1.bP {vh:Option Addr}(h:C1 vh U)(e:bL U w):C1 vh w:=h.imp id λ⟨n,a,b⟩=>⟨n,a,e.bW b id⟩
def KN (H:Hw)(thread kind size align addr:Int)(H':Hw)(a e:Int):Prop:=
 (KP H thread kind size align addr=.inl e/\e≠0/\H'=H/\a=0)\/∃t p n,KP H thread kind size align addr=.inr (t,p)/\iG n (eP H t (some p)) t p H' a e
theorem Jx (hso:GM)(h:HH U F L H)(hv:mE H.tb){thread kind size align addr:Int}{a e:Int}(hw:KN H thread kind size align addr H' a e){R:Int->Int->Hp->Prop}
 (hR:∀σ' ts',Ext F U σ'->HH σ' (Grow F U) {L with ts:=ts'} H'->R a e σ'):Yf.c (aW L.p) thread kind size align addr U R:=by
 rcases hw with⟨hs,hne,rfl,rfl⟩|⟨t,p,n,hs,hr⟩
 ·exact Fk hso h hv thread kind size align addr (λg b _ σ' i d=>by
   rw[hs]at b;cases b;exact hR σ' L.ts i d) λt p b=>by rw[hs]at b;cases b
 ·exact Fk hso h hv thread kind size align addr (λg b=>by rw[hs]at b;cases b) λm j b=>by
   rw[hs]at b;cases b;exact⟨n,H',a,e,hr,hR⟩
theorem OU (hso:GM)(h:HH U F L H)(hv:mE H.tb){thread size align:Int}{a e:Int}(hw:KN H thread 0 size align 0 H' a e){R:Int->Int->Hp->Prop}
 (hR:∀σ' ts',Ext F U σ'->HH σ' (Grow F U) {L with ts:=ts'} H'->R a e σ'):YX.c (aW L.p) thread size align U R:=by
 refine YX.o ?_;unfold YX.v;exact Jx hso h hv hw hR
theorem NY (hso:GM)(h:HH U F L H)(hv:mE H.tb){thread addr:Int}{a e:Int}(hw:KN H thread 1 0 0 addr H' a e){R:aN}
 (hR:∀σ' ts',Ext F U σ'->HH σ' (Grow F U) {L with ts:=ts'} H'->R e σ'):ZF.c (aW L.p) thread addr U R:=by
 refine ZF.o ?_;unfold ZF.v;exact Jx hso h hv hw hR
def QQ (H' H:Hw):Prop:=H'.tb=H.tb/\H'.cf=H.cf/\H'.bR.length=H.bR.length/\H'.bY.length=H.bY.length
theorem QQ.refl (H:Hw):QQ H H:=⟨rfl,rfl,rfl,rfl⟩
theorem QQ.trans {H1 H2 H3:Hw}(a:QQ H2 H1)(b:QQ H3 H2):QQ H3 H1:=⟨b.1.trans a.1,b.2.1.trans a.2.1,b.2.2.1.trans a.2.2.1,b.2.2.2.trans a.2.2.2⟩
theorem Vm (H:Hw)(t:Nat)(f:Th->Th):QQ (H.dV t f) H:=⟨rfl,rfl,by simp[Hw.dV],rfl⟩
theorem Vn (H:Hw)(k:Nat)(A:AR)(sp:Sp):QQ {H.cF k A with sp:=sp} H:=⟨rfl,rfl,rfl,by simp[Hw.cF]⟩
theorem SM (H:Hw)(k:Nat)(part:Nat->List Int)(j:Nat):QQ (Vy H k part (List.range j)) H:=by
 induction j with
 | zero=>exact QQ.refl H
 | succ j ih=>
  rw[VA];split
  ·split
   ·exact ih
   ·exact ih.trans (Vn _ _ _ _)
  ·exact ih
theorem O6 (H:Hw)(own k:Nat)(xs:List Int):QQ (Gp H own k xs) H:=by
 unfold Gp;split
 ·split
  ·exact Vn _ _ _ H.sp
  ·refine QQ.trans ?_ (SM _ _ _ _);split
   ·exact Vn _ _ _ H.sp
   ·exact QQ.refl H
 ·exact QQ.refl H
theorem Te (H:Hw)(t k:Nat)(x:Int):QQ (iz H t k x) H:=by
 unfold iz;simp only;split<;>split<;>exact⟨rfl,rfl,by simp[Hw.dV,Q8],rfl⟩
theorem NR (H:Hw)(t:Nat)(p:Ph):QQ (WJ H t p).1 H:=by
 cases p with
 | take k=>simp only[WJ];split<;>exact⟨rfl,rfl,by simp[VV,Q8,Hw.dV,Hw.cF],by simp[VV,Q8,Hw.dV,Hw.cF]⟩
 | cJ k w=>
  simp only[WJ];split
  ·split
   ·exact(Vn _ _ _ H.sp).trans (Vm _ _ _)
   ·exact QQ.refl H
  ·exact QQ.refl H
 | cL k w=>
  simp only[WJ];split
  ·exact Vn _ _ _ H.sp
  ·exact(Vn _ _ _ H.sp).trans (Vm _ _ _)
 | grow k w=>simp only[WJ];split<;>exact Vn _ _ _ _
 | fill=>
  simp only[WJ];split
  ·exact⟨rfl,rfl,by simp[VV,Q8,Hw.dV,Hw.cF],by simp[VV,Q8,Hw.dV,Hw.cF]⟩
  ·exact QQ.refl H
 | eI m=>simp only[WJ];split<;>exact⟨rfl,rfl,by simp[VV,Q8,Hw.dV,Hw.cF],by simp[VV,Q8,Hw.dV,Hw.cF]⟩
 | find x=>
  simp only[WJ,Hi];split
  ·exact QQ.refl H
  ·split
   ·exact⟨rfl,rfl,rfl,rfl⟩
   ·exact QQ.trans (H2:={H with live:=Go.Vc.cT H.live x}) ⟨rfl,rfl,rfl,rfl⟩ (Vm _ _ _)
 | put k x=>exact Te H t k x
 | back=>
  simp only[WJ];split
  ·exact(Vm _ _ _).trans (O6 _ _ _ _)
  ·exact QQ.refl H
 | dE s a=>
  simp only[WJ];split
  ·exact Vn _ _ _ H.sp
  ·exact QQ.refl H
 | drain=>exact Vm _ _ _
theorem UR (H:Hw)(t:Nat)(p:Ph):QQ (QW H t p) H:=(NR H t p).trans (Vm _ _ _)
theorem IY {n:Nat}{H H':Hw}{t:Nat}{p:Ph}{a e:Int}(h:iG n H t p H' a e):QQ H' H:=by
 induction h with
 | done=>exact UR _ _ _
 | next _ _ _ ih=>exact(UR _ _ _).trans ih
theorem lO.bT (h:lO H)(k:QQ H' H):lO H':=⟨by rw[k.2.1];exact h.1,by rw[k.2.1,k.2.2.1];exact h.2.1,by rw[k.1];exact h.2.2⟩
end Go.Ar