/- Texts joined. -/
import Derived.Test.YtoeidadjhkkioaaGreatDoorO4
set_option linter.unusedVariables false
set_option linter.unusedSimpArgs false
namespace Go.Proofs
open Go.Vc
set_option maxRecDepth 100000
def Y1.h:Hn:=.q .o2 (.q .gC .l)
def Y1.v (a:R2)(b c d:Int)(e:Hp)(f:Int->Int->Hp->Prop):Prop:=Yp.c a b 0 c d 0 e λg h i=>f g h i
theorem Y1.o {a b c d e f}(g:Y1.v a b c d e f):Y1.c a b c d e f:=Wa Tryz.func22 (x:=Y1.h) (R0 g)
def Xw.h:Hn:=.q .o1 (.q .o6 .l)
def Xw.v (a:R2)(b c:Int)(d:Hp)(e:aN):Prop:=YW.c a d λf g=>Yy.c f b c g λh i=>e h i
theorem Xw.o {a b c d e}(f:Xw.v a b c d e):Xw.c a b c d e:=Wa Tryz.func29 (x:=Xw.h) (R0 f)
def YG.h:Hn:=.q .o2 (.q .o8 .l)
def YG.v (a:R2)(b:Int)(c:Hp)(d:Int->Int->Hp->Prop):Prop:=YW.c a c λe f=>YX.c e b f λg h i=>d g h i
theorem YG.o {a b c d}(e:YG.v a b c d):YG.c a b c d:=Wa Tryz.func32 (x:=YG.h) (R0 e)
def Yp.h:Hn:=.q .o3 (.q (.q .o5 (.q .o2 (.c (.q .o3 .l) .l))) (.k (.loop [] (.k (.q (.o 11) (.q .o1 (.c (.q (.oq 6) .l) .l)))))))
def Yp.v (a:R2)(b c d e f:Int)(g:Hp)(h:Int->Int->Hp->Prop):Prop:=aV #[.I c,.I d,.I e,.I f] 104 g λi j=>aQ i 0 j λk=>aQ i 1 j λl=>aQ i 2 j λm=>aQ i 3 j λn=>Zk.c a b k l m n j λo p=>If (o != 0) (h 0 o p) (Yb [] (λq=>q p) λr s=>Zp.c a b s λt u v w x=>aV #[.I 0,.I 0] 137 x λy z=>aR y 0 (.I u) z λaa=>aR y 1 (.I v) aa λab=>If t (aQ y 0 ab λac=>aQ y 1 ab λad=>h ac ad ab) (r ab))
theorem Yp.o {a b c d e f g h}(i:Yp.v a b c d e f g h):Yp.c a b c d e f g h:=Wa Tryz.func57 (x:=Yp.h) (R0 i)
def YW.h:Hn:=.q .o1 (.q (.q .o3 .aK) (.q .o5 .l))
def YW.v (a:R2)(b:Hp)(c:Option Addr->Hp->Prop):Prop:=XM.c a b λd e=>If (!d) (c none e) (bG a 6 e λg=>c g e)
theorem YW.o {a b c}(d:YW.v a b c):YW.c a b c:=Wa Tryz.func61 (x:=YW.h) (R0 d)
def XM.h:Hn:=.q .o1 (.q (.cU (.seq [.op,.op,.op,.cW true 6 (RI.ops 6),.op])) .l)
def XM.v (a:R2)(b:Hp)(c:aO):Prop:=bX (λd e=>c d e) λf=>If (!a.isNone) (bF a 8 b λh=>f (decide (((h.len:Nat):Int)>0)) b) (f false b)
theorem XM.o {a b c}(d:XM.v a b c):XM.c a b c:=Wa Tryz.func73 (x:=XM.h) (R0 d)
def ZH.h:Hn:=.q .o1 (.q .gC .aL)
def ZH.v (a:R2)(b c:Int)(d:Hp)(e:aN):Prop:=Yp.c a b 1 0 0 c d λf g h=>e g h
theorem ZH.o {a b c d e}(f:ZH.v a b c d e):ZH.c a b c d e:=Wa Tryz.func81 (x:=ZH.h) (R0 f)
def Zk.h:Hn:=.q .o2 (.q (.k (.q .o4 (.c .aM (.q .o5 (.c .aM (.q .gC .aK)))))) (.q .o4 (.q (.q .o2 .aK) (.q .o9 .aM))))
def Zk.v (a:R2)(b c d e f:Int)(g:Hp)(h:aN):Prop:=aV #[.I c,.I d,.I e,.I f] 104 g λi j=>XM.c a j λk l=>If (!k) (h 5 l) (Yo.c a b l λm n=>If (!m) (h 1 n) (bF a 8 n λp=>Ix p.a p.len b 3 λq=>bA q 2 n λr=>And (ji r) <| If (!(kN r)) (h 5 n) (aQ i 0 n λs=>aQ i 1 n λt=>aQ i 2 n λu=>aQ i 3 n λv=>YF.c a s t u v n λw x=>And (ji w) <| If (kN w) (h 1 x) (bF a 8 x λz=>Ix z.a z.len b 3 λaa=>And (ji w) <| aR aa 2 (w) x λab=>h 0 ab))))
theorem Zk.o {a b c d e f g h}(i:Zk.v a b c d e f g h):Zk.c a b c d e f g h:=Wa Tryz.func83 (x:=Zk.h) (R0 i)
def Zp.h:Hn:=.q .o3 (.q (.k (.q .o4 (.c (.q .o4 .l) (.q .o5 (.c (.q .o4 .l) (.q .gC (.c (.q .o4 .l) .l))))))) (.q (.o 17) (.q .o9 (.q (.cU (.tail 4 (RI.ops 4) [.op,.op])) .l))))
def Zp.v (a:R2)(b:Int)(c:Hp)(d:Bool->Int->Int->Int->Hp->Prop):Prop:=aV #[.I 0,.I 0] 137 c λe f=>XM.c a f λg h=>If (!g) (aR e 0 (.I 0) h λi=>aR e 1 (.I 0) i λj=>aQ e 0 j λk=>aQ e 1 j λl=>d false k l 5 j) (Yo.c a b h λm n=>If (!m) (aR e 0 (.I 0) n λo=>aR e 1 (.I 0) o λp=>aQ e 0 p λq=>aQ e 1 p λr=>d false q r 1 p) (bF a 8 n λt=>Ix t.a t.len b 3 λu=>bA u 2 n λv=>And (ji v) <| If (kN v) (aR e 0 (.I 0) n λw=>aR e 1 (.I 0) w λx=>aQ e 0 x λy=>aQ e 1 x λz=>d false y z 5 x) (bF a 8 n λab=>Ix ab.a ab.len b 3 λac=>bA ac 2 n λad=>ZK.c a b (ad) n λae af ag ah=>aV #[.I 0,.I 0] 137 ah λai aj=>aR ai 0 (.I af) aj λak=>aR ai 1 (.I ag) ak λal=>bF a 8 al λan=>Ix an.a an.len b 3 λao=>And (ji ae) <| aR ao 2 (ae) al λap=>And (ji ae) <| aQ ai 0 ap λaq=>aQ ai 1 ap λar=>aR e 0 (.I aq) ap λau=>aR e 1 (.I ar) au λav=>aQ e 0 av λaw=>aQ e 1 av λax=>d (kN ae) aw ax 0 av)))
theorem Zp.o {a b c d}(e:Zp.v a b c d):Zp.c a b c d:=Wa Tryz.func84 (x:=Zp.h) (R0 e)
def Vg.h:Hn:=.q .o3 (.q (.k (.q .o4 (.c .aL (.q .o4 .aJ)))) (.q (.cU (.gI true [] [(6,.one .p)] (.take 0 (.take 2 (.all [(1,.all [(3,.take 4 (.all [(5,.take 6 (.done))]))]),(3,.all [(1,.take 4 (.all [(5,.take 6 (.done))]))])]))))) (.q .gC (.q (.q .o3 (.k (.loop [(36,.I)] (.q .o1 (.q (.c .l .l) (.q (.k (.q (.cU (.held true [7] (.take 0 (.take 1 (.take 2 (.take 3 (.take 4 (.take 5 (.take 6 (.all [(7,.take 8 (.take 9 (.take 10 (.take 11 (.take 12 (.done))))))])))))))))) (.o 11))) .o2)))))) (.q (.q .o3 (.k (.loop [(62,.I)] (.q .o1 (.q (.c .l .l) (.q (.k (.q .o9 (.o 12))) .o2)))))) (.q .o3 .l))))))
def Vg.v (a:Sl)(b c d e f:Int)(g:Hp)(h:Option Addr->Int->Hp->Prop):Prop:=aV #[.I b,.I c,.I d,.I e,.I f] 23 g λi j=>ZU.c a j λk l=>If (!k) (h none 2 l) (aQ i 0 l λm=>aQ i 1 l λn=>aQ i 2 l λo=>aQ i 3 l λp=>aQ i 4 l λq=>Q1.c m n o p q l λr s=>If (!r) (h none 1 s) (Jn [.p] (λ(t:R2) u=>aQ i 0 u λv=>Kx.c v u λw x y=>bW t λz=>aR z 6 (.pointer w) y λaa=>aQ i 1 aa λab=>Yb [bO] (λac=>ac 0 aa) λad (ae:Int) af=>If (ae<ab) (dV af λag=>bW t λah=>aU ag ah 6 λai=>aS ag i 4 λaj=>Ku.c a ai aj af λak al am=>bF t 7 am λao=>aV #[.pointer ak] 150 am λap aq=>App ao 1 8 150 [.pointer none] ⟨some ap,1,1⟩ aq λar au=>bW t λav=>aR av 7 (.slice ar.a ar.len ar.cap) au λaw=>bM (ae+1) λax=>ad ax aw) (aQ i 2 af λay=>Yb [bO] (λaz=>az 0 af) λa0 (a1:Int) a2=>If (a1<ay) (aQ i 3 a2 λa3=>Kw.c a a3 a2 λa4 a5 a6=>bF t 8 a6 λa8=>aV #[.pointer a4,.slice none 0 0,.nilIface] 145 a6 λa9 ba=>App a8 3 48 145 [.pointer none,.slice none 0 0,.nilIface] ⟨some a9,1,1⟩ ba λbb bc=>bW t λbd=>aR bd 8 (.slice bb.a bb.len bb.cap) bc λbe=>bM (a1+1) λbf=>a0 bf be) (h t 0 a2))) λbg=>dV s λbh=>aS bh i 0 λbi=>aS bh i 1 λbj=>
 aS bh i 2 λbk=>aS bh i 3 λbl=>aS bh i 4 λbm=>(Wn.c a s λbn bo=>And (bh bo) <| Nw (.map #[] 0) bo λbp bq=>And (bh bq) <| aV #[.slice bn.a bn.len bn.cap,.I bi,.I bj,.I bk,.I bl,.I bm,.pointer none,.slice none 0 0,.slice none 0 0,.map (some bp.block)] 131 bq λbr bs=>And (bh bs) <| bg (some br) bs) ∧ (Nw (.map #[] 0) s λbt bu=>And (bh bu) <| Wn.c a bu λbv bw=>And (bh bw) <| aV #[.slice bv.a bv.len bv.cap,.I bi,.I bj,.I bk,.I bl,.I bm,.pointer none,.slice none 0 0,.slice none 0 0,.map (some bt.block)] 131 bw λbx bz=>And (bh bz) <| bg (some bx) bz)))
theorem Vg.o {a b c d e f g h}(i:Vg.v a b c d e f g h):Vg.c a b c d e f g h:=Wa Tryz.func97 (x:=Vg.h) (R0 i)
def XR.h:Hn:=.q .o2 (.q (.q .o3 .aJ) (.q (.o 12) (.q (.q .o2 .aJ) (.q .o4 .l))))
def XR.v (a:R2)(b:Int)(c:Hp)(d:Int->Int->Hp->Prop):Prop:=XM.c a c λe f=>If (!e) (d 0 5 f) (bJ a 9 f λh=>Lk .i64 (.ag 4) h b f λi=>aV #[.I 0,.I 0,.I 0,.I 0] 126 f λj k=>aR j 0 (.I ((i.getD (0,0,0,0)).1)) k λl=>aR j 1 (.I ((i.getD (0,0,0,0)).2.1)) l λm=>aR j 2 (.I ((i.getD (0,0,0,0)).2.2.1)) m λn=>aR j 3 (.I ((i.getD (0,0,0,0)).2.2.2)) n λo=>If (!i.isSome) (d 0 8 o) (aQ j 1 o λp=>d p 0 o))
theorem XR.o {a b c d}(e:XR.v a b c d):XR.c a b c d:=Wa Tryz.func99 (x:=XR.h) (R0 e)
def XT.h:Hn:=.q .o1 (.q (.q .o3 .aJ) (.q .o5 .l))
def XT.v (a:R2)(b:Hp)(c:Int->Int->Int->Int->Int->Hp->Prop):Prop:=aV #[.I 0,.I 0,.I 0,.I 0,.I 0] 23 b λd e=>XM.c a e λf g=>If (!f) (aR d 0 (.I 0) g λh=>aR d 1 (.I 0) h λi=>aR d 2 (.I 0) i λj=>aR d 3 (.I 0) j λk=>aR d 4 (.I 0) k λl=>aQ d 0 l λm=>aQ d 1 l λn=>aQ d 2 l λo=>aQ d 3 l λp=>aQ d 4 l λq=>c m n o p q l) (bW a λr=>bN ((r.add 1).add 0) g λs=>bN ((r.add 1).add 1) g λt=>bN ((r.add 1).add 2) g λu=>bN ((r.add 1).add 3) g λv=>bN ((r.add 1).add 4) g λw=>aR d 0 (.I s) g λx=>aR d 1 (.I t) x λy=>aR d 2 (.I u) y λz=>aR d 3 (.I v) z λaa=>aR d 4 (.I w) aa λab=>aQ d 0 ab λac=>aQ d 1 ab λad=>aQ d 2 ab λae=>aQ d 3 ab λaf=>aQ d 4 ab λag=>c ac ad ae af ag ab)
theorem XT.o {a b c}(d:XT.v a b c):XT.c a b c:=Wa Tryz.func106 (x:=XT.h) (R0 d)
def YV.h:Hn:=.q .o1 (.q (.q (.cU (.seq [.op,.op,.op,.op,.cW false 4 (RI.ops 4),.op,.cW false 9 (RI.ops 9)])) .aK) (.q .gC .l))
def YV.v (a:R2)(b:Int)(c:Hp)(d:ByteArray->Hp->Prop):Prop:=XM.c a c λe f=>bX (λg h=>bX (λi j=>If i (d (ByteArray.mk #[]) j) (bF a 8 j λl=>Ix l.a l.len b 3 λm=>bA m 2 j λn=>iW Tryz.prog n "freehold/heap.name" [] [.one .str] j fun t33 v3 =>d t33 v3)) λo=>If g (o true h) (bF a 8 h λq=>Ix q.a q.len b 3 λr=>bA r 2 h λs=>And (ji s) <| o (kN s) h)) λt=>If (!e) (t true f) (Yo.c a b f λu v=>t (!u) v)
theorem YV.o {a b c d}(e:YV.v a b c d):YV.c a b c d:=Wa Tryz.func107 (x:=YV.h) (R0 e)
def Yo.h:Hn:=.q .o1 (.q (.cU (.seq [.op,.op,.op,.cW true 7 (RI.ops 7),.op])) .l)
def Yo.v (a:R2)(b:Int)(c:Hp)(d:aO):Prop:=bX (λe f=>d e f) λg=>If (b≥0) (bF a 8 c λi=>g (decide (b<((i.len:Nat):Int))) c) (g false c)
theorem Yo.o {a b c d}(e:Yo.v a b c d):Yo.c a b c d:=Wa Tryz.func124 (x:=Yo.h) (R0 e)
def YF.h:Hn:=.q .o2 (.q (.q .o2 (.k (.q .o2 (.c (.q (.q (.cU (.seq [.op,.op,.op,.op,.cW false 3 (RI.ops 3)])) .aK) (.q (.cU (.held true [8] (.tk [0,1,2,3,4,5,6,7] (.all [(8,.tk [9,10,11,12,13] (.done))])))) (.q .o1 (.k (.q .o2 (.c (.q .o4 .l) (.q .o2 (.c (.q .o8 .l) .l)))))))) (.q .o2 (.c (.q .o5 .l) (.q .o2 (.c (.q .o3 .l) .l)))))))) .aM)
def YF.v (a:R2)(b c d e:Int)(f:Hp)(g:Value->Hp->Prop):Prop:=aV #[.I b,.I c,.I d,.I e] 104 f λh i=>aQ h 0 i λj=>If (j==0) (aQ h 1 i λk=>bX (λl m=>If l (g (.nilIface) m) (dV m λn=>bW a λo=>aT n o 0 λp=>aS n h 1 λq=>aS n h 2 λr=>QH.c p q r m λs t u=>If (t==0) (g (.iface 235 (.agg #[.I s])) u) (If (t==4) (aQ h 1 u λv=>bM (v+256) λw=>bM (w-1) λx=>Nz 256<|bM (x.tdiv 256) λy=>g (.iface 237 (.agg #[.I y])) u) (g (.nilIface) u)))) λz=>If (k<1) (z true i) (aQ h 1 i λaa=>z (decide (aa>16384)) i)) (If (j==1) (aQ h 3 i λab=>g (.iface 239 (.agg #[.I ab])) i) (If (j==2) (g (.iface 241 (.agg #[])) i) (g (.nilIface) i)))
theorem YF.o {a b c d e f g}(h:YF.v a b c d e f g):YF.c a b c d e f g:=Wa Tryz.func125 (x:=YF.h) (R0 h)
def ZK.h:Hn:=.q .o2 (.q .o7 (.q (.cU (.held true [] (.tk [0,1,2,3,4,5] (.all [(6,.take 7 (.all [(8,.take 9 (.done))]))])))) (.kK [] (.q .o1 (.k (.q .o3 (.c (.q .o2 (.q (.q (.cU (.held true [6] (.tk [0,1,2,3,4,5] (.all [(6,.tk [7,8,9,10,11] (.done))])))) (.q .o2 (.c (.q (.cU (.held true [17] (.tk [0,1,2,3,4,5,6,7,8,9,10,11,12] (.all [(13,.tk [14,15,16] (.all [(17,.done)]))])))) .l) .l))) (.q (.cU (.held true [6] (.tk [0,1,2,3,4,5] (.all [(6,.tk [7,8,9,10,11] (.done))])))) (.q .o8 .l)))) (.q .o3 (.c (.q .o2 (.kK [] (.q (.oq 12) (.c (.q .o9 (.q .o2 (.c (.q .o6 (.q .o5 .l)) .l))) .l)) (.q .o5 .l))) (.q .o3 (.c (.q .o2 (.q (.q (.o 11) (.q .o3 (.c (.q .o6 (.q .o5 .l)) .l))) (.q .o5 .l))) (.q .o3 (.c (.q .o2 (.q (.q .o5 (.q .o2 (.c (.q .o4 .l) .l))) (.q .o5 .l))) (.q .o3 (.c (.q .o2 (.q .o8 (.q .o4 (.q (.cU (.tail 9 (RI.ops 9) [.op])) (.q (.cU (.held true [20] (.tk [0,1,2,3,4,5,6,7,8,9,10,11,12,13,14,15] (.all [(16,.tk [17,18,19] (.all [(20,.done)]))])))) .l))))) (.q .o3 (.c (.q .o2 (.q .o9 (.q (.q .o2 (.c (.q .o4 .l) .l)) (.q (.o 11) .l)))) (.q .o3 (.c (.q .o2 (.q .o9 .l)) (.q .o3 (.c (.q .o2 (.kK [] (.q (.cU (.held true [8] (.tk [0,1,2,3,4,5,6,7] (.all [(8,.tk [9,10,11,12,13] (.done))])))) (.q .o3 (.c .o6 .l))) (.q .o9 (.kK [] (.q .o5 (.c (.cU (.held true [13] (.tk [0,1,2,3,4,5,6,7,8] (.all [(9,.all [(10,.take 11 (.take 12 (.all [(13,.done)])))])])))) .l)) (.q .o6 .l))))) (.q .o3 (.c (.q .o2 (.q .o8 (.q .gC (.q (.cU (.held true [5] (.take 0 (.take 1 (.take 2 (.take 4 (.all [(3,.all [(5,.done)])]))))))) (.q .o6 .l))))) (.q .o3 (.c (.q .o2 (.cU (.tail 10 (RI.ops 10) [.op]))) (.q .o3 (.c (.q .o2 (.q .o9 (.q .o6 .l))) .l)))))))))))))))))))))))) (.q .o3 .l))))
def ZK.v (a:R2)(b:Int)(c:Value)(d:Hp)(e:Value->Int->Int->Hp->Prop):Prop:=aV #[.I 0,.I 0] 137 d λf g=>bF a 8 g λi=>Ix i.a i.len b 3 λj=>dV g λk=>bW a λl=>aT k l 7 λm=>ZP.c a b g λn o=>And (k o) <| Ix m.a m.len n 1 λp=>fY p o λq=>And (k o) <| Jn [] (λr=>aR f 0 (.I 0) r λs=>aR f 1 (.I 0) s λt=>aQ f 0 t λu=>aQ f 1 t λv=>e (.nilIface) u v t) λw=>∃t52:Int,∃is:Bool,kj c 235 [.I t52] [.I 0] is ∧ (If is (aV #[.I 0] 235 o λx y=>dZ x (.I t52) y λz=>dV z λaa=>bW (some j) λab=>aU aa ab 0 λac=>aS aa x 0 λad=>Yr.c ac ad z λae af ag=>If (af==0) (dV ag λah=>bW a λai=>aT ah ai 0 λaj=>aS ah x 0 λak=>Ix aj.a aj.len ak 3 λal=>aS ah al 0 λam=>aS ah x 0 λan=>Y6.c a ae am an ag λao ap aq ar=>And (ah ar) <| aR f 0 (.I ap) ar λau=>aR f 1 (.I aq) au λav=>aQ f 0 av λaw=>aQ f 1 av λax=>e (ao) aw ax av) (dV ag λay=>bW (some j) λaz=>aU ay az 0 λa0=>aS ay x 0 λa1=>Yt.c a0 a1 ag λa2 a3 a4=>aQ x 0 a4 λa5=>aR f 0 (.I 0) a4 λa6=>aR f 1 (.I 0) a6 λa7=>aQ f 0 a7 λa8=>aQ f 1 a7 λa9=>e (.iface 245 (.agg #[.I a5,.I a2])) a8 a9 a7)) (∃t99:Int,∃t991:Int,∃is1:Bool,kj c 245 [.I t99,.I t991] [.I 0,.I 0] is1 ∧
 (If is1 (aV #[.I 0,.I 0] 245 o λba bb=>aR ba 0 (.I t99) bb λbc=>aR ba 1 (.I t991) bc λbd=>Jn [] (λbe=>aQ ba 0 be λbf=>aQ ba 1 be λbg=>aR f 0 (.I 0) be λbh=>aR f 1 (.I 0) bh λbi=>aQ f 0 bi λbj=>aQ f 1 bi λbk=>e (.iface 248 (.agg #[.I bf,.I bg])) bj bk bi) λbl=>aQ ba 1 bd λbm=>bF a 0 bd λbo=>aQ ba 0 bd λbp=>Ix bo.a bo.len bp 3 λbq=>aQ bq 2 bd λbr=>If (bm==br) (aQ ba 0 bd λbs=>WU.c q bs bd λbt bu bv=>If (bu==0) (aQ ba 0 bv λbw=>YI.c a b bw bt bv λbx=>aR f 0 (.I 0) bx λbz=>aR f 1 (.I 0) bz λb0=>aQ f 0 b0 λb1=>aQ f 1 b0 λb2=>e (.iface 247 (.agg #[])) b1 b2 b0) (bl bv)) (bl bd)) (∃t135:Int,∃t1351:Int,∃is2:Bool,kj c 248 [.I t135,.I t1351] [.I 0,.I 0] is2 ∧ (If is2 (aV #[.I 0,.I 0] 248 o λb3 b4=>aR b3 0 (.I t135) b4 λb5=>aR b3 1 (.I t1351) b5 λb6=>aQ b3 0 b6 λb7=>aQ b3 1 b6 λb8=>WX.c q b7 b8 b6 λb9 ca cb=>If (((b9.len:Nat):Int)>0) (aQ b3 0 cb λcc=>YI.c a b cc b9 cb λcd=>aR f 0 (.I 0) cd λce=>aR f 1 (.I 0) ce λcf=>aQ f 0 cf λcg=>aQ f 1 cf λch=>e (.iface 247 (.agg #[])) cg ch cf) (aQ b3 0 cb λci=>aQ b3 1 cb λcj=>aR f 0 (.I 0) cb λck=>aR f 1 (.I 0) ck λcl=>aQ f 0 cl λcm=>aQ f 1 cl λcn=>
 e (.iface 250 (.agg #[.I ci,.I cj])) cm cn cl)) (∃t162:Int,∃t1621:Int,∃is3:Bool,kj c 250 [.I t162,.I t1621] [.I 0,.I 0] is3 ∧ (If is3 (aV #[.I 0,.I 0] 250 o λco cp=>aR co 0 (.I t162) cp λcq=>aR co 1 (.I t1621) cq λcr=>aQ co 0 cr λcs=>Yj.c q cs cr λct cu=>If (ct != 0) (aR f 0 (.I 0) cu λcv=>aR f 1 (.I ct) cv λcw=>aQ f 0 cw λcx=>aQ f 1 cw λcy=>e (.nilIface) cx cy cw) (aQ co 0 cu λcz=>aQ co 1 cu λc0=>aR f 0 (.I 0) cu λc1=>aR f 1 (.I 0) c1 λc2=>aQ f 0 c2 λc3=>aQ f 1 c2 λc4=>e (.iface 248 (.agg #[.I cz,.I c0])) c3 c4 c2)) (∃is4:Bool,kj c 247 [] [] is4 ∧ (If is4 (aV #[] 247 o λc5 c6=>bF (some j) 1 c6 λc8=>Ix c8.a c8.len 0 2 λc9=>aQ c9 0 c6 λda=>aX c9 1 c6 λdb=>aV #[.I 0,.slice none 0 0] 147 c6 λdc dd=>aR dc 0 (.I da) dd λde=>aR dc 1 (.slice db.a db.len db.cap) de λdf=>bW (some j) λdg=>aR dg 1 (.slice none 0 0) df λdh=>bG (some j) 0 dh λdj=>aQ dc 0 dh λdk=>aX dc 1 dh λdl=>fA dl 1 1 (dl.len:Nat) (dl.cap:Nat) λdm=>Yk.c dj dk dm dh λdn dp=>dV dp λdq=>aT dq dc 1 λdr=>Ix dr.a dr.len 0 1 λds=>gK dq bO ds λ(dt:Int)=>bW a λdu=>aT dq du 0 λdv=>aS dq dc 0 λdw=>Ix dv.a dv.len dw 3 λdx=>aS dq dx 0 λdy=>
 aS dq dc 0 λdz=>Y6.c a dt dy dz dp λd0 d1 d2 d3=>And (dq d3) <| aR f 0 (.I d1) d3 λd4=>aR f 1 (.I d2) d4 λd5=>aQ f 0 d5 λd6=>aQ f 1 d5 λd7=>e (d0) d6 d7 d5) (∃t217:Int,∃is5:Bool,kj c 237 [.I t217] [.I 0] is5 ∧ (If is5 (aV #[.I 0] 237 o λd8 d9=>dZ d8 (.I t217) d9 λea=>aQ d8 0 ea λeb=>Xa.c q eb 1 ea λec ed ee=>If (ed != 0) (aR f 0 (.I 0) ee λef=>aR f 1 (.I ed) ef λeg=>aQ f 0 eg λeh=>aQ f 1 eg λei=>e (.nilIface) eh ei eg) (bM (ec*256) λej=>aQ d8 0 ee λek=>bM (ek*256) λel=>Y6.c a ej el (-1) ee λem en eo ep=>aR f 0 (.I en) ep λeq=>aR f 1 (.I eo) eq λer=>aQ f 0 er λes=>aQ f 1 er λet=>e (em) es et er)) (∃t240:Int,∃is6:Bool,kj c 239 [.I t240] [.I 0] is6 ∧ (If is6 (aV #[.I 0] 239 o λeu ev=>dZ eu (.I t240) ev λew=>aQ eu 0 ew λex=>ZL.c a b ex ew λey ez e0 e1=>aR f 0 (.I ez) e1 λe2=>aR f 1 (.I e0) e2 λe3=>aQ f 0 e3 λe4=>aQ f 1 e3 λe5=>e (ey) e4 e5 e3) (∃t250:Int,∃t2501:Int,∃is7:Bool,kj c 255 [.I t250,.I t2501] [.I 0,.I 0] is7 ∧ (If is7 (aV #[.I 0,.I 0] 255 o λe6 e7=>aR e6 0 (.I t250) e7 λe8=>aR e6 1 (.I t2501) e8 λe9=>Jn [] (λfa=>bF (some j) 1 fa λfc=>fA fc 2 1 (fc.len:Nat) (fc.cap:Nat) λfd=>bW (some j) λfe=>aR fe 1 (.slice fd.a fd.len fd.cap) fa λff=>Jn [] (λfg=>
 Xm.c a b fg λfh fi=>aR f 0 (.I 0) fi λfj=>aR f 1 (.I 0) fj λfk=>aQ f 0 fk λfl=>aQ f 1 fk λfm=>e (fh) fl fm fk) λfn=>bG (some j) 0 ff λfp=>Ys.c fp ff λfq fr=>If fq (dV fr λfs=>bW (some j) λft=>aT fs ft 1 λfu=>bW (some j) λfv=>aU fs fv 0 λfw=>Xn.c fw fr λfx fy=>And (fs fy) <| App fu 2 32 147 [.I 0,.slice none 0 0] fx fy λfz f0=>And (fs f0) <| bW (some j) λf1=>aR f1 1 (.slice fz.a fz.len fz.cap) f0 λf2=>fn f2) (fn fr)) λf3=>dV e9 λf4=>bW (some j) λf5=>aU f4 f5 0 λf6=>aS f4 e6 0 λf7=>aS f4 e6 1 λf8=>YR.c f6 f7 f8 e9 λf9 ga gb=>If (((f9.len:Nat):Int)>0) (aQ e6 0 gb λgc=>YI.c a b gc f9 gb λgd=>f3 gd) (f3 gb)) (∃is8:Bool,kj c 258 [] [] is8 ∧ (If is8 (aV #[] 258 o λge gf=>bF (some j) 1 gf λgh=>Ix gh.a gh.len 0 2 λgi=>aQ gi 0 gf λgj=>aX gi 1 gf λgk=>aV #[.I 0,.slice none 0 0] 147 gf λgl gm=>aR gl 0 (.I gj) gm λgn=>aR gl 1 (.slice gk.a gk.len gk.cap) gn λgo=>bF (some j) 1 go λgq=>fA gq 2 1 (gq.len:Nat) (gq.cap:Nat) λgr=>Wz.c gr go λgs gt=>bW (some j) λgu=>aR gu 1 (.slice gs.a gs.len gs.cap) gt λgv=>dV gv λgw=>aS gw gl 0 λgx=>aT gw gl 1 λgy=>ZP.c a b gv λgz g0=>And (gw g0) <| ZF.c a gz gx gy g0 λg1=>
 Xm.c a b g1 λg2 g3=>aR f 0 (.I 0) g3 λg4=>aR f 1 (.I 0) g4 λg5=>aQ f 0 g5 λg6=>aQ f 1 g5 λg7=>e (g2) g6 g7 g5) (∃t332:Int,∃t3321:Int,∃is9:Bool,kj c 262 [.I t332,.I t3321] [.I 0,.I 0] is9 ∧ (If is9 (aV #[.I 0,.I 0] 262 o λg8 g9=>aR g8 0 (.I t332) g9 λha=>aR g8 1 (.I t3321) ha λhb=>bF a 7 hb λhd=>aQ g8 1 hb λhe=>Ix hd.a hd.len he 1 λhf=>fY hf hb λhg=>aQ g8 0 hb λhh=>Xd.c hg hh hb λhi hj=>w hj) (∃is10:Bool,kj c 241 [] [] is10 ∧ (If is10 (aV #[] 241 o λhk hl=>bG (some j) 0 hl λhn=>XX.c hn hl λho hp=>bW (some j) λhq=>aR hq 1 (.slice ho.a ho.len ho.cap) hp λhr=>Xm.c a b hr λhs ht=>aR f 0 (.I 0) ht λhu=>aR f 1 (.I 0) hu λhv=>aQ f 0 hv λhw=>aQ f 1 hv λhx=>e (hs) hw hx hv) (w o))))))))))))))))))))))
theorem ZK.o {a b c d e}(f:ZK.v a b c d e):ZK.c a b c d e:=Wa Tryz.func126 (x:=ZK.h) (R0 f)
def Q1.h:Hn:=.q .o2 (.q (.cU (.seq [.op,.op,.op,.op,.cW true 3 (RI.ops 3),.op,.cW true 4 (RI.ops 4),.op,.cW true 3 (RI.ops 3),.op,.cW true 3 (RI.ops 3),.op,.cW true 3 (RI.ops 3),.op,.cW true 3 (RI.ops 3),.op,.cW true 3 (RI.ops 3),.op,.cW true 3 (RI.ops 3),.op,.cW true 3 (RI.ops 3),.op,.cW true 3 (RI.ops 3),.op])) .l)
def Q1.v (a b c d e:Int)(f:Hp)(g:aO):Prop:=aV #[.I a,.I b,.I c,.I d,.I e] 23 f λh i=>aQ h 0 i λj=>bX (λk l=>bX (λm n=>bX (λo p=>bX (λq r=>bX (λs t=>bX (λu v=>bX (λw x=>bX (λy z=>bX (λaa ab=>bX (λac ad=>g ac ad) λae=>If aa (aQ h 4 ab λaf=>ae (decide (af<=8)) ab) (ae false ab)) λag=>If y (aQ h 4 z λah=>ag (decide (ah≥0)) z) (ag false z)) λai=>If w (aQ h 3 x λaj=>ai (decide (aj<=65536)) x) (ai false x)) λak=>If u (aQ h 3 v λal=>ak (decide (al≥0)) v) (ak false v)) λam=>If s (aQ h 2 t λan=>am (decide (an<=4)) t) (am false t)) λao=>If q (aQ h 2 r λap=>ao (decide (ap≥1)) r) (ao false r)) λaq=>If o (aQ h 1 p λar=>aq (decide (ar<=4)) p) (aq false p)) λau=>If m (aQ h 1 n λav=>au (decide (av≥1)) n) (au false n)) λaw=>If k (aQ h 0 l λax=>Nz 16 <| aw ((ax.tmod 16)==0) l) (aw false l)) λay=>If (j≥32) (aQ h 0 i λaz=>ay (decide (az<=1024)) i) (ay false i)
theorem Q1.o {a b c d e f g}(h:Q1.v a b c d e f g):Q1.c a b c d e f g:=Wa Tryz.func152 (x:=Q1.h) (R0 h)
def ZP.h:Hn:=.q .o1 (.q .o8 .l)
def ZP.v (a:R2)(b:Int)(c:Hp)(d:aN):Prop:=bF a 7 c λf=>Nz ((f.len:Nat):Int) <| d (b.tmod ((f.len:Nat):Int)) c
theorem ZP.o {a b c d}(e:ZP.v a b c d):ZP.c a b c d:=Wa Tryz.func165 (x:=ZP.h) (R0 e)
def Y6.h:Hn:=.q .o2 (.q (.cU (.held true [12] (.tk [0,1,2,3,4,5,6,7,8,9] (.all [(10,.take 11 (.all [(12,.done)]))])))) (.q .o4 .l))
def Y6.v (a:R2)(b c d:Int)(e:Hp)(f:Value->Int->Int->Hp->Prop):Prop:=aV #[.I 0,.I 0] 137 e λg h=>dV h λi=>bW a λj=>gK i .m (j.add 9) λ(k:Option Nat)=>Yi.c a b h λl m=>And (i m) <| kQ .i64 (.ag 4) k b (b,c,d,l) m λn=>aR g 0 (.I b) n λo=>aR g 1 (.I 0) o λp=>aQ g 0 p λq=>aQ g 1 p λr=>f (.nilIface) q r p
theorem Y6.o {a b c d e f}(g:Y6.v a b c d e f):Y6.c a b c d e f:=Wa Tryz.func167 (x:=Y6.h) (R0 g)
def YI.h:Hn:=.cU (.held true [20] (.tk [0,1,2,3,4,5,6,7,8,9,10,11,12,13,14,15] (.all [(16,.all [(17,.take 18 (.take 19 (.all [(20,.done)])))])])))
def YI.v (a:R2)(b c:Int)(d:Sl)(e:Hp)(f:aP):Prop:=dV e λg=>bW a λh=>aT g h 8 λi=>bW a λj=>aT g j 8 λk=>Ix k.a k.len b 3 λl=>aT g l 1 λm=>aV #[.I c,.slice d.a d.len d.cap] 147 e λn o=>And (g o) <| App m 2 32 147 [.I 0,.slice none 0 0] ⟨some n,1,1⟩ o λp q=>And (g q) <| Ix i.a i.len b 3 λr=>aR r 1 (.slice p.a p.len p.cap) q λs=>f s
theorem YI.o {a b c d e f}(g:YI.v a b c d e f):YI.c a b c d e f:=Wa Tryz.func170 (x:=YI.h) (R0 g)
def ZL.h:Hn:=.q .o2 (.q (.o 12) (.q (.q .o2 (.c (.kK [] (.q .o4 (.q .o2 (.c (.q (.o 16) (.q (.cU (.seq [.op,.op,.op,.cW true 2 [.op,.op],.op,.cW true 3 (RI.ops 3)])) (.c (.q .o3 .l) .l))) .l))) (.q .o3 .l)) .l)) (.q .o6 (.q (.q .o3 (.c (.q .o9 .l) .l)) (.q .o7 (.q .o8 .l))))))
def ZL.v (a:R2)(b c:Int)(d:Hp)(e:Value->Int->Int->Hp->Prop):Prop:=aV #[.I 0,.I 0] 137 d λf g=>bJ a 9 g λi=>Lk .i64 (.ag 4) i c g λj=>aV #[.I 0,.I 0,.I 0,.I 0] 126 g λk l=>aR k 0 (.I ((j.getD (0,0,0,0)).1)) l λm=>aR k 1 (.I ((j.getD (0,0,0,0)).2.1)) m λn=>aR k 2 (.I ((j.getD (0,0,0,0)).2.2.1)) n λo=>aR k 3 (.I ((j.getD (0,0,0,0)).2.2.2)) o λp=>If (!j.isSome) (Jn [] (λq=>aR f 0 (.I 0) q λr=>aR f 1 (.I 8) r λs=>aQ f 0 s λt=>aQ f 1 s λu=>e (.nilIface) t u s) λv=>Yi.c a c p λw x=>If (w≥0) (bF a 7 x λz=>Ix z.a z.len w 1 λaa=>fY aa x λab=>Y7.c ab c x λac ad ae af=>bX (λag ah=>bX (λai aj=>If ai (aR f 0 (.I 0) aj λak=>aR f 1 (.I 9) ak λal=>aQ f 0 al λam=>aQ f 1 al λan=>e (.nilIface) am an al) (v aj)) λao=>If ag (ao (ad==c) ah) (ao false ah)) λap=>If (ae==0) (ap (decide (ac≥0)) af) (ap false af)) (v x)) (bJ a 9 p λar=>l6 .i64 (.ag 4) ar c p λau=>aQ k 2 au λav=>If (av<0) (Nz 256<|bM (c.tdiv 256) λaw=>aQ k 3 au λax=>aR f 0 (.I 0) au λay=>aR f 1 (.I 0) ay λaz=>aQ f 0 az λa0=>aQ f 1 az λa1=>e (.iface 262 (.agg #[.I aw,.I ax])) a0 a1 az) (aQ k 2 au λa2=>aV #[.I c] 3 au λa3 a4=>YI.c a b a2 ⟨some a3,1,1⟩ a4 λa5=>aQ k 2 a5 λa6=>aR f 0 (.I 0) a5 λa7=>
 aR f 1 (.I 0) a7 λa8=>aQ f 0 a8 λa9=>aQ f 1 a8 λba=>e (.iface 255 (.agg #[.I a6,.I c])) a9 ba a8))
theorem ZL.o {a b c d e}(f:ZL.v a b c d e):ZL.c a b c d e:=Wa Tryz.func175 (x:=ZL.h) (R0 f)
def Xm.h:Hn:=.q .o1 (.q (.q .gC .aK) (.q .o3 .l))
def Xm.v (a:R2)(b:Int)(c:Hp)(d:Value->Hp->Prop):Prop:=bF a 8 c λf=>Ix f.a f.len b 3 λg=>aX g 1 c λh=>If (((h.len:Nat):Int)==0) (d (.nilIface) c) (d (.iface 258 (.agg #[])) c)
theorem Xm.o {a b c d}(e:Xm.v a b c d):Xm.c a b c d:=Wa Tryz.func179 (x:=Xm.h) (R0 e)
def ZF.h:Hn:=.q .o1 (.q .o7 (.q (.q .o4 (.k (.loop [(23,.I)] (.q .o1 (.q (.c .l .l) (.q (.k (.q .o3 (.q .o4 (.o 11)))) .o2)))))) (.kK [] (.q (.oq 9) (.c (.q (.cU (.held true [] (.tk [0,1,2,3,4,5,6,7,8,9,10] (.all [(11,.tk [12,13,14,15,16] (.done))])))) (.q (.cU (.seq [.op,.op,.cW true 2 [.op,.op]])) (.c .l .l))) .l)) (.q .o3 (.k (.loop [(72,.I)] (.q .o1 (.q (.c .l .l) (.q (.k (.q .o5 (.q .o3 (.c (.cU (.tail 10 (RI.ops 10) [.op])) .l)))) .o2)))))))))
def ZF.v (a:R2)(b c:Int)(d:Sl)(e:Hp)(f:aP):Prop:=aV #[.I c,.slice d.a d.len d.cap] 147 e λg h=>bW a λi=>aX i 7 h λj=>Mk ((j.len:Nat):Int) ((j.len:Nat):Int) 24 31 [.slice none 0 0] h λk l=>aX g 1 l λm=>Yb [bO] (λn=>n 0 l) λo (p:Int) q=>If (p<((m.len:Nat):Int)) (Ix m.a m.len p 1 λr=>bN r q λs=>Yi.c a s q λt u=>Ix k.a k.len t 1 λv=>jJ v u λw=>aV #[.I s] 3 u λx y=>App w 1 8 3 [.I 0] ⟨some x,1,1⟩ y λz aa=>Ix k.a k.len t 1 λab=>dZ ab (.slice z.a z.len z.cap) aa λac=>bM (p+1) λad=>o ad ac) (Jn [] (λae=>Yb [bO] (λaf=>af 0 ae) λag (ah:Int) ai=>If (ah<((k.len:Nat):Int)) (Ix k.a k.len ah 1 λaj=>jJ aj ai λak=>If (((ak.len:Nat):Int)>0) (bF a 7 ai λam=>Ix am.a am.len ah 1 λan=>fY an ai λao=>aQ g 0 ai λap=>Xb.c ao ap ak ai λaq ar=>bM (ah+1) λau=>ag au ar) (bM (ah+1) λav=>ag av ai)) (f ai)) λaw=>Ix k.a k.len b 1 λax=>jJ ax q λay=>aX g 1 q λaz=>If (((ay.len:Nat):Int)==((az.len:Nat):Int)) (dV q λa0=>bW a λa1=>aT a0 a1 7 λa2=>Ix a2.a a2.len b 1 λa3=>gK a0 .p a3 λ(a4:R2)=>aS a0 g 0 λa5=>aT a0 g 1 λa6=>W5.c a4 a5 a6 q λa7 a8 a9=>And (a0 a9) <| bX (λba bb=>If ba (f bb) (aw bb)) λbc=>If a7 (bc (a8==0) a9) (bc false a9)) (aw q))
theorem ZF.o {a b c d e f}(g:ZF.v a b c d e f):ZF.c a b c d e f:=Wa Tryz.func181 (x:=ZF.h) (R0 g)
def Yi.h:Hn:=.q .o2 (.q (.q .o2 .aK) (.q .o7 .l))
def Yi.v (a:R2)(b:Int)(c:Hp)(d:aN):Prop:=aV #[.I b] 3 c λe f=>bN e f λg=>If (g<0) (d (-1) f) (bF a 7 f λi=>Wr.c i ⟨283,#[],#[.pointer (some e)]⟩ f λj k=>d j k)
theorem Yi.o {a b c d}(e:Yi.v a b c d):Yi.c a b c d:=Wa Tryz.func230 (x:=Yi.h) (R0 e)
def Zg.h:Hn:=.q .o1 (.q .o5 .l)
def Zg.v (a:R2)(b:Addr)(c:Hp)(d:aO):Prop:=bN b c λe=>Nz 256<|bM (e.tdiv 256) λf=>Y3.c a f c λg h=>d g h
theorem Zg.o {a b c d}(e:Zg.v a b c d):Zg.c a b c d:=Wa Tryz.func283 (x:=Zg.h) (R0 e)
def Qc.h:Hn:=.q .o2 .aM
def Qc.v (a:Int)(b:Hp)(c:ByteArray->Hp->Prop):Prop:=aV #[.I a] 235 b λd e=>c (ByteArray.mk #[116,97,107,101]) e
theorem Qc.o {a b c}(d:Qc.v a b c):Qc.c a b c:=Wa Tryz.func379 (x:=Qc.h) (R0 d)
def Z2.h:Hn:=.q .o2 .aM
def Z2.v (a:Int)(b:Hp)(c:ByteArray->Hp->Prop):Prop:=aV #[.I a] 237 b λd e=>c (ByteArray.mk #[108,97,114,103,101]) e
theorem Z2.o {a b c}(d:Z2.v a b c):Z2.c a b c:=Wa Tryz.func380 (x:=Z2.h) (R0 d)
def Qk.h:Hn:=.q .o2 .aM
def Qk.v (a:Int)(b:Hp)(c:ByteArray->Hp->Prop):Prop:=aV #[.I a] 239 b λd e=>c (ByteArray.mk #[102,105,110,100]) e
theorem Qk.o {a b c}(d:Qk.v a b c):Qk.c a b c:=Wa Tryz.func381 (x:=Qk.h) (R0 d)
def Z1.h:Hn:=.q .o2 .aM
def Z1.v (a:Hp)(b:ByteArray->Hp->Prop):Prop:=aV #[] 241 a λc d=>b (ByteArray.mk #[100,114,97,105,110]) d
theorem Z1.o {a b}(c:Z1.v a b):Z1.c a b:=Wa Tryz.func382 (x:=Z1.h) (R0 c)
def Zh.h:Hn:=.q .o2 .aM
def Zh.v (a b:Int)(c:Hp)(d:ByteArray->Hp->Prop):Prop:=aV #[.I a,.I b] 245 c λe f=>d (ByteArray.mk #[116,114,97,110,115,102,101,114]) f
theorem Zh.o {a b c d}(e:Zh.v a b c d):Zh.c a b c d:=Wa Tryz.func383 (x:=Zh.h) (R0 e)
def Qi.h:Hn:=.q .o2 .aM
def Qi.v (a:Hp)(b:ByteArray->Hp->Prop):Prop:=aV #[] 247 a λc d=>b (ByteArray.mk #[102,105,108,108]) d
theorem Qi.o {a b}(c:Qi.v a b):Qi.c a b:=Wa Tryz.func384 (x:=Qi.h) (R0 c)
def Zy.h:Hn:=.q .o2 .aM
def Zy.v (a b:Int)(c:Hp)(d:ByteArray->Hp->Prop):Prop:=aV #[.I a,.I b] 248 c λe f=>d (ByteArray.mk #[99,101,110,116,114,97,108]) f
theorem Zy.o {a b c d}(e:Zy.v a b c d):Zy.c a b c d:=Wa Tryz.func385 (x:=Zy.h) (R0 e)
def Qj.h:Hn:=.q .o2 .aM
def Qj.v (a b:Int)(c:Hp)(d:ByteArray->Hp->Prop):Prop:=aV #[.I a,.I b] 250 c λe f=>d (ByteArray.mk #[103,114,111,119]) f
theorem Qj.o {a b c d}(e:Qj.v a b c d):Qj.c a b c d:=Wa Tryz.func386 (x:=Qj.h) (R0 e)
def QC.h:Hn:=.q .o2 .aM
def QC.v (a b:Int)(c:Hp)(d:ByteArray->Hp->Prop):Prop:=aV #[.I a,.I b] 255 c λe f=>d (ByteArray.mk #[112,117,116]) f
theorem QC.o {a b c d}(e:QC.v a b c d):QC.c a b c d:=Wa Tryz.func387 (x:=QC.h) (R0 e)
def Qe.h:Hn:=.q .o2 .aM
def Qe.v (a:Hp)(b:ByteArray->Hp->Prop):Prop:=aV #[] 258 a λc d=>b (ByteArray.mk #[98,97,99,107]) d
theorem Qe.o {a b}(c:Qe.v a b):Qe.c a b:=Wa Tryz.func388 (x:=Qe.h) (R0 c)
def Qd.h:Hn:=.q .o2 .aM
def Qd.v (a b:Int)(c:Hp)(d:ByteArray->Hp->Prop):Prop:=aV #[.I a,.I b] 262 c λe f=>d (ByteArray.mk #[103,105,118,101]) f
theorem Qd.o {a b c d}(e:Qd.v a b c d):Qd.c a b c d:=Wa Tryz.func389 (x:=Qd.h) (R0 e)
end Go.Proofs
namespace Go.Ar
open Go Go.Vc Go.Proofs
def nh:Option Ph->Value
 | none=>.nilIface
 | some (.take k)=>.iface 235 (.agg #[.int .i64 (k:Int)])
 | some (.cI k w)=>.iface 245 (.agg #[.int .i64 (k:Int),.int .i64 (w:Int)])
 | some (.cL k w)=>.iface 248 (.agg #[.int .i64 (k:Int),.int .i64 (w:Int)])
 | some (.grow k w)=>.iface 250 (.agg #[.int .i64 (k:Int),.int .i64 (w:Int)])
 | some .fill=>.iface 247 (.agg #[])
 | some (.eP m)=>.iface 237 (.agg #[.int .i64 (m:Int)])
 | some (.find x)=>.iface 239 (.agg #[.int .i64 x])
 | some (.put k x)=>.iface 255 (.agg #[.int .i64 (k:Int),.int .i64 x])
 | some .back=>.iface 258 (.agg #[])
 | some (.dG s a)=>.iface 262 (.agg #[.int .i64 s,.int .i64 a])
 | some .drain=>.iface 241 (.agg #[])
theorem uY (p:Option Ph):ji (nh p):=by
 cases p with
 | none=>exact .inl rfl
 | some p=>cases p<;>exact .inr ⟨_,_,rfl⟩
theorem x8 (p:Option Ph):kN (nh p)=p.isNone:=by
 cases p with
 | none=>rfl
 | some p=>cases p<;>rfl
inductive kY where
 | hd|dF|sp|fT|cS|live
 | ar (k:Nat)
 | ca (k:Nat)
 | hn (k:Nat)
 deriving DecidableEq
structure eR where
 c:ib
 h:Sl
structure dE where
 p:Nat
 hs:Nat
 lm:Nat
 dF:Sl
 fT:Sl
 cS:Sl
 ys:List Lay
 ts:List eR
def Ad (L:dE)(c:Cf):List Value:=[.slice L.dF.a L.dF.len L.dF.cap,.int .i64 (c.aF:Int),.int .i64 (c.ij:Int),.int .i64 (c.threads:Int),.int .i64 (c.dD:Int),.int .i64 (c.room:Int),
 .pointer (some ⟨L.hs,0,none⟩),.slice L.fT.a L.fT.len L.fT.cap,.slice L.cS.a L.cS.len L.cS.cap,.map (some L.lm)]
def jC (x:eR×Th):List Value:=[.pointer (some ⟨x.1.c.p,0,none⟩),.slice x.1.h.a x.1.h.len x.1.h.cap,nh x.2.ph]
def gW (ts:List eR)(bR:List Th):List Value:=(ts.zip bR).flatMap jC
theorem GE:∀{ts:List eR} {bR:List Th},ts.length=bR.length->(gW ts bR).length=bR.length*3
 | [],[],_=>rfl
 | x::ts,h::bR,e=>by
  have e1:gW (x::ts) (h::bR)=jC (x,h)++gW ts bR:=rfl;have a:(jC (x,h)).length=3:=rfl;rw[e1,zK,GE (by simpa using e),a,zS];omega
 | [],_::_,e=>by simp at e
 | _::_,[],e=>by simp at e
theorem BU:∀{ts:List eR} {bR:List Th} {i:Nat} {x:eR} {h:Th},ts[i]?=some x->bR[i]?=some h->∀{d:Nat},d<3->(gW ts bR)[3*i+d]?=(jC (x,h))[d]?
 | [],_,_,_,_,h1,_,_,_=>by simp at h1
 | _::_,[],_,_,_,_,h2,_,_=>by simp at h2
 | y::ts,g::bR,0,x,h,h1,h2,d,hd=>by
  have e1:gW (y::ts) (g::bR)=jC (y,g)++gW ts bR:=rfl;have a:(jC (y,g)).length=3:=rfl;simp at h1 h2;subst h1;subst h2;rw[e1,zd O];congr 1;omega
 | y::ts,g::bR,i+1,x,h,h1,h2,d,hd=>by
  have e1:gW (y::ts) (g::bR)=jC (y,g)++gW ts bR:=rfl;have a:(jC (y,g)).length=3:=rfl;rw[e1,zp O,a,show 3*(i+1)+d-3=3*i+d by omega];exact BU (by simpa using h1) (by simpa using h2) hd
theorem AD:∀{ts:List eR} {bR:List Th} {i:Nat} {x:eR} {h:Th},ts[i]?=some x->bR[i]?=some h->∀{d:Nat} {v:Value} {x':eR} {h':Th},d<3->jC (x',h')=(jC (x,h)).set d v →
 (gW ts bR).set (3*i+d) v=gW (ts.set i x') (bR.set i h')
 | [],_,_,_,_,h1,_,_,_,_,_,_,_=>by simp at h1
 | _::_,[],_,_,_,_,h2,_,_,_,_,_,_=>by simp at h2
 | y::ts,g::bR,0,x,h,h1,h2,d,v,x',h',hd,e=>by
  have e1:gW (y::ts) (g::bR)=jC (y,g)++gW ts bR:=rfl;have e2:gW ((y::ts).set 0 x') ((g::bR).set 0 h')=jC (x',h')++gW ts bR:=rfl;have a:(jC (y,g)).length=3:=rfl;simp at h1 h2;subst h1;subst h2;rw[e1,e2,List.set_append_left _ _ O,e,show 3*0+d=d by omega]
 | y::ts,g::bR,i+1,x,h,h1,h2,d,v,x',h',hd,e=>by
  have e1:gW (y::ts) (g::bR)=jC (y,g)++gW ts bR:=rfl;have e2:gW ((y::ts).set (i+1) x') ((g::bR).set (i+1) h')=jC (y,g)++gW (ts.set i x') (bR.set i h'):=rfl;have a:(jC (y,g)).length=3:=rfl;rw[e1,e2,CZ _ _ O,a,show 3*(i+1)+d-3=3*i+d by omega];rw[AD (by simpa using h1) (by simpa using h2) hd e]
def oA (y:Option Lay)(a:Option AR):Hp->Rg->Prop:=λU F=>match y,a with
 | some Y,some A=>dJ U F Y A (cM A Y)
 | _,_=>True
def qV (x:Option eR)(h:Option Th)(tb:List cA)(bud:Nat):Hp->Rg->Prop:=λU F=>match x,h with
 | some x,some h=>eJ U F x.c tb bud h.ls
 | _,_=>True
def qB (x:Option eR)(h:Option Th):Hp->Rg->Prop:=λU F=>match x,h with
 | some x,some h=>iF x.h h.bQ U F
 | _,_=>True
def CH (H:Hw)(L:dE):kY->Hp->Rg->Prop
 | .hd=>iD L.p (Ad L H.cf)
 | .dF=>cV L.dF 3 (gJ H.tb)
 | .sp=>λU F=>dO U F L.hs H.sp
 | .fT=>cV L.fT 1 (fR (L.ys.map (·.p)))
 | .cS=>bS L.cS 3 (gW L.ts H.bR)
 | .live=>jL L.lm .i64 (.ag 4) H.live
 | .ar k=>oA L.ys[k]? H.bY[k]?
 | .ca t=>qV L.ts[t]? H.bR[t]? H.tb H.cf.dD
 | .hn t=>qB L.ts[t]? H.bR[t]?
theorem oA.loc (y:Option Lay)(a:Option AR):dN (oA y a):=by
 intro U σ' F G h hz hs;unfold oA at *;split at h
 ·exact dJ.loc _ _ _ _ h hz hs
 ·trivial
theorem qV.loc (x:Option eR)(h:Option Th)(tb:List cA)(bud:Nat):dN (qV x h tb bud):=by
 intro U σ' F G h hz hs;unfold qV at *;split at h
 ·exact eJ.loc _ _ _ _ h hz hs
 ·trivial
theorem qB.loc (x:Option eR)(h:Option Th):dN (qB x h):=by
 intro U σ' F G h hz hs;unfold qB at *;split at h
 ·exact iF.loc _ _ _ _ _ _ h hz hs
 ·trivial
theorem CH.loc {H:Hw}{L:dE}:∀i,dN (CH H L i)
 | .hd=>iD.loc _ _
 | .dF=>cV.loc _ _ _
 | .sp=>dO.loc
 | .fT=>cV.loc _ _ _
 | .cS=>bS.loc _ _ _
 | .live=>jL.loc _ _ _ _
 | .ar k=>oA.loc _ _
 | .ca t=>qV.loc _ _ _ _
 | .hn t=>qB.loc _ _
structure HS (L:dE) (H:Hw):Prop where
 ys:L.ys.length=H.bY.length
 hs:∀Y∈L.ys,Y.hs=L.hs
 ts:L.ts.length=H.bR.length
 a1:1<=H.bY.length
 a2:H.bY.length<=4
 t1:1<=H.bR.length
 t2:H.bR.length<=4
 tb:∀A∈H.bY,A.tb=H.tb
structure HH (U:Hp) (F:Rg) (L:dE) (H:Hw):Prop where
 s:HS L H
 sep:Sep (CH H L) U F
 g:Gl U
 gd:Gd U
 o:jf F
 o2:¬F 1
variable {U:Hp}{F:Rg}{L:dE}{H:Hw}{t k:Nat}
theorem HH.bP (h:HH U F L H){σ':Hp}(e:aG U σ'):HH σ' F L H:=⟨h.s,(Sep.loc CH.loc).bP h.sep e,h.g.bP e,h.gd.bP e,h.o,h.o2⟩
theorem HH.bT (h:HH U F L H){σ':Hp}{T:Rg}(e:Ext T U σ')(hT:∀b,b<U.size->F b->¬T b)(hg:jf T)(hg2:¬T 1):HH σ' F L H:=⟨h.s,(Sep.loc CH.loc).bT h.sep e hT,h.g.bT e hg,h.gd.bT e hg2,h.o,h.o2⟩
theorem DH {U:Hp}(g:Gd U):1<U.size:=g.lt
theorem HH.mono (h:HH U F L H){G:Rg}(hs:∀b,b<U.size->F b->G b)(o:jf G)(o2:¬G 1):HH U G L H:=⟨h.s,(Sep.loc CH.loc).mono h.sep hs,h.g,h.gd,o,o2⟩
theorem HH.oG (h:HH U F L H):jf (Grow F U):=h.o.grow h.g
theorem HH.sd (h:HH U F L H):¬Grow F U 1:=λa=>by
 rcases a with a|a
 ·exact h.o2 a
 ·have:=DH h.gd;omega
theorem HH.sub (h:HH U F L H){G:Rg}(hs:∀b,b<U.size->F b->G b)(hg:∀b,G b->F b\/U.size<=b):HH U G L H:=
 h.mono hs (h.oG.sub hg) λa=>h.sd (hg _ a)
theorem HH.wW {v v':Hp}{G T:Rg}{L0:dE}{H0:Hw}(h0:HH U F L0 H0)(h:HH v G L H)(e:Ext T v v')(hT:∀b,T b->U.size<=b)(hG:∀b,b<v.size->G b->¬T b):HH v' G L H:=
 h.bT e hG (h0.oG.sub λb a=>.inr (hT b a)) λa=>h0.sd (.inr (hT _ a))
theorem HH.grown {σ':Hp}{R:Rg}{L':dE}{H':Hw}(h:HH U F L H)(h':HH σ' R L' H')(hr:∀b,b<σ'.size->R b->Grow F U b):HH σ' (Grow F U) L' H':=h'.mono hr h.oG h.sd
theorem HH.cut (h:HH U F L H):HH U (Cut F U) L H:=h.sub (λb a d=>⟨d,a⟩) λb a=>.inl a.1
theorem HH.lS (h:HH U F L H)(i:kY):∃G:Rg,(∀b,G b->F b)/\CH H L i U G/\(∀j,j≠i->∃D:Rg,(∀b,D b->F b)/\(∀b,D b->¬G b)/\CH H L j U D) ∧
 ∀(σ':Hp) (H':Hw) (L':dE) (G':Rg),HS L' H'->(∀j,j≠i->CH H' L' j=CH H L j)->Ext G U σ'->(∀b,G' b->Grow G U b)->CH H' L' i σ' G' →
  Ext F U σ'/\HH σ' (λb=>F b/\b<U.size/\¬G b\/G' b) L' H':=by
 obtain⟨G,p,hi,hd,m⟩:=h.sep.j3 CH.loc i;refine⟨G,p,hi,hd,λσ' H' L' G' u x e s w=>?_⟩;have r:=e.sub p;have d:∀b,(F b/\b<U.size/\¬G b\/G' b)->Grow F U b:=λb a=>by
  rcases a with a|a
  ·exact .inl a.1
  ·exact(s b a).imp (p b) id
 refine⟨r,u,m σ' (CH H' L') G' x e s w (CH.loc _),h.g.bT r h.o,h.gd.bT r h.o2,λb a=>(h.o.grow h.g) b (d b a),λa=>?_⟩;rcases d _ a with h1|h1
 ·exact h.o2 h1
 ·have:=DH h.gd;omega
theorem _root_.Go.Vc.Sep.uQ {L:Type}{C:L->Hp->Rg->Prop}{U:Hp}{F:Rg}(hC:∀i,dN (C i))(h:Sep C U F)(i j:L)(hij:i≠j)(N:Rg)(hN:∀b,b<U.size->F b->¬N b):∃G D:Rg,(∀b,G b->F b)/\(∀b,D b->F b)/\(∀b,G b->¬D b)/\C i U G/\C j U D/\(∀m,m≠i->m≠j->∃E:Rg,(∀b,E b->F b)/\(∀b,E b->¬(G b\/D b))/\C m U E) ∧
 ∀(σ':Hp) (C':L->Hp->Rg->Prop) (G' D':Rg),(∀k,k≠i->k≠j->C' k=C k)->Ext (λb=>G b\/D b) U σ'->(∀b,G' b->(G b\/D b)\/N b)->(∀b,D' b->(G b\/D b)\/N b)->(∀b,G' b->¬D' b)->C' i σ' G'->C' j σ' D'->(∀k,dN (C' k)) →
 Sep C' σ' λb=>F b/\b<U.size/\¬(G b\/D b)\/G' b\/D' b:=by
 obtain⟨ρ,h⟩:=h
 let G:Rg:=λb=>F b/\ρ b=i
 let D:Rg:=λb=>F b/\ρ b=j
 refine⟨G,D,λb a=>a.1,λb a=>a.1,λb w u=>hij (w.2.symm.trans u.2),h i,h j,λm w u=>⟨λb=>F b/\ρ b=m,λb a=>a.1,λb a d=>d.elim (λx=>w (a.2.symm.trans x.2)) λx=>u (a.2.symm.trans x.2),h m⟩,λσ' C' G' D' A e z B hd hi H y=>?_⟩
 open Classical in
 refine⟨λb=>if G' b then i else if D' b then j else ρ b,λk=>?_⟩
 by_cases hki:k=i
 ·subst hki;exact(y _).mono hi λb _ a=>⟨.inr (.inl a),zC a⟩
 by_cases hkj:k=j
 ·subst hkj;exact(y _).mono H λb _ a=>⟨.inr (.inr a),by show(if G' b then i else if D' b then k else ρ b)=k;rw[zB λd=>hd b d a,zC a]⟩
 ·rw[A k hki hkj];refine hC k _ _ _ _ (h k) e.1 λb a g=>?_;have s:¬(G b\/D b):=by
   rintro(d|d)
   ·exact hki (g.2.symm.trans d.2)
   ·exact hkj (g.2.symm.trans d.2)
  have r:¬G' b:=λd=>(z b d).elim s (hN b a g.1);have p:¬D' b:=λd=>(B b d).elim s (hN b a g.1);exact⟨⟨.inl ⟨g.1,a,s⟩,by show(if G' b then i else if D' b then j else ρ b)=k;rw[zB r,zB p];exact g.2⟩,e.2 b a s⟩
theorem HH.qd (h:HH U F L H)(i j:kY)(hij:i≠j)(N:Rg)(hN:∀b,b<U.size->F b->¬N b)(oN:jf N)(oN2:¬N 1):∃G D:Rg,(∀b,G b->F b)/\(∀b,D b->F b)/\(∀b,G b->¬D b)/\CH H L i U G/\CH H L j U D/\(∀m,m≠i->m≠j->∃E:Rg,(∀b,E b->F b)/\(∀b,E b->¬(G b\/D b))/\CH H L m U E) ∧
 ∀(σ':Hp) (H':Hw) (L':dE) (G' D':Rg),HS L' H'->(∀m,m≠i->m≠j->CH H' L' m=CH H L m)->Ext (λb=>G b\/D b) U σ'->(∀b,G' b->(G b\/D b)\/N b)->(∀b,D' b->(G b\/D b)\/N b)->(∀b,G' b->¬D' b)->CH H' L' i σ' G'->CH H' L' j σ' D' →
  Ext F U σ'/\HH σ' (λb=>F b/\b<U.size/\¬(G b\/D b)\/G' b\/D' b) L' H':=by
 obtain⟨G,D,u,s,hd,hi,M,p,r⟩:=h.sep.uQ CH.loc i j hij N hN;refine⟨G,D,u,s,hd,hi,M,p,λσ' H' L' G' D' J K e z A x C B=>?_⟩;have w:Ext F U σ':=e.sub λb a=>a.elim (u b) (s b);have d:∀b,(F b/\b<U.size/\¬(G b\/D b)\/G' b\/D' b)->F b\/N b:=λb a=>by
  rcases a with a|a|a
  ·exact .inl a.1
  ·exact(z b a).imp (λy=>y.elim (u b) (s b)) id
  ·exact(A b a).imp (λy=>y.elim (u b) (s b)) id
 refine⟨w,J,r σ' (CH H' L') G' D' K e z A x C B CH.loc,h.g.bT w h.o,h.gd.bT w h.o2,λb a=>(d b a).elim (h.o b) (oN b),λa=>?_⟩;exact(d _ a).elim h.o2 oN2
theorem HH.mT (h:HH U F L H):jf (λb=>U.size<=b)/\¬(U.size<=1):=⟨h.oG.sub λb a=>.inr a,λa=>h.sd (.inr a)⟩
theorem HH.oW (h:HH U F L H)(i j:kY)(hij:i≠j):∃G D:Rg,(∀b,G b->F b)/\(∀b,D b->F b)/\(∀b,G b->¬D b)/\CH H L i U G/\CH H L j U D/\(∀m,m≠i->m≠j->∃E:Rg,(∀b,E b->F b)/\(∀b,E b->¬(G b\/D b))/\CH H L m U E) ∧
 ∀(σ':Hp) (H':Hw) (L':dE) (G' D':Rg),HS L' H'->(∀m,m≠i->m≠j->CH H' L' m=CH H L m)->Ext (λb=>G b\/D b) U σ'->(∀b,G' b->(G b\/D b)\/U.size<=b)->(∀b,D' b->(G b\/D b)\/U.size<=b)->(∀b,G' b->¬D' b)->CH H' L' i σ' G'->CH H' L' j σ' D' →
  Ext F U σ'/\HH σ' (λb=>F b/\b<U.size/\¬(G b\/D b)\/G' b\/D' b) L' H':=
 h.qd i j hij _ (λb a _=>O) h.mT.1 h.mT.2
theorem HH.hd (h:HH U F L H):bZ U L.p (Ad L H.cf):=by obtain⟨G,b,a⟩:=h.sep.get .hd;exact a.2
theorem HH.jP (h:HH U F L H):cV L.dF 3 (gJ H.tb) U F:=by
 obtain⟨G,d,a⟩:=h.sep.get .dF;exact aH.mono a λb _ a=>d b a
theorem HH.pH (h:HH U F L H):L.dF.len=H.tb.length:=by
 have:=h.jP.1;rw[Uq]at this;omega
theorem HH.nk (h:HH U F L H):cV L.fT 1 (fR (L.ys.map (·.p))) U F:=by
 obtain⟨G,d,a⟩:=h.sep.get .fT;exact aH.mono a λb _ a=>d b a
theorem HH.m7 (h:HH U F L H):L.fT.len=H.bY.length:=by
 have:=h.nk.1;have:=h.s.ys;simp[fR]at *;omega
theorem HH.nc (h:HH U F L H):cV L.cS 3 (gW L.ts H.bR) U F:=by
 obtain⟨G,d,a⟩:=h.sep.get .cS;exact aH.mono (bS.fW a) λb _ a=>d b a
theorem HH.mc (h:HH U F L H):L.cS.len=H.bR.length:=by
 have:=h.nc.1;rw[GE h.s.ts]at this;omega
theorem HH.nf (h:HH U F L H):dK U L.lm .i64 (.ag 4) H.live:=by obtain⟨G,b,a⟩:=h.sep.get .live;exact a.2
theorem HH.Mq (h:HH U F L H):dO U F L.hs H.sp:=by
 obtain⟨G,d,a⟩:=h.sep.get .sp;exact dN.mono dO.loc a λb _ a=>d b a
theorem HH.ar (h:HH U F L H){A:AR}(hk:H.bY[k]?=some A):∃Y,L.ys[k]?=some Y/\Y.hs=L.hs/\dJ U F Y A (cM A Y):=by
 have i:=(cY.1 hk).1;have d:L.ys[k]?=some (L.ys[k]'(by rw[h.s.ys];exact i)):=cX _;obtain⟨G,g,a⟩:=h.sep.get (.ar k);simp only[CH,hk,d,oA]at a;exact⟨_,d,h.s.hs _ (zG d),a.mono λb _ a=>g b a⟩
theorem HH.rA (h:HH U F L H){Y:Lay}(hy:L.ys[k]?=some Y){K:Option Addr->Prop}(hK:K (some ⟨Y.p,0,none⟩)):Ix L.fT.a L.fT.len (k:Int) 1 λa=>fY a U K:=
 Dk h.nk (by simp[hy]) hK
theorem HH.th (h:HH U F L H)(ht:t<H.bR.length):∃x g,L.ts[t]?=some x/\H.bR[t]?=some g:=⟨L.ts[t]'(by rw[h.s.ts];exact ht),H.bR[t],cX _,cX _⟩
theorem yg {s:Sl}{ts:List eR}{bR:List Th}(h:cV s 3 (gW ts bR) U F){x:eR}{g:Th}(hx:ts[t]?=some x)(hg:bR[t]?=some g){d:Nat}(hd:d<3){v:Value}(hv:(jC (x,g))[d]?=some v):∃b o,s.a=some ⟨b,o,none⟩/\cell U ⟨b,o+(3*t+d),none⟩=some v:=
 h.cell ((BU hx hg hd).trans hv)
theorem BR {s:Sl}{ts:List eR}{bR:List Th}(hs:cV s 3 (gW ts bR) U F)(hl:ts.length=bR.length){x:eR}{g:Th}(hx:ts[t]?=some x)(hg:bR[t]?=some g){d:Nat}(hd:d<3){v:Value}(hv:(jC (x,g))[d]?=some v){K:Addr->Prop}
 (hK:∀b o,s.a=some ⟨b,o,none⟩->cell U (Addr.add ⟨b,o+3*t,none⟩ d)=some v->K ⟨b,o+3*t,none⟩):Ix s.a s.len (t:Int) 3 K:=by
 have p:=(cY.1 hg).1;have i:=hs.1;rw[GE hl]at i;obtain⟨b,o,j,m⟩:=yg hs hx hg hd hv;rw[j];refine ix O O ?_;rw[add_lit,show o+(t:Int).toNat*3=o+3*t by omega];exact hK b o j (by rw[add_lit,show o+3*t+d=o+(3*t+d) by omega];exact m)
theorem HH.Iu (h:HH U F L H){x:eR}{g:Th}(hx:L.ts[t]?=some x)(hg:H.bR[t]?=some g){d:Nat}(hd:d<3){v:Value}(hv:(jC (x,g))[d]?=some v){K:Addr->Prop}
 (hK:∀b o,cell U (Addr.add ⟨b,o+3*t,none⟩ d)=some v->K ⟨b,o+3*t,none⟩):Ix L.cS.a L.cS.len (t:Int) 3 K:=
 BR h.nc h.s.ts hx hg hd hv λb o _ i=>hK b o i
theorem HH.tS (h:HH U F L H){x:eR}{g:Th}(hx:L.ts[t]?=some x)(hg:H.bR[t]?=some g){K:Sl->Prop}(hK:K x.h):Ix L.cS.a L.cS.len (t:Int) 3 λa=>jJ (a.add 1) U K:=
 h.Iu hx hg (d:=1) O rfl λb o i=>oE i hK
theorem HH.tR (h:HH U F L H){x:eR}{g:Th}(hx:L.ts[t]?=some x)(hg:H.bR[t]?=some g){K:Value->Prop}(hK:K (nh g.ph)):Ix L.cS.a L.cS.len (t:Int) 3 λa=>yH (a.add 2) U K:=
 h.Iu hx hg (d:=2) O rfl λb o i=>⟨_,i,hK⟩
theorem HS.eC (h:HS L H){bR:List Th}{ts:List eR}(e:ts.length=bR.length)(e2:bR.length=H.bR.length):HS {L with ts:=ts} {H with bR:=bR}:=⟨h.ys,h.hs,e,h.a1,h.a2,by rw[e2];exact h.t1,by rw[e2];exact h.t2,h.tb⟩
theorem HS.cE (h:HS L H){A:AR}{sp:Sp}(e:A.tb=H.tb):HS L {H.cE k A with sp:=sp}:=⟨by simp[Hw.cE,h.ys],h.hs,h.ts,by simp[Hw.cE,h.a1],by simp[Hw.cE,h.a2],h.t1,h.t2,λB a=>by
 rcases AV a with h1|h1
 ·exact h.tb B h1
 ·subst h1;exact e⟩
theorem Ft {A:AR}:∀j,j≠kY.ar k->CH (H.cE k A) L j=CH H L j:=by
 intro j hj;cases j<;>try rfl
 rename_i m;have a:m≠k:=λe=>hj (by rw[e]);simp only[CH,Hw.cE,zh (Ne.symm a)]
theorem Lj {sp:Sp}:∀j,j≠kY.sp->CH {H with sp:=sp} L j=CH H L j:=by
 intro j hj;cases j<;>first|rfl|exact absurd rfl hj
theorem OG {l:List (Int×Bk)}:∀j,j≠kY.live->CH {H with live:=l} L j=CH H L j:=by
 intro j hj;cases j<;>first|rfl|exact absurd rfl hj
theorem HH.wy (h:HH U F L H){A:AR}(hk:H.bY[k]?=some A):∃(Y:Lay) (G:Rg),L.ys[k]?=some Y/\Y.hs=L.hs/\(∀b,G b->F b)/\dJ U G Y A (cM A Y)/\∀(σ':Hp) (A':AR) (G':Rg),A'.tb=A.tb->Ext G U σ'->(∀b,G' b->Grow G U b)->dJ σ' G' Y A' (cM A' Y) →
 Ext F U σ'/\HH σ' (λb=>F b/\b<U.size/\¬G b\/G' b) L (H.cE k A'):=by
 have i:=(cY.1 hk).1;have d:L.ys[k]?=some (L.ys[k]'(by rw[h.s.ys];exact i)):=cX _;generalize (L.ys[k]'(by rw[h.s.ys];exact i))=Y at d;obtain⟨G,m,hi,_,a⟩:=h.lS (.ar k);simp only[CH,hk,d,oA]at hi;refine⟨Y,G,d,h.s.hs _ (zG d),m,hi,λσ' A' G' g e j p=>?_⟩;refine a σ' (H.cE k A') L G' (h.s.cE (sp:=H.sp) (g.trans (h.s.tb A (zG hk)))) Ft e j ?_;simp only[CH,Hw.cE,d,zO i,oA];exact p
theorem HH.pV (h:HH U F L H){A:AR}(hk:H.bY[k]?=some A):∃(Y:Lay) (G D:Rg),L.ys[k]?=some Y/\Y.hs=L.hs/\W2 U G D Y A (cM A Y) H.sp/\∀(σ':Hp) (A':AR) (sp':Sp) (G' D':Rg),A'.tb=A.tb->Ext (jd G D) U σ'->Fits U G D G' D'->W2 σ' G' D' Y A' (cM A' Y) sp' →
 Ext F U σ'/\HH σ' (Grow F U) L {H.cE k A' with sp:=sp'}:=by
 have K:=(cY.1 hk).1;have i:L.ys[k]?=some (L.ys[k]'(by rw[h.s.ys];exact K)):=cX _;generalize (L.ys[k]'(by rw[h.s.ys];exact K))=Y at i;obtain⟨G,D,C,J,hd,hi,E,_,u⟩:=h.oW (.ar k) .sp (by intro e;cases e);simp only[CH,hk,i,oA]at hi;have E:dO U D L.hs H.sp:=E;have p:=h.s.hs _ (zG i);refine⟨Y,G,D,i,p,⟨hi,by rw[p];exact E,hd,h.g,h.o.sub C,h.o.sub J⟩,λσ' A' sp' G' D' y e M B=>?_⟩;have w:∀b,G' b->(G b\/D b)\/U.size<=b:=λb x=>(M.1 b x).imp .inl id;have r:∀b,D' b->(G b\/D b)\/U.size<=b:=λb x=>.inl (.inr (M.2 b x));have P:∀m,m≠kY.ar k->m≠kY.sp->CH {H.cE k A' with sp:=sp'} L m=CH H L m:=λm z N=>
  (Ft (H:={H with sp:=sp'}) (L:=L) (A:=A') m z).trans (Lj m N)
 have R:CH {H.cE k A' with sp:=sp'} L (.ar k) σ' G':=by
  simp only[CH,Hw.cE,i,zO K,oA];exact B.a
 have Q:CH {H.cE k A' with sp:=sp'} L .sp σ' D':=by
  show dO σ' D' L.hs sp';rw[←p];exact B.s
 obtain⟨e1,z⟩:=u σ' {H.cE k A' with sp:=sp'} L G' D' (h.s.cE (y.trans (h.s.tb A (zG hk)))) P e w r B.d R Q;refine⟨e1,h.grown z λb x j=>?_⟩;rcases j with j|j|j
 ·exact .inl j.1
 ·exact(w b j).imp (λi=>i.elim (C b) (J b)) id
 ·exact(r b j).imp (λi=>i.elim (C b) (J b)) id
theorem HH.xE (h:HH U F L H):∃G:Rg,(∀b,G b->F b)/\dO U G L.hs H.sp/\jf G/\∀(σ':Hp) (sp':Sp),Ext G U σ'->dO σ' (Grow G U) L.hs sp'->Ext F U σ'/\HH σ' (Grow F U) L {H with sp:=sp'}:=by
 obtain⟨G,g,hi,_,a⟩:=h.lS .sp;refine⟨G,g,hi,h.o.sub g,λσ' sp' e hs=>?_⟩;obtain⟨e1,j⟩:=a σ' {H with sp:=sp'} L (Grow G U) ⟨h.s.ys,h.s.hs,h.s.ts,h.s.a1,h.s.a2,h.s.t1,h.s.t2,h.s.tb⟩ Lj e (λb i=>i) hs;exact⟨e1,h.grown j λb i d=>by
  rcases d with d|d
  ·exact .inl d.1
  ·exact d.imp (g b) id⟩
theorem HH.sM (h:HH U F L H):F L.lm/\∀(σ':Hp) (l:List (Int×Bk)),Q3 U σ' L.lm->dK σ' L.lm .i64 (.ag 4) l->Ext F U σ'/\HH σ' F L {H with live:=l}:=by
 obtain⟨G,i,hi,_,a⟩:=h.lS .live;have hi:jL L.lm .i64 (.ag 4) H.live U G:=hi;refine⟨i _ hi.1,λσ' l j p=>?_⟩;obtain⟨e1,m⟩:=a σ' {H with live:=l} L G ⟨h.s.ys,h.s.hs,h.s.ts,h.s.a1,h.s.a2,h.s.t1,h.s.t2,h.s.tb⟩ OG (j.ext.sub λb g=>by rw[g];exact hi.1) (λb g=>.inl g) ⟨hi.1,p⟩;exact⟨e1,m.mono (λb _ d=>by
  rcases d with d|d
  ·exact d.1
  ·exact i b d) h.o h.o2⟩
theorem HH.oM (h:HH U F L H){x:eR}{g:Th}(hx:L.ts[t]?=some x)(hg:H.bR[t]?=some g):∃G:Rg,(∀b,G b->F b)/\eJ U G x.c H.tb H.cf.dD g.ls/\∀(σ':Hp) (ls:List Li) (Y':ib) (G':Rg),Y'.p=x.c.p->Ext G U σ'->(∀b,G' b->Grow G U b)->eJ σ' G' Y' H.tb H.cf.dD ls →
 Ext F U σ'/\HH σ' (λb=>F b/\b<U.size/\¬G b\/G' b) {L with ts:=L.ts.set t {x with c:=Y'}} {H with bR:=H.bR.set t {g with ls:=ls}}:=by
 have i:=(cY.1 hx).1;have a:=(cY.1 hg).1;obtain⟨G,B,hi,_,r⟩:=h.lS (.ca t);simp only[CH,hx,hg,qV]at hi;refine⟨G,B,hi,λσ' ls Y' G' A e w z=>?_⟩;have y:gW (L.ts.set t {x with c:=Y'}) (H.bR.set t {g with ls:=ls})=gW L.ts H.bR:=by
  have C:(gW L.ts H.bR).set (3*t+0) (.pointer (some ⟨x.c.p,0,none⟩))=gW L.ts H.bR:=QK (BU hx hg O);rw[←C];exact(AD hx hg (d:=0) O (by simp[jC,A])).symm
 refine r σ' {H with bR:=H.bR.set t {g with ls:=ls}} {L with ts:=L.ts.set t {x with c:=Y'}} G' (h.s.eC (by simp[h.s.ts]) aA) (λj D=>?_) e w ?_
 ·cases j<;>try rfl
  ·simp only[CH,y]
  ·rename_i m;have u:m≠t:=λe=>D (by rw[e]);simp only[CH,zh (Ne.symm u)]
  ·rename_i m;by_cases u:m=t
   ·subst u;simp only[CH,zO i,zO a,hx,hg];rfl
   ·simp only[CH,zh (Ne.symm u)]
 ·simp only[CH,zO i,zO a,qV];exact z
theorem HH.sT (h:HH U F L H){x:eR}{g:Th}(hx:L.ts[t]?=some x)(hg:H.bR[t]?=some g)(N:Rg)(hN:∀b,b<U.size->F b->¬N b)(oN:jf N)(oN2:¬N 1):∃G D:Rg,(∀b,G b->F b)/\(∀b,D b->F b)/\(∀b,G b->¬D b)/\iF x.h g.bQ U G/\bS L.cS 3 (gW L.ts H.bR) U D/\(∃E:Rg,(∀b,E b->¬G b)/\(∀b,E b->¬D b)/\iD L.p (Ad L H.cf) U E) ∧
 ∀(σ':Hp) (s:Sl) (bs:List Bt) (G' D':Rg),Ext (λb=>G b\/D b) U σ'->(∀b,G' b->(G b\/D b)\/N b)->(∀b,D' b->(G b\/D b)\/N b)->(∀b,G' b->¬D' b)->iF s bs σ' G'->bS L.cS 3 ((gW L.ts H.bR).set (3*t+1) (.slice s.a s.len s.cap)) σ' D' →
  Ext F U σ'/\HH σ' (λb=>F b/\b<U.size/\¬(G b\/D b)\/G' b\/D' b) {L with ts:=L.ts.set t {x with h:=s}} {H with bR:=H.bR.set t {g with bQ:=bs}}:=by
 have u:=(cY.1 hx).1;have r:=(cY.1 hg).1;obtain⟨G,D,S,V,hd,hi,C,j,i⟩:=h.qd (.hn t) .cS (by intro e;cases e) N hN oN oN2;simp only[CH,hx,hg,qB]at hi;have C:bS L.cS 3 (gW L.ts H.bR) U D:=C;obtain⟨E,_,M,y⟩:=j .hd (by intro e;cases e) (by intro e;cases e);refine⟨G,D,S,V,hd,hi,C,⟨E,λb K hx=>M b K (.inl hx),λb K hx=>M b K (.inr hx),y⟩,λσ' s bs G' D' e J A z P W=>?_⟩;have B:gW (L.ts.set t {x with h:=s}) (H.bR.set t {g with bQ:=bs})=(gW L.ts H.bR).set (3*t+1) (.slice s.a s.len s.cap):=(AD hx hg (d:=1) O (by simp[jC])).symm;refine i σ' {H with bR:=H.bR.set t {g with bQ:=bs}} {L with ts:=L.ts.set t {x with h:=s}} G' D' (h.s.eC (by simp[h.s.ts]) aA) (λm R Q=>?_) e J A z ?_ ?_
 ·cases m<;>first|rfl|exact absurd rfl Q|skip
  ·rename_i m;by_cases w:m=t
   ·subst w;simp only[CH,zO u,zO r,hx,hg];rfl
   ·simp only[CH,zh (Ne.symm w)]
  ·rename_i m;have w:m≠t:=λe=>R (by rw[e]);simp only[CH,zh (Ne.symm w)]
 ·simp only[CH,zO u,zO r,qB];exact P
 ·simp only[CH,B];exact W
theorem HH.tv (h:HH U F L H){x:eR}{g:Th}(hx:L.ts[t]?=some x)(hg:H.bR[t]?=some g)(p:Option Ph){K:aP}(hK:∀σ',Ext F U σ'->HH σ' F L {H with bR:=H.bR.set t {g with ph:=p}}->K σ') :
 Ix L.cS.a L.cS.len (t:Int) 3 λa=>And (ji (nh p)) (dZ (a.add 2) (nh p) U K):=by
 have A:=(cY.1 hx).1;have i:=(cY.1 hg).1;have z:=h.mc;obtain⟨G,D,hi,_,u⟩:=h.lS .cS;have hi:bS L.cS 3 (gW L.ts H.bR) U G:=hi;have B:=GE h.s.ts;obtain⟨b,w⟩:∃b,L.cS.a=some ⟨b,0,none⟩:=by
  rcases hi.2 with⟨h0,_⟩|⟨b,_,_,ha,_⟩
  ·omega
  ·exact⟨b,ha⟩
 rw[w];refine ix O O ⟨uY p,?_⟩;refine hi.st (j:=3*t+2) O (λM r=>by rw[w]at r;cases r;rw[add_lit,add_lit];congr 1;omega) λσ' e E=>?_;have y:gW L.ts (H.bR.set t {g with ph:=p})=(gW L.ts H.bR).set (3*t+2) (nh p):=by
  have:=AD hx hg (d:=2) (v:=nh p) (x':=x) (h':={g with ph:=p}) O (by simp[jC]);rw[this,QK hx]
 obtain⟨e1,C⟩:=u σ' {H with bR:=H.bR.set t {g with ph:=p}} L G (h.s.eC (ts:=L.ts) (by simp[h.s.ts]) aA) (λj J=>by
  cases j<;>first|rfl|exact absurd rfl J|skip
  ·rename_i m;by_cases hm:t=m
   ·subst hm;simp only[CH,zO i,hx,hg];rfl
   ·simp only[CH,zh hm]
  ·rename_i m;by_cases hm:t=m
   ·subst hm;simp only[CH,zO i,hx,hg];rfl
   ·simp only[CH,zh hm]) e (λb w=>.inl w) (by simp only[CH,y];exact E)
 exact hK σ' e1 (C.mono (λb _ hx=>by
  rcases hx with hx|hx
  ·exact hx.1
  ·exact D b hx) h.o h.o2)
end Go.Ar
namespace Go.Ar
open Go Go.Vc Go.Proofs
open Go.Bu (Zx Kf Zv)
variable {U:Hp}{F H:Rg}{p hs:Nat}{A:AR}{sp:Sp}{Y:Lay}{T:Nat->Hp->Rg->Prop}
end Go.Ar
namespace Go.Ar
open Go Go.Vc Go.Proofs
variable {U:Hp}{F:Rg}{L:dE}{H:Hw}{t k:Nat}
theorem U5 (h:HH U F L H){R:aO}(hR:R true U):XM.c (aW L.p) U R:=by
 refine XM.o ?_;unfold XM.v;have a:=h.mc;have b:=h.s.t1;refine bX.intro (cF rfl (bL (h.hd.rS rfl ?_)));rw[zI aC];exact hR
theorem CN (h:HH U F L H)(x:Int){R:aO}(hR:R (decide (0<=x/\x<(H.bR.length:Int))) U):Yo.c (aW L.p) x U R:=by
 refine Yo.o ?_;unfold Yo.v;have a:=h.mc;refine bX.intro (cP (λb=>bL (h.hd.rS rfl ?_)) λb=>?_)
 ·have:decide (x<((L.cS.len:Nat):Int))=decide (0<=x/\x<(H.bR.length:Int)):=by rw[decide_eq_decide,a];omega
  simp only[this];exact hR
 ·rw[zJ O]at hR;exact hR
theorem FJ (h:HH U F L H)(t:Nat){R:aN}(hR:R ((H.own t:Nat):Int) U):ZP.c (aW L.p) (t:Int) U R:=by
 refine ZP.o ?_;unfold ZP.v;have a:=h.m7;have b:=h.s.a1;refine bL (h.hd.rS rfl (nz aC ?_));have:((t:Int).tmod ((L.fT.len:Nat):Int))=((H.own t:Nat):Int):=by rw[Kg O,a];unfold Hw.own;omega
 simp only[this];exact hR
theorem BZ (h:HH U F L H)(x:Int)(hx9:x<=9223372036854775807){R:aN}(hR:∀σ',aG U σ'->R (Yd H.bY x) σ'):Yi.c (aW L.p) x U R:=by
 refine Yi.o ?_;unfold Yi.v;refine nw (cs:=[.int .i64 x]) λv hz e P=>P.uj rfl ?_;have Q:=h.bP e;by_cases hx:x<0
 ·have:=hR v e;unfold Yd at this;rw[zC hx]at this;exact lR hx this
 refine gg hx (bL (Q.hd.rS rfl ?_));have hl:=h.m7;have Z:=h.s.a2;refine Wr.o ?_;unfold Wr.v;refine Qp (a:=bO) (λ(z:Int) w=>∃i:Nat,z=(i:Int)/\i<=H.bY.length/\aG U w/\HH w F L H/\bZ w U.size [.int .i64 x]/\∀j A,j<i->H.bY[j]?=some A->pK A (x/256)=false) (λz _=>H.bY.length-z.toNat) ⟨0,rfl,O,e,Q,P,λj A g=>O⟩ ?_;rintro z w ⟨i,rfl,hi,D,G,u,b⟩;refine cP (λN=>?_) λJ=>?_
 ·simp only at N;have E:i<H.bY.length:=by omega
  have d:H.bY[i]?=some H.bY[i]:=cX E;generalize H.bY[i]=A at d;obtain⟨Y,W,X,C⟩:=G.ar d;refine G.rA W (G5 (all := #[.pointer (some ⟨Y.p,0,none⟩),.pointer (some ⟨U.size,0,none⟩)]) (by kernel_rfl) aA ?_);refine Zg.o ?_;unfold Zg.v;refine u.uj rfl (nz aB (ar (by rw[YO O];omega) (by rw[YO O];omega) ?_));rw[YO O];refine N7 C (x/256) (cN (λS=>?_) λV=>?_)
  ·have:Yd H.bY x=(i:Int):=by
    unfold Yd;rw[zB hx];have:H.bY.findIdx? (λA=>pK A (x/256))=some i:=by
     obtain⟨M,rfl⟩:=cY.1 d;exact nE.2 ⟨M,S,λj g=>by rw[b j _ g (cX O)];simp⟩
    rw[this]
   have r:=hR w D;rw[this]at r;exact r
  ·exact cT (m:=i+1) O O ⟨⟨i+1,rfl,O,D,G,u,λj B g y=>by
    by_cases e:j=i
    ·subst e;rw[d]at y;cases y;exact V
    ·exact b j B O y⟩,O⟩
 ·have K:i=H.bY.length:=by simp only at J;omega
  subst K;have:Yd H.bY x = -1:=by
   unfold Yd;rw[zB hx];have:H.bY.findIdx? (λA=>pK A (x/256))=none:=by
    rw[vC];intro A d;obtain⟨j,g⟩:=zP d;exact b j A (cY.1 g).1 g
   rw[this]
  have r:=hR w D;rw[this]at r;exact r
theorem Gh (h:HH U F L H){R:Int->Int->Int->Int->Int->Hp->Prop}(hR:∀σ',aG U σ'->R (H.cf.aF:Int) (H.cf.ij:Int) (H.cf.threads:Int) (H.cf.dD:Int) (H.cf.room:Int) σ'):XT.c (aW L.p) U R:=by
 refine XT.o ?_;unfold XT.v;refine nw (cs:=[.int .i64 0,.int .i64 0,.int .i64 0,.int .i64 0,.int .i64 0]) λv r e i=>U5 (h.bP e) (cD rfl ?_);have hd:=(h.bP e).hd;refine bL (hd.fM rfl (hd.fM rfl (hd.fM rfl (hd.fM rfl (hd.fM rfl ?_)))));refine i.s1 aA λs o1 d=>d.s1 aA λu o2 b=>b.s1 aA λv3 o3 g=>g.s1 aA λm o4 b4=>b4.s1 aA λj o5 a=>?_;refine a.rI rfl (a.rI rfl (a.rI rfl (a.rI rfl (a.rI rfl (hR j ?_)))));exact((((e.only o1 (.inr (zD _))).only o2 (.inr (zD _))).only o3 (.inr (zD _))).only o4 (.inr (zD _))).only o5 (.inr (zD _))
theorem Io (h:HH U F L H){R:Option Addr->Hp->Prop}(hR:R (some ⟨L.hs,0,none⟩) U):YW.c (aW L.p) U R:=by
 refine YW.o ?_;unfold YW.v;exact U5 h (cD rfl (bL (h.hd.rP rfl hR)))
theorem Mp (h:HH U F L H)(x:Int)(hx:x<=9223372036854775807){R:Int->Int->Hp->Prop}(hR:∀σ',aG U σ'->R (if eO H.sp x=0 then H.sp.wd (x.toNat/8)else 0) (eO H.sp x) σ'):YG.c (aW L.p) x U R:=by
 refine YG.o ?_;unfold YG.v;exact Io h (π h.Mq h.g x hx hR)
theorem MZ (h:HH U F L H)(gc:Gc U)(x v:Int)(hx:x<=9223372036854775807){R:aN}(hR:∀σ',Ext F U σ'->HH σ' (Grow F U) L {H with sp:=ZD H.sp x v}->R (eO H.sp x) σ'):Xw.c (aW L.p) x v U R:=by
 refine Xw.o ?_;unfold Xw.v;obtain⟨G,m,j,d,a⟩:=h.xE;refine Io h (Mr j h.g gc x hx v λσ' e b=>?_);obtain⟨e1,i⟩:=a σ' _ e b;exact hR σ' e1 i
theorem Wgb (h:HH U F L H)(x:Int){R:Int->Int->Hp->Prop}(hR:∀σ',aG U σ'->R ((bU H.live x).elim 0 λb=>b.2.1) (if(bU H.live x).isSome then 0 else 8) σ'):XR.c (aW L.p) x U R:=by
 refine XR.o ?_;unfold XR.v;refine U5 h (cD rfl (bL (h.hd.rM rfl ⟨_,h.nf,?_⟩)));refine nw (cs:=[.int .i64 0,.int .i64 0,.int .i64 0,.int .i64 0]) λv s e r=>?_;refine r.s1 aA λu o1 m=>m.s1 aA λw o2 g=>g.s1 aA λv3 o3 i=>i.s1 aA λv4 o4 b4=>?_;have j:aG U v4:=(((e.only o1 (.inr (zD _))).only o2 (.inr (zD _))).only o3 (.inr (zD _))).only o4 (.inr (zD _));have a:=hR v4 j;cases hm:bU H.live x with
 | none=>
  rw[hm]at a;exact cF rfl a
 | some b=>
  rw[hm]at a;refine cD rfl (b4.rI rfl ?_);have d:((bU H.live x).getD ((0,0,0,0):Bk)).2.1=b.2.1:=by rw[hm];rfl
  rw[d];exact a
theorem Uh (h:HH U F L H)(ht:t<H.bR.length){R:Value->Hp->Prop}(hR:R (nh (j8 H t)) U):Xm.c (aW L.p) (t:Int) U R:=by
 refine Xm.o ?_;unfold Xm.v;obtain⟨x,g,b,a⟩:=h.th ht;refine bL (h.hd.rS rfl (h.tS b a ?_));obtain⟨G,i,hi⟩:=h.sep.get (.hn t);simp only[CH,b,a,qB]at hi;have d:=hi.len;unfold j8 at hR;rw[a]at hR;simp only at hR;by_cases h0:g.bQ=[]
 ·rw[zC h0]at hR;exact cF (by rw[d,h0];rfl) hR
 ·rw[zB h0]at hR;have:=py.2 h0;exact cD (by simp only[mP];omega) hR
theorem Bb (h:HH U F L H)(x size cls:Int)(hx9:x<=9223372036854775807){R:Value->Int->Int->Hp->Prop}(hR:∀σ',Ext F U σ'->HH σ' F L (VX H x size cls)->R .nilIface x 0 σ'):Y6.c (aW L.p) x size cls U R:=by
 refine Y6.o ?_;unfold Y6.v;refine nw (cs:=[.int .i64 0,.int .i64 0]) λv C e a=>?_;have m:=h.cut.bP e;refine⟨λu=>aG v u,Ext.refl _ _,bL ⟨some L.lm,λu z=>by rw[add_lit,((m.bP z).hd).cell];rfl,?_⟩⟩;refine BZ m x hx9 λD e1=>⟨e1,?_⟩;have s:=m.bP e1;obtain⟨B,d⟩:=s.sM;refine⟨L.lm,_,rfl,s.nf,λr o2 i=>?_⟩;obtain⟨e2,w⟩:=d r _ o2 i;have j:bZ r U.size [.int .i64 0,.int .i64 0]:=WE o2 (e1.bV a id) (by have:=B.2;omega);refine j.s1 aA λv3 o3 y=>y.s1 aA λv4 o4 b4=>b4.rI rfl (b4.rI rfl (hR v4 ?_ ?_))
 ·exact(((aG.to (e.trans e1)).trans (e2.sub λb a=>a.1)).only o3 (.inr (zD _))).only o4 (.inr (zD _))
 ·have g:Ext (· = U.size) r v4:=o3.ext.trans o4.ext;have A:=h.wW w g (λb a=>O) (λb _ a E=>by have:=a.2;omega);exact A.mono (λb _ a=>a.1) h.o h.o2
theorem yA (h:HH U F L H)(ht:t<H.bR.length)(k:Nat){s:Sl}{xs:List Int}{X:Rg}(hs:cV s 1 (Wu xs) U X)(hc:s.len<=s.cap)(hxs:xs≠[])(hX:∀b,b<U.size->X b->¬F b)(oX:jf X)(oX2:¬X 1)(hlen:∀g,H.bR[t]?=some g->g.bQ.length<=1000){R:aP}
 (hR:∀σ' ts',Ext F U σ'->HH σ' (λb=>Grow F U b\/X b) {L with ts:=ts'} (Ki H t k xs)->R σ'):YI.c (aW L.p) (t:Int) (k:Int) s U R:=by
 refine YI.o ?_;unfold YI.v;obtain⟨x,g,r,V⟩:=h.th ht;have htl:=GE h.s.ts;have hrl:=h.mc;have hlen:=hlen g V;obtain⟨G,D,hG,W,hd,hB,hr,⟨E,hE1,hE2,hhd⟩,Q⟩:=h.cut.sT r V (λb=>U.size<=b\/b<U.size/\X b) (λb m hf hn=>by
  rcases hn with hn|hn
  ·omega
  ·exact hX b m hn.2 hf.1) (λb m=>m.elim (h.mT.1 b) λm=>oX b m.2) (λm=>m.elim h.mT.2 λm=>oX2 m.2)
 obtain⟨ps,Dn,A,J,K,hj,Y⟩:=hB;have B:∀u,Ext G U u->bZ u L.p (Ad L H.cf):=λu z=>((iD.loc _ _).bT hhd z λb _ m r=>hE1 b m r).2;have hr':∀u,Ext G U u->bS L.cS 3 (gW L.ts H.bR) u D:=λu z=>aI.bT hr z λb _ m r=>hd b r m;refine⟨λu=>Ext G U u,Ext.refl _ _,bL ⟨L.cS,λu z=>by rw[add_lit,(B u z).cell];rfl,bL ⟨L.cS,λu z=>by rw[add_lit,(B u z).cell];rfl,?_⟩⟩⟩;refine BR (bS.fW hr) h.s.ts r V (d:=1) O rfl λb o ha _=>⟨x.h,λu z=>?_,?_⟩
 ·obtain⟨b',o',P,hc'⟩:=yg (bS.fW (hr' u z)) r V (d:=1) O rfl;rw[ha]at P;cases P;rw[add_lit,show o+3*t+1=o+(3*t+1) by omega];exact hc'
 refine nw (cs:=[.int .i64 (k:Int),.slice s.a s.len s.cap]) λv hz e m=>⟨aG.to e,?_⟩;have N:=(dL.loc _ _ _).bP ((dL.loc _ _ _).cut A) e;have aa:=(kH.loc _ _).bP ((kH.loc _ _).cut J) e;have hs1:=aH.bP (aH.cut hs) e;have hpl:x.h.len=ps.length:=by have:=A.1;rw[Vm]at this;omega
 have hpg:ps.length=g.bQ.length:=J.1;refine N.app (ys:=oz (k,s)) rfl rfl ?_ (λv hv=>HE (l:=[(k,s)]) v (by simpa[fK]using hv)) ?_ ?_ nu λs' v2 hl2 e2 hr2=>?_
 ·intro j u z;rw[add_lit,zH,m.cell];exact z
 ·simp only;have:(x.h.len+1)*32<=1001*32:=mo O O;omega
 ·simp only;omega
 have hs2:=e2.1;have eG:Ext G U v2:=(aG.to e).trans (e2.sub λb m=>m.1.1);refine⟨eG,?_⟩;obtain⟨b0,Z⟩:∃b,L.cS.a=some ⟨b,0,none⟩:=by
  rcases hr.2 with⟨h0,_⟩|⟨b,_,_,ha,_⟩
  ·omega
  ·exact⟨b,ha⟩
 rw[Z];refine ix O O ?_;refine(hr' v2 eG).st (j:=3*t+1) O (λb' S=>by rw[Z]at S;cases S;rw[add_lit,add_lit];congr 1;omega) λσ' e3 hr3=>?_;have hs3:=e3.1;have e03:Ext (λb=>G b\/D b) U σ':=(eG.sub λb m=>.inl m).trans (e3.sub λb m=>.inr m);have hr4:=(dL.loc _ _ _).bT ((dL.loc _ _ _).cut hr2) e3 λb _ m r=>by
  rcases m.1 with h1|h1
  ·exact hd b h1.1.1 r
  ·have:=(W b r).2;omega
 have hB4:=(kH.loc _ _).bT ((kH.loc _ _).bT aa e2 λb _ m r=>r.1.2 m.1) e3 λb _ m r=>hd b (K b m.1) r;have hs4:=aH.bT (aH.bT hs1 e2 λb m r w=>hX b r.2 r.1 (hG b w.1.1).1) e3 λb _ r w=>hX b r.2 r.1 (W b w).1;have hBt:iF s' (g.bQ++[(k,xs)]) σ' (λb=>G b/\b<U.size\/b<U.size/\X b\/v.size<=b/\b<v2.size):=by
  refine⟨ps++[(k,s)],λb=>Dn b/\b<U.size\/b<U.size/\X b,?_,⟨by simp[hpg],λi p y C w=>?_⟩,λb m=>?_,hj.snoc J Y hs hxs (λb m r w=>hX b m w (hG b (K b r)).1) k,λy w=>?_⟩
  ·rw[Ht];have:fK [(k,s)]=oz (k,s):=by simp[fK]
   rw[this];refine(dL.loc _ _ _).mono hr4 λq _ M=>?_;rcases M.1 with h1|h1
   ·exact⟨.inl ⟨h1.1.1,h1.2⟩,λr=>by
     rcases r with r|r
     ·exact h1.1.2 r.1
     ·exact hX q r.1 r.2 (hG q h1.1.1).1⟩
   ·exact⟨.inr (.inr ⟨h1,M.2⟩),λr=>by
     rcases r with r|r<;>omega⟩
  ·rcases kg i ps.length with hi|hi
   ·rw[zd hi]at C;rw[zd O]at w;obtain⟨a1,a2,a3⟩:=hB4.2 i p y C w;exact⟨a1,aH.mono a2 λq _ M=>.inl M,a3⟩
   ·rw[zp hi]at C;rw[zp O]at w;have hi0:i-ps.length=0:=by
     have:=(cY.1 C).1;simp at this;omega
    rw[hi0]at C;rw[show i-g.bQ.length=0 by omega]at w;simp at C w;subst C;subst w;exact⟨rfl,aH.mono hs4 λq _ M=>.inr ⟨M.2,M.1⟩,hc⟩
  ·rcases m with m|m
   ·exact .inl ⟨K b m.1,m.2⟩
   ·exact .inr (.inl m)
  ·rcases zM.1 w with h1|h1
   ·exact Y y h1
   ·rw[zN]at h1;subst h1;exact hxs
 obtain⟨eF,h4⟩:=Q σ' s' (g.bQ++[(k,xs)]) (λb=>G b/\b<U.size\/b<U.size/\X b\/v.size<=b/\b<v2.size) D e03 (λb m=>by
  rcases m with m|m|m
  ·exact .inl (.inl m.1)
  ·exact .inr (.inr m)
  ·exact .inr (.inl O)) (λb m=>.inl (.inr m)) (λb m r=>by
  have:=(W b r).2;rcases m with m|m|m
  ·exact hd b m.1 r
  ·exact hX b m.1 m.2 (W b r).1
  ·omega) hBt hr3
 refine hR σ' (L.ts.set t {x with h:=s'}) (eF.sub λb m=>m.1) ?_;have e5:Ki H t k xs = {H with bR:=H.bR.set t {g with bQ:=g.bQ++[(k,xs)]}}:=by
  unfold Ki Hw.eC
  congr 1
  exact VA V
 rw[e5];refine h4.mono (λb _ m=>?_) (λb (m:Grow F U b\/X b)=>m.elim (h.oG b) (oX b)) λ(m:Grow F U _\/X _)=>m.elim h.sd oX2;rcases m with m | (m|m|m)|m
 ·exact .inl (.inl m.1.1)
 ·exact .inl (.inl (hG b m.1).1)
 ·exact .inr m.2
 ·exact .inl (.inr O)
 ·exact .inl (.inl (W b m).1)
end Go.Ar
namespace Go.Ar
open Go Go.Vc Go.Proofs
variable {U u u':Hp}{F B P:Rg}{L:dE}{H H':Hw}{t k n:Nat}{A:AR}{Y:Lay}{x:eR}{g:Th}{c:cA}{l:Li}{cs:List Value}
structure HK (F:Rg) (U:Hp) (B:Rg) (u:Hp) (P:Rg) (L:dE) (H:Hw):Prop where
 h:HH u P L H
 e:Ext F U u
 p:∀b,P b->(F b/\b<U.size\/U.size<=b)/\¬B b/\b<u.size
 b:∀b,B b->U.size<=b/\b<u.size
 o:jf (λb=>U.size<=b)/\¬U.size<=1
theorem HK.start (h:HH U F L H):HK F U (λ_=>False) U (Cut F U) L H:=⟨h.cut,Ext.refl _ _,λb a=>⟨.inl ⟨a.1,a.2⟩,id,a.2⟩,λb a=>a.elim,h.mT⟩
theorem HK.box (K:HK F U B u P L H)(e:aG u u')(hz:u'.size=u.size+1):HK F U (λb=>B b\/b=u.size) u' P L H:=
 ⟨K.h.bP e,K.e.trans (aG.to e),λb a=>⟨(K.p b a).1,λd=>d.elim (K.p b a).2.1 λg=>by have:=(K.p b a).2.2;omega,by have:=(K.p b a).2.2;omega⟩,λb a=>by
  have:=K.e.1;rcases a with a|a
  ·have:=K.b b a;omega
  ·omega,K.o⟩
theorem HK.fr (K:HK F U B u P L H)(e:aG u u'):HK F U B u' P L H:=
 ⟨K.h.bP e,K.e.trans (aG.to e),λb a=>⟨(K.p b a).1,(K.p b a).2.1,by have:=(K.p b a).2.2;have:=e.1;omega⟩,λb a=>by have:=K.b b a;have:=e.1;omega,K.o⟩
theorem HK.own (K:HK F U B u P L H)(o:Q3 u u' n)(hn:B n):HK F U B u' P L H:=by
 have s:=K.b n hn;have r:=o.1;have e:Ext (· = n) u u':=o.ext;have i:∀b,b<u.size->P b->¬(b=n):=λb _ a j=>(K.p b a).2.1 (j▸hn);have d:jf (λb=>b=n)/\¬(1=n):=⟨K.o.1.sub λb m=>O,λm=>K.o.2 O⟩;exact⟨K.h.bT e i d.1 d.2,K.e.dW e λb (g:b=n)=>.inr O,λb a=>⟨(K.p b a).1,(K.p b a).2.1,by have:=(K.p b a).2.2;omega⟩,λb a=>by have:=K.b b a;omega,K.o⟩
theorem HK.cZ (K:HK F U B u P L H)(e:Ext P u u')(hb:bZ u n cs)(hn:B n):bZ u' n cs:=e.bV hb λa=>(K.p n a).2.1 hn
theorem HK.uq (K:HK F U B u P L H){Q:Rg}{L':dE}(e:Ext P u u')(h:HH u' Q L' H')(hq:∀b,b<u'.size->Q b->P b\/u.size<=b\/(F b/\b<U.size\/U.size<=b)/\¬B b):HK F U B u' (Cut Q u') L' H':=by
 have g:=e.1;have i:=K.e.1;refine⟨h.cut,K.e.dW e λb a=>(K.p b a).1.imp (λh=>h.1) id,λb a=>⟨?_,λd=>?_,a.2⟩,λb a=>by have:=K.b b a;omega,K.o⟩
 ·rcases hq b a.2 a.1 with h1|h1|h1
  ·exact(K.p b h1).1
  ·exact .inr O
  ·exact h1.1
 ·rcases hq b a.2 a.1 with h1|h1|h1
  ·exact(K.p b h1).2.1 d
  ·have:=K.b b d;omega
  ·exact h1.2 d
theorem HK.to (K:HK F U B u P L H){Q:Rg}{L':dE}(e:Ext P u u')(h:HH u' Q L' H')(hq:∀b,b<u'.size->Q b->P b\/u.size<=b):HK F U B u' (Cut Q u') L' H':=K.uq e h λb a d=>(hq b a d).imp id .inl
theorem HK.fin (K:HK F U B u P L H){L0:dE}{H0:Hw}(h0:HH U F L0 H0):HH u (Grow F U) L H:=h0.grown K.h λb _ a=>(K.p b a).1.imp (λh=>h.1) id
def Fr (A' A:AR):Prop:=A'.tb=A.tb/\A'.room=A.room/\A'.cR=A.cR
theorem Fr.cM {A' A:AR}(h:Fr A' A)(Y:Lay):Go.Ar.cM A' Y=Go.Ar.cM A Y:=by
 funext k;unfold Go.Ar.cM;rw[h.1,h.2.1,h.2.2]
theorem FK (A:AR)(k m:Int):Fr (YQ A k m) A:=by
 unfold YQ;split<;>exact⟨rfl,rfl,rfl⟩
theorem Ei (A:AR)(k:Int)(xs:List Int):Fr (ZT A k xs) A:=⟨(US A k xs).1,(US A k xs).2.1,(US A k xs).2.2.1⟩
theorem I2 (A:AR)(sp:Sp)(m a no:Nat):Fr (dC A sp m a no).2.1 A:=⟨(Gi A sp m a no).1,(Gi A sp m a no).2.2.2.1,(Gi A sp m a no).2.2.1⟩
theorem JQ (A:AR)(x:Int):Fr (Q8 A x) A:=by
 unfold Q8;split<;>exact⟨rfl,rfl,rfl⟩
theorem Jf (A:AR)(sp:Sp)(k:Int):Fr (cQ A sp k).1 A:=by
 unfold cQ;split
 ·split
  ·rename_i c ss h1 h2;have h:=I2 A sp c.aF 1 (k.toNat+1);generalize dC A sp c.aF 1 (k.toNat+1)=r at h;obtain⟨o,A',a⟩:=r;cases o with
   | none=>exact h
   | some x=>
    simp only;split<;>exact h
  ·exact⟨rfl,rfl,rfl⟩
 ·exact⟨rfl,rfl,rfl⟩
theorem E7 (A:AR)(sp:Sp)(m a:Int):Fr (cC A sp m a).1 A:=by
 unfold cC;split
 ·have h:=I2 A sp m.toNat a.toNat 41;generalize dC A sp m.toNat a.toNat 41=r at h;obtain⟨o,A',b⟩:=r;cases o<;>exact h
 ·exact⟨rfl,rfl,rfl⟩
theorem T8 (A:AR)(k:Int):(ZW A k).tb=A.tb:=by unfold ZW;split<;>rfl
theorem Rx (A:AR)(k:Int)(xs:List Int):(KB A k xs).tb=A.tb:=by unfold KB;split<;>rfl
theorem HH.mK (h:HH U F L H)(hk:H.bY[k]?=some A)(hy:L.ys[k]?=some Y):∃G:Rg,(∀b,G b->F b)/\dJ U G Y A (cM A Y)/\∀(σ':Hp) (A':AR) (Q:Rg),A'.tb=A.tb->Ext G U σ'->(∀b,Q b->G b\/U.size<=b)->dJ σ' (λb=>Grow G U b/\¬Q b) Y A' (cM A' Y) →
 Ext F U σ'/\HH σ' (λb=>Grow F U b/\¬Q b) L (H.cE k A'):=by
 obtain⟨Y',G,d,_,j,r,g⟩:=h.wy hk;rw[hy]at d;cases d;refine⟨G,j,r,λσ' A' Q i e u s=>?_⟩;obtain⟨e1,p⟩:=g σ' A' _ i e (λb a=>a.1) s;refine⟨e1,p.mono (λb _ a=>?_) (h.oG.sub λb a=>a.1) λa=>h.sd a.1⟩;rcases a with a|a
 ·exact⟨.inl a.1,λm=>by
   rcases u b m with h2|h2
   ·exact a.2.2 h2
   ·have:=a.2.1;omega⟩
 ·exact⟨a.1.imp (j b) id,a.2⟩
theorem dJ.xz {T:Nat->Hp->Rg->Prop}{G Q:Rg}(h:dJ U G Y A T)(hq:∀b,¬Q b):dJ U (λb=>G b/\¬Q b) Y A T:=h.mono λb _ a=>⟨a,hq b⟩
theorem HH.mL (h:HH U F L H)(hk:H.bY[k]?=some A)(hy:L.ys[k]?=some Y):∃G:Rg,(∀b,G b->F b)/\dJ U G Y A (cM A Y)/\∀(σ':Hp) (A':AR),A'.tb=A.tb->Ext G U σ'->dJ σ' (Grow G U) Y A' (cM A' Y) →
 Ext F U σ'/\HH σ' (Grow F U) L (H.cE k A'):=by
 obtain⟨G,i,m,a⟩:=h.mK hk hy;refine⟨G,i,m,λσ' A' g e p=>?_⟩;obtain⟨e1,j⟩:=a σ' A' (λ_=>False) g e (λb d=>d.elim) (p.xz λ_=>id);exact⟨e1,j.mono (λb _ d=>d.1) h.oG h.sd⟩
theorem G7 (h:HH U F L H)(hk:H.bY[k]?=some A)(hy:L.ys[k]?=some Y)(c:Int){R:Sl->Int->Hp->Prop}
 (hR:∀s σ' (Q:Rg),Ext F U σ'->(∀b,Q b->F b)->cV s 1 (Wu (YM A c)) σ' Q->s.len<=s.cap->HH σ' (λb=>Grow F U b/\¬Q b) L (H.cE k (ZW A c))->R s (Qz A c) σ') :
 WU.c (aW Y.p) c U R:=by
 obtain⟨G,j,m,d⟩:=h.mK hk hy;refine G8 m c λs σ' e i r g w=>?_;obtain⟨e1,u⟩:=d σ' (ZW A c) (k5 s) (T8 A c) e (λb a=>.inl (i b a)) (w.mono λb _ a=>⟨.inl a.1,a.2⟩);exact hR s σ' (k5 s) e1 (λb a=>j b (i b a)) r g u
theorem ψ (h:HH U F L H)(hk:H.bY[k]?=some A)(hy:L.ys[k]?=some Y)(c m:Int){R:Sl->Int->Hp->Prop}
 (hR:∀s σ' (Q:Rg),Ext F U σ'->(∀b,Q b->U.size<=b)->bS s 1 (ints (Yw A c m)) σ' Q->HH σ' (λb=>Grow F U b/\¬Q b) L (H.cE k (YQ A c m))->R s (Q6 A c m) σ') :
 WX.c (aW Y.p) c m U R:=by
 obtain⟨G,w,i,d⟩:=h.mK hk hy;refine WbD i c m λs σ' e u r=>?_;have g:cM (YQ A c m) Y=cM A Y:=(FK A c m).cM Y;obtain⟨e1,j⟩:=d σ' (YQ A c m) (λb=>U.size<=b) (FK A c m).1 e (λb a=>.inr a) (by rw[g];exact r.mono λb _ a=>⟨.inl a.1,by have:=a.2;omega⟩);exact hR s σ' _ e1 (λb a=>a) u j
theorem Ts (h:HH U F L H)(hk:H.bY[k]?=some A)(hy:L.ys[k]?=some Y)(c:Int){sl:Sl}{xs:List Int}{X:Rg}(hs:cV sl 1 (Wu xs) U X)(hi:∀x∈xs,iN x){R:Bool->Int->Hp->Prop}
 (hR:∀σ',Ext F U σ'->HH σ' (Grow F U) L (H.cE k (KB A c xs))->R (VB A c xs) (H7 A c xs) σ'):W5.c (aW Y.p) c sl U R:=by
 obtain⟨G,i,d,a⟩:=h.mL hk hy;refine NG d c hs hi λσ' e g=>?_;obtain⟨e1,b⟩:=a σ' _ (Rx A c xs) e g;exact hR σ' e1 b
theorem TZ (h:HH U F L H)(hk:H.bY[k]?=some A)(hy:L.ys[k]?=some Y)(c:Int){sl:Sl}{xs:List Int}{X:Rg}(hs:cV sl 1 (Wu xs) U X)(hX:∀b,b<U.size->X b->¬F b)(hi:∀x∈xs,iN x)(hl:xs.length<=1000000)(hcap:sl.len<=sl.cap){R:aN}
 (hR:∀σ',Ext F U σ'->HH σ' (Grow F U) L (H.cE k (ZT A c xs))->R (Kr A c xs) σ'):Xb.c (aW Y.p) c sl U R:=by
 obtain⟨G,g,r,a⟩:=h.mL hk hy;refine MP r c hi hl hcap (.inl ⟨X,hs,λb j s i=>hX b j s (g b i)⟩) λσ' e u=>?_;have d:cM (ZT A c xs) Y=cM A Y:=(Ei A c xs).cM Y;obtain⟨e1,m⟩:=a σ' _ (Ei A c xs).1 e (by rw[d];exact u);exact hR σ' e1 m
theorem Wc9 (h:HH U F L H)(hk:H.bY[k]?=some A)(hy:L.ys[k]?=some Y)(x:Int)(hf:∀r∈A.runs,r.1<=1000000){R:aN}
 (hR:∀σ',Ext F U σ'->HH σ' (Grow F U) L (H.cE k (Q8 A x))->R (Vw A x) σ'):Xd.c (aW Y.p) x U R:=by
 obtain⟨G,j,g,a⟩:=h.mL hk hy;refine O9 g x hf λσ' e i=>?_;have b:cM (Q8 A x) Y=cM A Y:=(JQ A x).cM Y;obtain⟨e1,d⟩:=a σ' _ (JQ A x).1 e (by rw[b];exact i);exact hR σ' e1 d
theorem M7 (h:HH U F L H)(hk:H.bY[k]?=some A)(hy:L.ys[k]?=some Y)(c:Int){R:aN}
 (hR:∀σ',Ext F U σ'->HH σ' (Grow F U) L {H.cE k (cQ A H.sp c).1 with sp:=(cQ A H.sp c).2}->R (Vv A H.sp c) σ'):Yj.c (aW Y.p) c U R:=by
 obtain⟨Y',G,D,a,_,m,b⟩:=h.pV hk;rw[hy]at a;cases a;refine Pn m c λσ' G' D' g e j=>?_;have d:cM (cQ A H.sp c).1 Y=cM A Y:=(Jf A H.sp c).cM Y;obtain⟨e1,i⟩:=b σ' _ _ G' D' (Jf A H.sp c).1 e g (by rw[d];exact j);exact hR σ' e1 i
theorem NT (h:HH U F L H)(hk:H.bY[k]?=some A)(hy:L.ys[k]?=some Y)(m a:Int){R:Int->Int->Hp->Prop}
 (hR:∀σ',Ext F U σ'->HH σ' (Grow F U) L {H.cE k (cC A H.sp m a).1 with sp:=(cC A H.sp m a).2}->R ((Qy A H.sp m a:Nat):Int) (QZ A H.sp m a) σ'):Xa.c (aW Y.p) m a U R:=by
 obtain⟨Y',G,D,b,_,s,d⟩:=h.pV hk;rw[hy]at b;cases b;refine δ s m a λσ' G' D' i e r=>?_;have g:cM (cC A H.sp m a).1 Y=cM A Y:=(E7 A H.sp m a).cM Y;obtain⟨e1,j⟩:=d σ' _ _ G' D' (E7 A H.sp m a).1 e i (by rw[g];exact r);exact hR σ' e1 j
def Hw.dY (H:Hw)(t:Nat)(g:Th)(ls:List Li):Hw:={H with bR:=H.bR.set t {g with ls:=ls}}
theorem HH.k8 (h:HH U F L H)(hx:L.ts[t]?=some x)(hg:H.bR[t]?=some g):∃G:Rg,(∀b,G b->F b)/\eJ U G x.c H.tb H.cf.dD g.ls/\∀(σ':Hp) (ls:List Li) (Y':ib) (Q:Rg),Y'.p=x.c.p->Ext G U σ'->(∀b,Q b->U.size<=b)->eJ σ' (λb=>Grow G U b/\¬Q b) Y' H.tb H.cf.dD ls →
 Ext F U σ'/\HH σ' (λb=>Grow F U b/\¬Q b) {L with ts:=L.ts.set t {x with c:=Y'}} (H.dY t g ls):=by
 obtain⟨G,i,m,d⟩:=h.oM hx hg;refine⟨G,i,m,λσ' ls Y' Q j e w u=>?_⟩;obtain⟨e1,s⟩:=d σ' ls Y' _ j e (λb a=>a.1) u;refine⟨e1,s.mono (λb _ a=>?_) (h.oG.sub λb a=>a.1) λa=>h.sd a.1⟩;rcases a with a|a
 ·exact⟨.inl a.1,λr=>by have:=a.2.1;have:=w b r;omega⟩
 ·exact⟨a.1.imp (i b) id,a.2⟩
theorem HH.lf (h:HH U F L H)(hx:L.ts[t]?=some x)(hg:H.bR[t]?=some g):∃G:Rg,(∀b,G b->F b)/\eJ U G x.c H.tb H.cf.dD g.ls/\∀(σ':Hp) (ls:List Li) (Y':ib),Y'.p=x.c.p->Ext G U σ'->eJ σ' (Grow G U) Y' H.tb H.cf.dD ls →
 Ext F U σ'/\HH σ' (Grow F U) {L with ts:=L.ts.set t {x with c:=Y'}} (H.dY t g ls):=by
 obtain⟨G,j,m,a⟩:=h.k8 hx hg;refine⟨G,j,m,λσ' ls Y' i e s=>?_⟩;obtain⟨e1,r⟩:=a σ' ls Y' (λ_=>False) i e (λb d=>d.elim) (s.mono λb _ d=>⟨d,id⟩);exact⟨e1,r.mono (λb _ d=>d.1) h.oG h.sd⟩
theorem Ε (h:HH U F L H)(hx:L.ts[t]?=some x)(hg:H.bR[t]?=some g)(hc:H.tb[k]?=some c)(hl:g.ls[k]?=some l){R:Int->Int->Hp->Prop}
 (hR:∀σ' ts',Ext F U σ'->HH σ' (Grow F U) {L with ts:=ts'} (H.dY t g (g.ls.set k (KI c l).2))->R ((KI c l).1.getD 0) (if(KI c l).1.isSome then 0 else 4) σ'):Yr.c (aW x.c.p) (k:Int) U R:=by
 obtain⟨G,m,j,a⟩:=h.lf hx hg;refine lr j hc hl λσ' Y' e b i=>?_;obtain⟨e1,d⟩:=a σ' _ Y' b e i;exact hR σ' _ e1 d
theorem Rf (h:HH U F L H)(hx:L.ts[t]?=some x)(hg:H.bR[t]?=some g)(hc:H.tb[k]?=some c)(hl:g.ls[k]?=some l){R:Int->Int->Hp->Prop}
 (hR:∀σ' ts',Ext F U σ'->HH σ' (Grow F U) {L with ts:=ts'} H->R ((pf c l:Nat):Int) 0 σ'):Yt.c (aW x.c.p) (k:Int) U R:=by
 obtain⟨G,m,j,a⟩:=h.lf hx hg;refine RP j hc hl λσ' Y' e d i=>?_;obtain⟨e1,b⟩:=a σ' _ Y' d e i;have e2:H.dY t g g.ls=H:=by
  unfold Hw.dY;rw[QK hg]
 rw[e2]at b;exact hR σ' _ e1 b
theorem τ (h:HH U F L H)(hx:L.ts[t]?=some x)(hg:H.bR[t]?=some g)(hc:H.tb[k]?=some c)(hl:g.ls[k]?=some l){sl:Sl}{xs:List Int}{X:Rg}(hs:cV sl 1 (Wu xs) U X)(hX:∀q,X q->¬F q)(hfit:l.os.length+xs.length<=256){R:aN}
 (hR:∀σ' ts',Ext F U σ'->HH σ' (Grow F U) {L with ts:=ts'} (H.dY t g (g.ls.set k (eL xs.reverse l)))->R 0 σ'):Yk.c (aW x.c.p) (k:Int) sl U R:=by
 obtain⟨G,d,r,a⟩:=h.lf hx hg;refine SG r hc hl hs (λq i hg=>hX q i (d q hg)) hfit λσ' Y' e b m=>?_;obtain⟨e1,j⟩:=a σ' _ Y' b e m;exact hR σ' _ e1 j
theorem NP (h:HH U F L H)(hx:L.ts[t]?=some x)(hg:H.bR[t]?=some g)(hc:H.tb[k]?=some c)(hl:g.ls[k]?=some l)(y:Int){R:Sl->Int->Hp->Prop}
 (hR:∀σ' ts' s e (Q:Rg),Ext F U σ'->(∀q,Q q->U.size<=q)->bS s 1 (Wu (dM c y l).1) σ' Q->HH σ' (λb=>Grow F U b/\¬Q b) {L with ts:=ts'} (H.dY t g (g.ls.set k (dM c y l).2))->R s e σ'):YR.c (aW x.c.p) (k:Int) y U R:=by
 obtain⟨G,z,w,a⟩:=h.k8 hx hg;refine Nd w hc hl y λσ' Y' s j Q e i _ d m u=>?_;obtain⟨e1,r⟩:=a σ' _ Y' Q i e d u;exact hR σ' _ s j Q e1 d m r
theorem Te (h:HH U F L H)(hx:L.ts[t]?=some x)(hg:H.bR[t]?=some g){R:aO}(hR:∀σ',aG U σ'->R (decide (H.cf.dD<Ky H.tb g.ls)) σ'):Ys.c (aW x.c.p) U R:=by
 obtain⟨G,d,b,a⟩:=h.lf hx hg;exact Re b hR
theorem Ol (hso:G9)(h:HH U F L H)(hx:L.ts[t]?=some x)(hg:H.bR[t]?=some g){R:Sl->Hp->Prop}
 (hR:∀σ' s (Q:Rg),Ext F U σ'->(∀q,Q q->U.size<=q)->iF s (KH Z4 H.tb g.ls) σ' Q->HH σ' (λb=>Grow F U b/\¬Q b) L (H.dY t g (KC Z4 H.tb g.ls))->R s σ'):XX.c (aW x.c.p) U R:=by
 obtain⟨G,u,r,a⟩:=h.k8 hx hg;refine NW hso r λσ' s Q e i m j=>?_;obtain⟨e1,d⟩:=a σ' _ x.c Q rfl e i m;rw[show L.ts.set t {x with c:=x.c}=L.ts from QK hx]at d;exact hR σ' s Q e1 i j d
theorem Rc (hso:G9)(h:HH U F L H)(hx:L.ts[t]?=some x)(hg:H.bR[t]?=some g){R:Sl->Hp->Prop}
 (hR:∀σ' s (Q:Rg),Ext F U σ'->(∀q,Q q->U.size<=q)->iF s (KH Vp H.tb g.ls) σ' Q->HH σ' (λb=>Grow F U b/\¬Q b) L (H.dY t g (KC Vp H.tb g.ls))->R s σ'):Xn.c (aW x.c.p) U R:=by
 obtain⟨G,u,r,a⟩:=h.k8 hx hg;refine OO hso r λσ' s Q e i m j=>?_;obtain⟨e1,d⟩:=a σ' _ x.c Q rfl e i m;rw[show L.ts.set t {x with c:=x.c}=L.ts from QK hx]at d;exact hR σ' s Q e1 i j d
def ni (S:aP)(L:dE)(tb:List cA):Prop:=∀m,S m->∃(P:Rg) (ts:List eR) (H:Hw),HH m P {L with ts:=ts} H/\H.tb=tb
theorem ni.dF {S:aP}{tb:List cA}(hS:ni S L tb){K:Sl->Prop}(hK:K L.dF):gK S .s (Addr.add ⟨L.p,0,none⟩ 0) K:=⟨L.dF,λm a=>by obtain⟨_,_,_,h,_⟩:=hS m a;rw[add_lit,h.hd.cell];rfl,hK⟩
theorem ni.fT {S:aP}{tb:List cA}(hS:ni S L tb){K:Sl->Prop}(hK:K L.fT):gK S .s (Addr.add ⟨L.p,0,none⟩ 7) K:=⟨L.fT,λm a=>by obtain⟨_,_,_,h,_⟩:=hS m a;rw[add_lit,h.hd.cell];rfl,hK⟩
theorem ni.rA {S:aP}{tb:List cA}(hS:ni S L tb)(h:HH U F L H)(hy:L.ys[k]?=some Y){K:Option Addr->Prop}(hK:K (some ⟨Y.p,0,none⟩)):Ix L.fT.a L.fT.len (k:Int) 1 λa=>gK S .p a K:=by
 have j:(fR (L.ys.map (·.p)))[k]?=some (.pointer (some ⟨Y.p,0,none⟩)):=by simp[fR,hy]
 obtain⟨b,o,r,_⟩:=h.nk.cell j;have y:=(cY.1 hy).1;have u:=h.m7;have:=h.s.ys;rw[r];refine ix O O ⟨_,λm w=>?_,hK⟩;obtain⟨_,_,_,g,_⟩:=hS m w;obtain⟨x,z,d,i⟩:=g.nk.cell j;rw[r]at d;cases d;rw[add_lit,show o+(k:Int).toNat*1=o+k by omega];exact i
theorem ni.rC {S:aP}(hS:ni S L H.tb)(h:HH U F L H)(hc:H.tb[k]?=some c){K:Int->Prop}(hK:K (c.size:Int)):Ix L.dF.a L.dF.len (k:Int) 3 λa=>gK S bO (a.add 0) K:=by
 have g:(gJ H.tb)[3*k+0]?=some (.int .i64 (c.size:Int)):=(yC hc).1;obtain⟨b,o,s,_⟩:=h.jP.cell g;have y:=(cY.1 hc).1;have u:=h.pH;rw[s];refine ix O O ⟨_,λm w=>?_,hK⟩;obtain⟨_,_,_,j,p⟩:=hS m w;rw[←p]at g;obtain⟨x,z,d,r⟩:=j.jP.cell g;have d:L.dF.a=_:=d;rw[s]at d;cases d;rw[add_lit,add_lit,show o+(k:Int).toNat*3+0=o+(3*k+0) by omega];exact r
end Go.Ar
namespace Go.Ar
open Go Go.Vc Go.Proofs
variable {U u u':Hp}{F B P Q:Rg}{L:dE}{H H':Hw}{t k n pb:Nat}{A:AR}{Y:Lay}{x:eR}{g:Th}{c:cA}{l:Li}{cs:List Value}{parts:List (List Int)}{xs:List Int}
theorem HK.Bw (K:HK F U B u P L H)(e:Ext B u u'){B':Rg}(hB:∀b,B' b->B b\/u.size<=b/\b<u'.size):HK F U B' u' P L H:=by
 have r:=e.1;have j:=K.e.1;have i:jf B/\¬B 1:=⟨K.o.1.sub λb g=>(K.b b g).1,λg=>K.o.2 (K.b _ g).1⟩;refine⟨K.h.bT e (λb _ a d=>(K.p b a).2.1 d) i.1 i.2,K.e.dW e λb m=>.inr (K.b b m).1,λb a=>⟨(K.p b a).1,λg=>?_,by have:=(K.p b a).2.2;omega⟩,λb a=>?_,K.o⟩
 ·rcases hB b g with d|d
  ·exact(K.p b a).2.1 d
  ·have:=(K.p b a).2.2;omega
 ·rcases hB b a with d|d
  ·have:=K.b b d;omega
  ·omega
def sV (s:Sl):Value:=.slice s.a s.len s.cap
def mV (pb:Nat)(parts:List (List Int)):Hp->Rg->Prop:=λu Q=>∃(ps:List Sl) (Qs:Nat->Rg),ps.length=parts.length/\Q pb/\bZ u pb (ps.map sV)/\(∀j b,Qs j b->Q b/\b≠pb)/\(∀j j' b,Qs j b->Qs j' b->j=j') ∧
 ∀j s xs,ps[j]?=some s->parts[j]?=some xs->dL s 1 (Wu xs) u (Qs j)
theorem mV.loc (pb:Nat)(parts:List (List Int)):dN (mV pb parts):=by
 rintro U H F G ⟨A,Qs,x,u,r,i,w,B⟩ z g;have p:=g pb r.lt u;obtain⟨e,D⟩:=r;refine⟨A,λj b=>Qs j b/\b<U.size,x,p.1,⟨e,p.2.trans D⟩,λj b d=>⟨(g b d.2 (i j b d.1).1).1,(i j b d.1).2⟩,λj y b a C=>w j y b a.1 C.1,λj s E a b=>(dL.loc _ _ _) _ _ _ _ (B j s E a b) z λb d m=>⟨⟨m,d⟩,(g b d (i j b m).1).2⟩⟩
theorem mV.add (h:mV pb parts u Q){a m e1 e2:Nat}(hm:m=parts.length)(ha:parts[a]?=some xs)(y:Int)(hl:xs.length<=1000000){K:aP}(hK:∀u',Ext Q u u'->mV pb (parts.set a (xs++[y])) u' (Grow Q u)->K u') :
 Ix (some ⟨pb,0,none⟩) m (a:Int) 1 λa1=>jJ a1 u λt35=>Nw (.cells #[.int .i64 y] e1 (0,0)) u λn37 v4=>App t35 1 8 e2 [.int .i64 0] ⟨some n37,1,1⟩ v4 λt38 v5=>Ix (some ⟨pb,0,none⟩) m (a:Int) 1 λa39=>dZ a39 (.slice t38.a t38.len t38.cap) v5 λv6=>K v6:=by
 obtain⟨B,Qs,V,P,L,A,S,R⟩:=h;have M:=(cY.1 ha).1;have r:B[a]?=some (B[a]' O):=cX _;generalize (B[a]' O)=s at r;have i:=R a s xs r ha;have U:s.len=xs.length:=by have:=i.1;simp[Wu]at this;omega
 refine ix O O ?_;rw[add_lit,show 0+(a:Int).toNat*1=a by omega];refine L.wq (a:=s.a) (n:=s.len) (c:=s.cap) (by simp[r,sV]) ?_;refine nw (cs:=[.int .i64 y]) λv4 hz e d=>?_;have z:=(dL.loc _ _ _).bP ((dL.loc _ _ _).cut i) e;have J:=e.bV L id;refine z.app (x:=⟨some ⟨u.size,0,none⟩,1,1⟩) (ys:=[.int .i64 y]) rfl rfl ?_ (by simp[dU]) ?_ ?_ nu λX v5 Z C G=>?_
 ·intro j w hw;rw[add_lit,zH,d.cell];exact hw
 ·simp only;omega
 ·simp only;omega
 have aa:=C.1;have F:bZ v5 pb (B.map sV):=C.bV J λp=>(A a pb p.1).2 rfl;refine ix O O ?_;rw[add_lit,show 0+(a:Int).toNat*1=a by omega];refine F.s0 aE λu' N g=>?_;have hz6:=N.1;have H:Ext (· = pb) v5 u':=N.ext;have Y:Ext Q u u':=((aG.to e).trans (C.sub λb d=>(A a b d.1).1)).trans (H.sub λb d=>by rw[d];exact P);have W:=L.lt;refine hK u' Y ⟨B.set a X,λj b=>Qs j b/\b<u.size\/j=a/\v4.size<=b/\b<v5.size,by simp[V],.inl P,?_,λj b d=>?_,λj j' b d g=>?_,λj s2 ys E D=>?_⟩
 ·rw[vv];exact g
 ·rcases d with d|d
  ·exact⟨.inl (A j b d.1).1,(A j b d.1).2⟩
  ·exact⟨.inr O,O⟩
 ·rcases d with d|d<;>rcases g with g|g
  ·exact S j j' b d.1 g.1
  ·omega
  ·omega
  ·omega
 ·by_cases hja:j=a
  ·subst hja;rw[zO O]at E;rw[zO M]at D;cases E;cases D;have:=(dL.loc _ _ _).bT ((dL.loc _ _ _).cut G) H λb _ d p=>by
    rcases d.1 with h7|h7
    ·exact(A j b h7.1).2 p
    ·omega
   have e7:Wu (xs++[y])=Wu xs++[.int .i64 y]:=by simp[Wu]
   rw[e7];refine(dL.loc _ _ _).mono this λb _ d=>?_;rcases d.1 with h7|h7
   ·exact .inl h7
   ·exact .inr ⟨rfl,h7,d.2⟩
  ·rw[zh (Ne.symm hja)]at E D;have:=(dL.loc _ _ _).cut (R j s2 ys E D);have:=(dL.loc _ _ _).bT ((dL.loc _ _ _).bT ((dL.loc _ _ _).bP this e) C λb _ d p=>hja (S j a b d.1 p.1)) H λb _ d p=>(A j b d.1).2 p;exact(dL.loc _ _ _).mono this λb _ d=>.inl d
theorem mV.get (h:mV pb parts u Q){a m:Nat}(hm:m=parts.length)(ha:parts[a]?=some xs){K:Sl->Prop}(hK:∀s,dL s 1 (Wu xs) u Q->s.len=xs.length->K s):Ix (some ⟨pb,0,none⟩) m (a:Int) 1 λa1=>jJ a1 u K:=by
 obtain⟨i,Qs,A,y,p,j,z,x⟩:=h;have r:=(cY.1 ha).1;have g:i[a]?=some (i[a]' O):=cX _;generalize (i[a]' O)=s at g;have d:=x a s xs g ha;refine ix O O ?_;rw[add_lit,show 0+(a:Int).toNat*1=a by omega];refine p.wq (a:=s.a) (n:=s.len) (c:=s.cap) (by simp[g,sV]) (hK s ((dL.loc _ _ _).mono d λb _ w=>(j a b w).1) ?_);have:=d.1;simp[Wu]at this;omega
theorem DS {bY:List AR}{x:Int}(h:0<=Yd bY x):(Yd bY x).toNat<bY.length/\Yd bY x=((Yd bY x).toNat:Int):=by
 refine⟨?_,O⟩;unfold Yd at *;split at h
 ·omega
 ·rename_i hx;rw[zB hx];split at h
  ·rename_i i hi;have:=(List.findIdx?_eq_some_iff_findIdx_eq.1 hi).1;simp only[dH];exact this
  ·omega
theorem Mh {bY:List AR}{x:Int}{xs:List Int}(h:0<=Yd bY x):((List.range bY.length).map (Z3 bY xs)).set (Yd bY x).toNat (Z3 bY xs (Yd bY x).toNat++[x])=(List.range bY.length).map (Z3 bY (xs++[x])):=by
 have a:=DS h;apply zt;intro j;by_cases hj:j<bY.length
 ·by_cases e:(Yd bY x).toNat=j
  ·subst e;rw[zO (by simpa using hj)];simp only[za,nS hj,ze,Z3,wA]
   congr 2
   rw[vn (by rw[←a.2];simp)];rfl
  ·rw[zh e];simp only[za,nS hj,ze,Z3,wA];have:List.filter (λy=>Yd bY y==(j:Int)) [x]=[]:=by
    rw[vq (by simp only[zT];omega)];rfl
   rw[this,kD]
 ·rw[zX aE,zX aE]
theorem Kd {K:aO}{body:(Bool->Hp->Prop)->Prop}(P:aO)(h1:∀r w,P r w->K r w)(h2:∀J:Bool->Hp->Prop,(∀r w,P r w->J r w)->body J):bX K body:=bX.intro (h2 K h1)
theorem yo {K:eX [.b]}{body:eX [.b]->Prop}(P:aO)(h1:∀r w,P r w->K r w)(h2:∀J:eX [.b],(∀r w,P r w->J r w)->body J):Jn [.b] K body:=Jn.intro (h2 K h1)
theorem tU {K:eX []}{body:eX []->Prop}(P:aP)(h1:∀w,P w->K w)(h2:∀J:eX [],(∀w,P w->J w)->body J):Jn [] K body:=Jn.intro (h2 K h1)
theorem VF {H:Hw}{k:Nat}{part:Nat->List Int}(j:Nat):VN H k part (List.range (j+1))=(match (VN H k part (List.range j)).bY[j]? with
 | some A=>if part j=[]then VN H k part (List.range j)else(VN H k part (List.range j)).cE j (ZT A (k:Int) (part j))
 | none=>VN H k part (List.range j)):=by
 unfold VN;rw[qF,vE];rfl
theorem Py {H:Hw}{k:Nat}{part:Nat->List Int}(j:Nat):(VN H k part (List.range j)).bY.length=H.bY.length:=by
 induction j with
 | zero=>rfl
 | succ j ih=>
  rw[VF];split
  ·split
   ·exact ih
   ·simp[Hw.cE,ih]
  ·exact ih
theorem Wgq {H:Hw}{k:Nat}{part:Nat->List Int}(j:Nat):(VN H k part (List.range j)).bR=H.bR:=by
 induction j with
 | zero=>rfl
 | succ j ih=>
  rw[VF];split
  ·split<;>exact ih
  ·exact ih
theorem Bc (H:Hw)(own k:Nat)(xs:List Int):(Gp H own k xs).bR=H.bR:=by
 unfold Gp;split
 ·split
  ·rfl
  ·rw[Wgq];split<;>rfl
 ·rfl
def D1 (F:Rg)(U:Hp)(L:dE)(H:Hw)(pb:Nat)(parts:List (List Int))(cs:List Value)(w:Hp):Prop:=∃Q P:Rg,HK F U (λb=>b=U.size\/Q b) w P L H/\mV pb parts w Q/\bZ w U.size cs/\∀b,Q b->b≠U.size
theorem Nb (h:HH U F L H){own:Nat}(ho:own<H.bY.length)(k:Nat){sl:Sl}{xs:List Int}{X:Rg}(hs:cV sl 1 (Wu xs) U X)(hX:∀b,b<U.size->X b->¬F b)(hcap:sl.len<=sl.cap)(hx:∀x∈xs,iN x/\0<=Yd H.bY x)(hl:xs.length<=1000000){R:aP}
 (hR:∀σ',Ext F U σ'->HH σ' (Grow F U) L (Gp H own k xs)->R σ'):ZF.c (aW L.p) (own:Int) (k:Int) sl U R:=by
 refine ZF.o ?_;unfold ZF.v;have hsl:sl.len=xs.length:=by have:=hs.1;simp[Wu]at this;omega
 have ha2:=h.s.a2;have hal:=h.m7;have hs1:∀u,Ext F U u->cV sl 1 (Wu xs) u (λb=>X b/\b<U.size):=λu eu=>aH.bT (aH.cut hs) eu λb _ hx hf=>hX b hx.2 hx.1 hf;refine nw (cs:=[.int .i64 (k:Int),.slice sl.a sl.len sl.cap]) λv hz e d=>?_;have K1:=(HK.start h).box e hz;refine bL (K1.h.hd.rS rfl ?_);simp only;refine mk (n:=L.fT.len) O O λv1 ad e1 hb1=>?_;have K2:=K1.box e1 ad;have hb2:=e1.bV d id;have W:mV v.size ((List.range H.bY.length).map (Z3 H.bY [])) v1 (λb=>b=v.size):=by
  refine⟨List.replicate H.bY.length ⟨none,0,0⟩,λ_ _=>False,by simp,rfl,?_,λj b d=>d.elim,λj j' b d=>d.elim,λj s ys g h2=>?_⟩
  ·have:(List.replicate L.fT.len [Value.slice none 0 0]).flatten=(List.replicate H.bY.length (⟨none,0,0⟩:Sl)).map sV:=by
    rw[hal];simp[sV]
   rw[←this];exact hb1
  ·simp only[za,od]at h2;obtain⟨a,_,rfl⟩:=h2;simp only[mH]at g;split at g
   ·cases g;exact dL.nil _ _ _ _
   ·cases g
 have hpl:∀ys:List Int,L.fT.len=((List.range H.bY.length).map (Z3 H.bY ys)).length:=λys=>by simp[hal]
 refine hb2.rS rfl ?_;refine Qp (a:=bO) (λ(z:Int) w=>∃i:Nat,z=(i:Int)/\i<=xs.length/\D1 F U L H v.size ((List.range H.bY.length).map (Z3 H.bY (xs.take i))) [.int .i64 (k:Int),.slice sl.a sl.len sl.cap] w) (λz _=>xs.length-z.toNat)
  ⟨0,rfl,O,λb=>b=v.size,_,⟨K2.h,K2.e,λb d=>⟨(K2.p b d).1,λhx=>(K2.p b d).2.1 (hx.imp .inr id),(K2.p b d).2.2⟩,λb d=>K2.b b (d.imp .inr id),K2.o⟩,W,hb2,λb d=>O⟩ ?_
 rintro z w ⟨i,rfl,hi,Q,P,K,W,C,hQ⟩;refine cP (λE=>?_) λhge=>?_
 ·simp only at E;have hi':i<xs.length:=by omega
  have aa:xs[i]?=some xs[i]:=cX hi';generalize xs[i]=y at aa;have hy:=hx y (zG aa);refine(hs1 w K.e).lV aa (BZ K.h y hy.1 λZ e1=>?_);have E:=DS hy.2;rw[E.2];have hP1:mV v.size _ Z (λb=>Q b/\b<w.size):=(mV.loc _ _).bP ((mV.loc _ _).cut W) e1;have hpart:((List.range H.bY.length).map (Z3 H.bY (xs.take i)))[(Yd H.bY y).toNat]?=some (Z3 H.bY (xs.take i) (Yd H.bY y).toNat):=by
   simp only[za,nS E.1,ze]
  have hpl1:(Z3 H.bY (xs.take i) (Yd H.bY y).toNat).length<=1000000:=by
   have:=pN (λx=>Yd H.bY x==(((Yd H.bY y).toNat:Nat):Int)) (xs.take i);simp only[Z3];rw[zY]at this;omega
  refine hP1.add (hpl _) hpart y hpl1 λw2 e2 hP2=>?_;rw[Mh hy.2]at hP2;have ht:xs.take i++[y]=xs.take (i+1):=by rw[kz,aa];rfl
  rw[ht]at hP2;have ad:=e1.1;have hz2:=e2.1;refine cT (m:=i+1) O O ⟨⟨i+1,rfl,O,λb=>(Q b/\b<w.size)\/Z.size<=b/\b<w2.size,P,(K.fr e1).Bw (e2.sub λb d=>.inr d.1) λb d=>?_,(mV.loc _ _).mono hP2 λb d S=>?_,?_,λb d=>?_⟩,O⟩
  ·rcases d with d|d|d
   ·exact .inl (.inl d)
   ·exact .inl (.inr d.1)
   ·exact .inr d
  ·rcases S with S|S
   ·exact .inl S
   ·exact .inr ⟨S,d⟩
  ·exact e2.bV (e1.bV C id) λhx=>hQ _ hx.1 rfl
  ·have:=(K.b U.size (.inl rfl)).2;rcases d with d|d
   ·exact hQ b d.1
   ·omega
 ·have hii:i=xs.length:=by simp only at hge;omega
  subst hii;rw[lW]at W;obtain⟨A,hA⟩:∃A,H.bY[own]?=some A:=⟨_,cX ho⟩;obtain⟨Y,hY,_,_⟩:=h.ar hA;have G:Gp H own k xs=(if(Z3 H.bY xs own).length=xs.length/\VB A (k:Int) xs=true then H.cE own (KB A (k:Int) xs)
   else VN (if(Z3 H.bY xs own).length=xs.length then H.cE own (KB A (k:Int) xs)else H) k (Z3 H.bY xs) (List.range H.bY.length)):=by
   unfold Gp;rw[hA]
  have hown:((List.range H.bY.length).map (Z3 H.bY xs))[own]?=some (Z3 H.bY xs own):=by
   simp only[za,nS ho,ze]
  refine tU (λw=>¬((Z3 H.bY xs own).length=xs.length/\VB A (k:Int) xs=true)/\D1 F U L (if(Z3 H.bY xs own).length=xs.length then H.cE own (KB A (k:Int) xs)else H) v.size ((List.range H.bY.length).map (Z3 H.bY xs)) [.int .i64 (k:Int),.slice sl.a sl.len sl.cap] w) (λw hw=>?_) λJ hJ=>?_
  ·obtain⟨hno,hw⟩:=hw;rw[zB hno]at G;generalize hH1:(if(Z3 H.bY xs own).length=xs.length then H.cE own (KB A (k:Int) xs)else H)=H1 at hw G
   have hH1l:H1.bY.length=H.bY.length:=by
    rw[←hH1];split
    ·simp[Hw.cE]
    ·rfl
   refine Qp (a:=bO) (λ(z:Int) w=>∃j:Nat,z=(j:Int)/\j<=H.bY.length/\D1 F U L (VN H1 k (Z3 H.bY xs) (List.range j)) v.size ((List.range H.bY.length).map (Z3 H.bY xs)) [.int .i64 (k:Int),.slice sl.a sl.len sl.cap] w) (λz _=>H.bY.length-z.toNat) ⟨0,rfl,O,hw⟩ ?_;rintro z w ⟨j,rfl,hj,Q,P,K,W,C,hQ⟩;refine cP (λE=>?_) λhge=>?_
   ·simp only at E;have hj':j<H.bY.length:=by omega
    have hpj:((List.range H.bY.length).map (Z3 H.bY xs))[j]?=some (Z3 H.bY xs j):=by
     simp only[za,nS hj',ze]
    refine W.get (hpl _) hpj λs N M=>?_;have hfl:=Py (H:=H1) (k:=k) (part:=Z3 H.bY xs) j;obtain⟨B,hB⟩:∃B,(VN H1 k (Z3 H.bY xs) (List.range j)).bY[j]?=some B:=⟨_,cX O⟩;have D:=VF (H:=H1) (k:=k) (part:=Z3 H.bY xs) j;rw[hB]at D;simp only at D;refine cP (λhpos=>?_) λhz0=>?_
    ·have V:Z3 H.bY xs j≠[]:=λe=>by rw[e]at M;simp at M;omega
     rw[zB V]at D;obtain⟨Y,hY,_,_⟩:=K.h.ar hB;refine bL (K.h.hd.rS rfl (K.h.rA hY (C.rI rfl ?_)));refine TZ K.h hB hY (k:Int) (dL.fW N) (λb _ S hp=>(K.p b hp).2.1 (.inr S)) (λx hx'=>(hx x (zL.1 hx').1).1) ?_ (dL.cap N) λZ e1 g=>?_
     ·have:=pN (λx=>Yd H.bY x==(j:Int)) xs;simp only[Z3];omega
     ·have ad:=e1.1;rw[←D]at g;refine cT (m:=j+1) O O ⟨⟨j+1,rfl,O,Q,_,K.to e1 g λb _ d=>d,(mV.loc _ _).bT W e1 λb _ S hp=>(K.p b hp).2.1 (.inr S),K.cZ e1 C (.inl rfl),hQ⟩,O⟩
    ·have V:Z3 H.bY xs j=[]:=uP O;rw[zC V]at D;refine cT (m:=j+1) O O ⟨⟨j+1,rfl,O,Q,P,by rw[D];exact K,W,C,hQ⟩,O⟩
   ·have hjj:j=H.bY.length:=by simp only at hge;omega
    subst hjj;rw[G]at hR;exact hR w K.e (K.fin h)
  ·refine W.get (hpl _) hown λs N M=>C.rS rfl ?_;refine cN (λheq=>?_) λV=>?_
   ·have ab:(Z3 H.bY xs own).length=xs.length:=by simp only[zT]at heq;omega
    rw[zC ab]at G hJ;have hS:ni (λu=>(∃P' H',HH u P' L H'/\H'.tb=H.tb)/\bZ u U.size [.int .i64 (k:Int),.slice sl.a sl.len sl.cap]) L H.tb:=λm hm=>by
     obtain⟨⟨P',H',g,h2⟩,_⟩:=hm;exact⟨P',L.ts,H',g,h2⟩
    refine⟨λu=>(∃P' H',HH u P' L H'/\H'.tb=H.tb)/\bZ u U.size [.int .i64 (k:Int),.slice sl.a sl.len sl.cap],⟨⟨_,_,K.h,rfl⟩,C⟩,bL (hS.fT (hS.rA K.h hY ?_))⟩;refine⟨(k:Int),λm hm=>by rw[add_lit,hm.2.cell];rfl,⟨sl,λm hm=>by rw[add_lit,hm.2.cell];rfl,?_⟩⟩;refine Ts K.h hA hY (k:Int) (hs1 w K.e) (λx hx'=>(hx x hx').1) λZ e1 g=>?_;have K1:=K.to e1 g λb _ d=>d;refine⟨⟨⟨_,_,g,rfl⟩,K.cZ e1 C (.inl rfl)⟩,?_⟩;have fin:∀r,r=VB A (k:Int) xs->((r=true->R Z)/\(r=false->J Z)):=λr hr=>by
     refine⟨λhr1=>?_,λhr1=>hJ Z ⟨λhx=>Bool.noConfusion ((hr1.symm.trans hr).trans hx.2),Q,_,K1,(mV.loc _ _).bT W e1 λb _ S hp=>(K.p b hp).2.1 (.inr S),K.cZ e1 C (.inl rfl),hQ⟩⟩;rw[zC ⟨ab,by rw[←hr,hr1]⟩]at G;rw[G]at hR;exact hR Z K1.e (K1.fin h)
    refine Kd (λr w=>w=Z/\r=VB A (k:Int) xs) (λr w' ⟨hw,hr⟩=>?_) λJ3 hJ3=>?_
    ·subst hw;exact cN (λg=>(fin r hr).1 g) λg=>(fin r hr).2 g
    ·refine cN (λg=>hJ3 _ _ ⟨rfl,?_⟩) λg=>hJ3 _ _ ⟨rfl,g.symm⟩;have:H7 A (k:Int) xs=0:=by
      unfold VB at g;simp only[zF,zV]at g;exact g.1
     rw[this,g];rfl
   ·have ac:¬(Z3 H.bY xs own).length=xs.length:=by
     simp only[mP]at V;omega
    rw[zB ac]at hJ;exact hJ w ⟨λhx=>ac hx.1,Q,P,K,W,C,hQ⟩
theorem gP {w:Hp}(K:HK F U B w P L H)(hB:B n){p q:Int}(hb:bZ w n [.int .i64 p,.int .i64 q]){x y:Int}{K':Int->Int->Hp->Prop}(hK:∀w',HK F U B w' P L H->K' x y w') :
 dZ (Addr.add ⟨n,0,none⟩ 0) (.int .i64 x) w λv3=>dZ (Addr.add ⟨n,0,none⟩ 1) (.int .i64 y) v3 λv4=>gN .i64 (Addr.add ⟨n,0,none⟩ 0) v4 λres=>gN .i64 (Addr.add ⟨n,0,none⟩ 1) v4 λpz=>K' res pz v4:=
 hb.s1 aA λv3 o3 a=>a.s1 aA λv4 o4 b4=>b4.rI rfl (b4.rI rfl (hK v4 ((K.own o3 hB).own o4 hB)))
theorem NR (h:HH U F L H)(ht:t<H.bR.length)(x:Int)(hx:iN x)(hr:bU H.live x=none->∀A∈H.bY,iQ A)(hlen:∀g,H.bR[t]?=some g->g.bQ.length<=1000)(h0:∀b,bU H.live x=some b->0<=x){R:Value->Int->Int->Hp->Prop}
 (hR:∀σ' ts',Ext F U σ'->HH σ' (Grow F U) {L with ts:=ts'} (Ho H t x).1->R (nh (Ho H t x).2.1) (Ho H t x).2.2.1 (Ho H t x).2.2.2 σ'):ZL.c (aW L.p) (t:Int) x U R:=by
 refine ZL.o ?_;unfold ZL.v;refine nw (cs:=[.int .i64 0,.int .i64 0]) λv hz e hb=>?_;have K1:=(HK.start h).box e hz;refine bL (K1.h.hd.rM rfl ⟨_,K1.h.nf,?_⟩);refine nw (cs:=[.int .i64 0,.int .i64 0,.int .i64 0,.int .i64 0]) λv1 hz1 e1 hb1=>?_;have K2:=K1.box e1 hz1;have hbv:=e1.bV hb id;have m:U.size≠v.size:=by omega
 refine hb1.s1 aA λv2 o2 b2=>b2.s1 aA λv3 o3 b3=>b3.s1 aA λv4 o4 b4=>b4.s1 aA λv5 o5 b5=>?_;have K5:=(((K2.own o2 (.inr rfl)).own o3 (.inr rfl)).own o4 (.inr rfl)).own o5 (.inr rfl);have G:=WE o5 (WE o4 (WE o3 (WE o2 hbv m) m) m) m;have hL:L = {L with ts:=L.ts}:=rfl;cases hm:bU H.live x with
 | none=>
  have hno:Ho H t x=(H,none,0,l0 H x):=by unfold Ho;rw[hm]
  rw[hno]at hR;simp only at hR;refine cF rfl ?_;refine tU (λw=>l0 H x=8/\aG v5 w) (λw ⟨h8,ew⟩=>?_) λJ X=>?_
  ·rw[h8]at hR;exact gP (n:=U.size) (K5.fr ew) (.inl (.inr rfl)) (ew.bV G id) λD K'=>hR D L.ts K'.e (K'.fin h)
  ·refine BZ K5.h x hx λv9 Z=>?_;have K9:=K5.fr Z;have hb9:=Z.bV G id;refine cP (λab=>?_) λhlt=>X v9 ⟨zB O,Z⟩;have P:=DS ab;obtain⟨A,hA⟩:∃A,H.bY[(Yd H.bY x).toNat]?=some A:=⟨_,cX P.1⟩;obtain⟨Y,hY,_,hAY⟩:=K9.h.ar hA;have a:l0 H x=(match Hu A x with
    | some (k,y)=>if 0<=k/\(y:Int)=x then(9:Int)else 8
    | none=>8):=by unfold l0;rw[zC ab,hA];rfl
   rw[P.2];refine bL (K9.h.hd.rS rfl (K9.h.rA hY ?_));refine ML hAY (hr hm A (zG hA)) x hx (λC k y i hf=>?_) λC i hf=>?_
   ·rw[hf]at a;simp only at a;rw[a]at hR X;have K10:=K9.fr i;have aa:=i.bV hb9 id;refine Kd (λr w=>w=C/\r=decide (0<=k)) (λr w ⟨S,d⟩=>?_) λJ1 E=>?_
    ·subst S;subst d;refine Kd (λr w2=>w2=w/\r=decide (0<=k/\(y:Int)=x)) (λr w2 ⟨S,d⟩=>?_) λJ2 K=>?_
     ·subst d;rw[S];refine cP (λz=>?_) λz=>?_
      ·rw[zC z]at hR;exact gP (n:=U.size) K10 (.inl (.inr rfl)) aa λD K'=>hR D L.ts K'.e (K'.fin h)
      ·exact X w ⟨zB z,Z.trans i⟩
     ·refine cP (λz=>K _ _ ⟨rfl,?_⟩) λz=>K _ _ ⟨rfl,?_⟩
      ·by_cases hyx:(y:Int)=x
       ·rw[zI (⟨z,hyx⟩:0<=k/\(y:Int)=x),zT.2 hyx]
       ·rw[zJ (λhx=>hyx hx.2),mP.2 hyx]
      ·rw[zJ (λhx=>z hx.1)]
    ·exact cF rfl (E _ _ ⟨rfl,rfl⟩)
   ·rw[hf]at a;simp only at a;rw[a]at X;refine Kd (λr w=>w=C/\r=false) (λr w ⟨S,d⟩=>?_) λJ1 E=>cD rfl (E _ _ ⟨rfl,rfl⟩);subst S;subst d;exact bX.intro (cD rfl (cD rfl (X w ⟨rfl,Z.trans i⟩)))
 | some b=>
  have hb0:=h0 b hm;have hfd:Ho H t x=(if b.2.2.1<0 then({H with live:=cO H.live x},some (.dG (x/256) b.2.2.2),0,0)
   else(Ki {H with live:=cO H.live x} t b.2.2.1.toNat [x],some (.put b.2.2.1.toNat x),0,0)):=by unfold Ho;rw[hm]
  rw[hfd]at hR;have hgb:(bU H.live x).getD ((0,0,0,0):Bk)=b:=by rw[hm];rfl
  rw[hgb]at b5;refine cD rfl ?_;refine bL (K5.h.hd.rM rfl ?_);obtain⟨hF,M⟩:=K5.h.sM;refine⟨_,K5.h.nf,λv6 o6 _ hm6=>?_⟩;obtain⟨e6,h6⟩:=M v6 _ (o6 _ rfl) hm6;have K6:=K5.to e6 h6 λb _ hb=>.inl hb;have ac:=K5.cZ e6 G (.inl (.inr rfl));have s:=K5.cZ e6 b5 (.inr rfl);refine s.rI rfl (cP (λW=>?_) λhnn=>?_)
  ·have B:b.2.2.1<0:=W;rw[zC B]at hR;refine nz aB (ar (by rw[YO O];omega) (by rw[YO O];unfold iN at hx;omega) (s.rI rfl ?_));rw[YO O];exact gP (n:=U.size) K6 (.inl (.inr rfl)) ac λD K'=>hR D L.ts K'.e (K'.fin h)
  ·have N:¬b.2.2.1<0:=hnn;rw[zB N]at hR;refine s.rI rfl (nw (cs:=[.int .i64 x]) λv7 hz7 e7 hb7=>?_);have K7:=K6.box e7 hz7;have Q:=e7.bV ac id;have hc7:=e7.bV s id;have V:b.2.2.1=((b.2.2.1.toNat:Nat):Int):=by omega
   have hs7:cV ⟨some ⟨v6.size,0,none⟩,1,1⟩ 1 (Wu [x]) v7 (· = v6.size):=hb7.fW (o:=0) rfl rfl λj hj=>by rw[zH];rfl
   have hz6:=K6.e.1;rw[V];refine yA K7.h (t:=t) ht b.2.2.1.toNat hs7 (zD _) aA (λq _ u hp=>(K7.p q hp).2.1 (.inr u)) (K7.o.1.sub λq u=>O) (λu=>K7.o.2 O) hlen λv8 ts8 e8 h8=>?_;have K8:=(K6.fr e7).uq e8 h8 λq hql u=>by
    rcases u with u|u
    ·exact u.imp id .inl
    ·refine .inr (.inr ⟨.inr O,λhB=>?_⟩);have:=(K6.b q hB).2;omega
   have hb8:=K7.cZ e8 Q (.inl (.inl (.inr rfl)));have hc8:=K7.cZ e8 hc7 (.inl (.inr rfl));refine hc8.rI (x:=((b.2.2.1.toNat:Nat):Int)) (by rw[←V];rfl) ?_;exact gP (n:=U.size) K8 (.inl (.inr rfl)) hb8 λD K'=>hR D ts8 K'.e (K'.fin h)
end Go.Ar
namespace Go.Ar
open Go Go.Vc Go.Proofs
variable {U u u':Hp}{F B P Q:Rg}{L:dE}{H H':Hw}{t k n pb:Nat}{A:AR}{Y:Lay}{x:eR}{g:Th}{c:cA}{l:Li}{cs:List Value}
theorem sE {t' t:TypeId}{w:Value}{A B:Prop}(hne:t'≠t)(h:B):∃is:Bool,kj (.iface t' w) t [] [] is/\If is A B:=⟨false,⟨rfl,.inr ⟨_,_,rfl,hne⟩⟩,cD rfl h⟩
theorem lD {t' t:TypeId}{w:Value}{A B:Int->Prop}(hne:t'≠t)(h:B 0):∃x:Int,∃is:Bool,kj (.iface t' w) t [.int .i64 x] [.int .i64 0] is/\If is (A x) (B x):=⟨0,false,⟨rfl,.inr ⟨_,_,rfl,hne⟩⟩,cD rfl h⟩
theorem jn {t' t:TypeId}{w:Value}{A B:Int->Int->Prop}(hne:t'≠t)(h:B 0 0):∃x:Int,∃y:Int,∃is:Bool,kj (.iface t' w) t [.int .i64 x,.int .i64 y] [.int .i64 0,.int .i64 0] is/\If is (A x y) (B x y):=⟨0,0,false,⟨rfl,.inr ⟨_,_,rfl,hne⟩⟩,cD rfl h⟩
theorem BS {t:TypeId}{A B:Prop}(h:A):∃is:Bool,kj (.iface t (.agg #[])) t [] [] is/\If is A B:=⟨true,rfl,cF rfl h⟩
theorem Cq {t:TypeId}{a:Int}{A B:Int->Prop}(h:A a):∃x:Int,∃is:Bool,kj (.iface t (.agg #[.int .i64 a])) t [.int .i64 x] [.int .i64 0] is/\If is (A x) (B x):=⟨a,true,rfl,cF rfl h⟩
theorem wQ {t:TypeId}{a b:Int}{A B:Int->Int->Prop}(h:A a b):∃x:Int,∃y:Int,∃is:Bool,kj (.iface t (.agg #[.int .i64 a,.int .i64 b])) t [.int .i64 x,.int .i64 y] [.int .i64 0,.int .i64 0] is/\If is (A x y) (B x y):=⟨a,b,true,rfl,cF rfl h⟩
theorem HH.tc (h:HH u P L H)(hx:L.ts[t]?=some x)(hg:H.bR[t]?=some g){b o:Nat}(ha:L.cS.a=some ⟨b,o,none⟩){d:Nat}(hd:d<3){v:Value}(hv:(jC (x,g))[d]?=some v):cell u (Addr.add ⟨b,o+3*t,none⟩ d)=some v:=by
 obtain⟨p,m,i,j⟩:=yg h.nc hx hg hd hv;rw[ha]at i;cases i;rw[add_lit,show o+3*t+d=o+(3*t+d) by omega];exact j
theorem HH.xL (h:HH u P L H)(hP:∀b,P b->b<u.size)(hx:L.ts[t]?=some x)(hg:H.bR[t]?=some g)(N:Rg)(hN:∀b,b<u.size->P b->¬N b)(oN:jf N)(oN2:¬N 1) :
 ∃G D:Rg,(∀b,G b->P b)/\(∀b,D b->P b)/\(∀b,G b->¬D b)/\iF x.h g.bQ u G/\(∀u1,Ext G u u1->cV L.cS 3 (gW L.ts H.bR) u1 D) ∧
 ∀(u1:Hp) (s:Sl) (bs:List Bt) (G':Rg),Ext G u u1->(∀b,G' b->G b\/N b)->iF s bs u1 G'->∀{b o:Nat} (ha:L.cS.a=some ⟨b,o,none⟩) {K:aP},
  (∀u2,Ext D u1 u2->HH u2 (λb=>P b/\¬G b\/G' b/\b<u1.size) {L with ts:=L.ts.set t {x with h:=s}} {H with bR:=H.bR.set t {g with bQ:=bs}}->K u2) →
  dZ (Addr.add ⟨b,o+3*t,none⟩ 1) (.slice s.a s.len s.cap) u1 K:=by
 have W:=h.mc;have J:=GE h.s.ts;have S:=(cY.1 hg).1;obtain⟨G,D,A,y,hd,F,E,_,r⟩:=h.sT hx hg N hN oN oN2;have w:∀u1,Ext G u u1->bS L.cS 3 (gW L.ts H.bR) u1 D:=λu1 e=>aI.bT E e λb _ d hx=>hd b hx d;refine⟨G,D,A,y,hd,F,λu1 e=>bS.fW (w u1 e),λu1 s bs G' e i B b o ha K Q=>?_⟩;have M:o=0:=by
  rcases E.2 with⟨h0,_⟩|⟨U,_,_,ha',_⟩
  ·omega
  ·rw[ha]at ha';cases ha';rfl
 subst M;have m:∀b,G' b->¬D b:=λb d hx=>by
  rcases i b d with h1|h1
  ·exact hd b h1 hx
  ·exact hN b (hP b (y b hx)) (y b hx) h1
 refine(w u1 e).st (j:=3*t+1) O (λU p=>by rw[ha]at p;cases p;rw[add_lit];congr 1;omega) λu2 e2 C=>?_;have z:=(iF.loc _ _).bT ((iF.loc _ _).cut B) e2 λb _ d hx=>m b d.1 hx;obtain⟨V,R⟩:=r u2 s bs (Cut G' u1) D ((e.sub λb d=>.inl d).trans (e2.sub λb d=>.inr d)) (λb d=>(i b d.1).imp .inl id) (λb d=>.inl (.inr d)) (λb d=>m b d.1) z C;refine Q u2 e2 (R.mono (λb _ d=>?_) (λb (d:P b/\¬G b\/G' b/\b<u1.size)=>?_) λ(d:P _/\¬G _\/G' _/\_<u1.size)=>?_)
 ·rcases d with d|d|d
  ·exact .inl ⟨d.1,λhx=>d.2.2 (.inl hx)⟩
  ·exact .inr d
  ·exact .inl ⟨y b d,λhx=>hd b hx d⟩
 ·rcases d with d|d
  ·exact h.o b d.1
  ·exact(i b d.1).elim (λhx=>h.o b (A b hx)) (oN b)
 ·rcases d with d|d
  ·exact h.o2 d.1
  ·exact(i _ d.1).elim (λhx=>h.o2 (A _ hx)) oN2
theorem iF.m6 {s:Sl}{G:Rg}{xs:List Int}{r:List Bt}(h:iF s ((k,xs)::r) u G):∃(so:Sl) (ps:List (Nat×Sl)) (D:Rg),dL s 2 (fK ((k,so)::ps)) u (λb=>G b/\¬D b)/\cV so 1 (Wu xs) u (λb=>D b/\k5 so b)/\so.len<=so.cap/\kH ps r u (λb=>D b/\¬k5 so b)/\(∀b,D b->G b)/\u7 ps/\(∀x∈r,x.2≠[])/\xs≠[]:=by
 obtain⟨ps,D,d,m,F,N,j⟩:=h;cases ps with
 | nil=>have:=m.1;simp at this
 | cons p ps=>
  obtain⟨H,so⟩:=p;obtain⟨e1,z,y⟩:=m.2 0 (H,so) (k,xs) rfl rfl;simp only at e1 z y;subst e1;have g:=sR.1 N;refine⟨so,ps,D,d,z.mC,y,⟨by have:=m.1;simpa using this,λi p x A w=>?_⟩,F,g.2,λx w=>j x (mg _ w),j _ mD⟩;obtain⟨K,J,E⟩:=m.2 (i+1) p x (by simpa using A) (by simpa using w);refine⟨K,aH.mono J.mC λb _ B=>⟨B.1,?_⟩,E⟩;rintro⟨a,h1,h2⟩;obtain⟨C,M,L⟩:=B.2;exact g.1 p (zG A) a C h1 M (h2.trans L.symm)
theorem iF.ma {s:Sl}{G:Rg}{b:Bt}{r:List Bt}(h:iF s (b::r) u G):iF ⟨if s.cap=1 then s.a else s.a.map (·.add (1*2)),s.len-1,s.cap-1⟩ r u G:=by
 have w:=h.len;obtain⟨k,C⟩:=b;obtain⟨B,m,D,d,A,y,i,j,x,g,z⟩:=h.m6;exact⟨m,D,d.from (lo:=1) (by simp at w;omega),(kH.loc _ _).mono i λb _ p=>p.1,j,x,g⟩
theorem I0 {s so:Sl}{ps:List (Nat×Sl)}{G:Rg}(h:cV s 2 (fK ((k,so)::ps)) u G){K:Addr->Prop}(hK:∀a,cell u (Addr.add a 0)=some (.int .i64 (k:Int))->cell u (Addr.add a 1)=some (.slice so.a so.len so.cap)->K a):Ix s.a s.len 0 2 K:=by
 obtain⟨b,o,m,p⟩:=h.cell (j:=0) (v:=.int .i64 (k:Int)) rfl;obtain⟨r,w,d,g⟩:=h.cell (j:=1) (v:=.slice so.a so.len so.cap) rfl;have i:=h.1;rw[Vm]at i;simp only[zS]at i;rw[m]at d;cases d;rw[m];refine ix O O ?_;rw[add_lit];exact hK _ (by rw[add_lit];exact p) (by rw[add_lit];exact g)
theorem iF.app {s s2:Sl}{G Q:Rg}{bs bs2:List Bt}{e:Nat}(h:iF s bs u G)(h2:iF s2 bs2 u Q)(hd:∀b,G b->¬Q b)(hl:bs.length+bs2.length<=1000){K:Sl->Hp->Prop}
 (hK:∀s' u',Ext G u u'->iF s' (bs++bs2) u' (λb=>G b\/Q b\/u.size<=b)->K s' u'):App s 2 32 e [.int .i64 0,.slice none 0 0] s2 u K:=by
 have l1:=h.len;have l2:=h2.len;obtain⟨M,D,w,C,R,F,A⟩:=h;obtain⟨H,D2,z,m,r,P,y⟩:=h2;by_cases h0:s2.len=0
 ·have S:bs2=[]:=uP O;subst S;refine w.Dx h0 (by
   have:s.len*32<=1000*32:=mo (by simp at hl;omega) O;omega) (by simp at hl;omega) λY=>hK _ u (Ext.refl _ _) ?_
  rw[kD];exact⟨M,D,(dL.loc _ _ _).mono Y λb _ d=>⟨.inl d.1,d.2⟩,C,λb d=>.inl (R b d),F,A⟩
 ·have e1:(s.len+s2.len)*32<=1000*32:=mo O O;refine((dL.loc _ _ _).cut w).app (ys:=fK H) rfl (by rw[Vm];have:=m.1;omega) z.fW.rd HE O O O λs' u' _ J Y=>hK s' u' (J.sub λb d=>d.1.1) ?_;have hz:=J.1;have U:=C.1;refine⟨M++H,λb=>D b/\b<u.size\/D2 b/\b<u.size,?_,⟨by simp[C.1,m.1],λi p x B g=>?_⟩,λb d=>?_,qE.2 ⟨F,P,λp B q hq a a' L X e3=>?_⟩,λx g=>(zM.1 g).elim (A x) (y x)⟩
  ·rw[Ht];refine(dL.loc _ _ _).mono Y λb _ d=>?_;rcases d with d|d
   ·exact⟨.inl d.1.1,λg=>g.elim (λg=>d.1.2 g.1) λg=>hd b d.1.1 (r b g.1)⟩
   ·exact⟨.inr (.inr d),λg=>by rcases g with g|g<;>omega⟩
  ·rcases kg i M.length with hi|hi
   ·rw[zd hi]at B;rw[zd O]at g;obtain⟨W,V,N⟩:=C.2 i p x B g;exact⟨W,aH.mono (aH.bT (aH.cut V) J λb _ d g=>g.1.2 d.1) λb _ d=>.inl d,N⟩
   ·rw[zp hi]at B;rw[zp O,←U]at g;obtain⟨W,V,N⟩:=m.2 _ p x B g;exact⟨W,aH.mono (aH.bT (aH.cut V) J λb _ d g=>hd b g.1.1 (r b d.1)) λb _ d=>.inr d,N⟩
  ·rcases d with d|d
   ·exact .inl (R b d.1)
   ·exact .inr (.inl (r b d.1))
  ·obtain⟨i,hi⟩:=zP B;obtain⟨j,F⟩:=zP hq;have hil:=(cY.1 hi).1;have hjl:=(cY.1 F).1;have Z:bs[i]?=some (bs[i]' O):=cX _;have E:bs2[j]?=some (bs2[j]'(by have:=m.1;omega)):=cX _;have b1:=(C.2 i p _ hi Z).2.1.bV (by simpa[Wu]using A _ (zG Z)) ⟨a,L,rfl⟩;have b2:=(m.2 j q _ F E).2.1.bV (by simpa[Wu]using y _ (zG E)) ⟨a',X,rfl⟩;rw[e3]at b1;exact hd _ (R _ b1.1) (r _ b2.1)
theorem HK.yr (K:HK F U B u P L H){B':Rg}(h1:∀b,B' b->U.size<=b/\b<u.size/\¬P b):HK F U (λb=>B b\/B' b) u P L H:=
 ⟨K.h,K.e,λb a=>⟨(K.p b a).1,λg=>g.elim (K.p b a).2.1 λd=>(h1 b d).2.2 a,(K.p b a).2.2⟩,λb a=>a.elim (K.b b) λd=>⟨(h1 b d).1,(h1 b d).2.1⟩,K.o⟩
theorem ZQ (hg:H.bR[t]?=some g)(f:Th->Th):H.eC t f = {H with bR:=H.bR.set t (f g)}:=by
 unfold Hw.eC;rw[VA hg]
theorem GX (hg:H.bR[t]?=some g):H.jY t=g:=by unfold Hw.jY;rw[zQ,hg];rfl
theorem Uy (hc:H.tb[k]?=some c):H.cls k=c:=by unfold Hw.cls;rw[zQ,hc];rfl
theorem Ai (hl:g.ls[k]?=some l):g.li k=l:=by unfold Th.li;rw[zQ,hl];rfl
theorem DN (ha:H.bY[H.own t]?=some A):H.eM t=A:=by unfold Hw.eM;rw[zQ,ha];rfl
theorem kb (h:HS L H)(t:Nat):H.own t<H.bY.length:=vG _ (by have:=h.a1;omega)
theorem HH.Cw (h:HH u P L H)(hx:L.ts[t]?=some x)(hg:H.bR[t]?=some g):g.ls.length=H.tb.length:=by
 obtain⟨G,_,a,_⟩:=h.oM hx hg;exact a.len
theorem I7 (ha:H.bY[k]?=some A):H.cE k A=H:=by unfold Hw.cE;rw[QK ha]
theorem OJ (l:List Nat):ints l=Wu (l.map λ(x:Nat)=>(x:Int)):=by simp[ints,Wu]
theorem Cz (f:cA->Li->List Int×Li)(tb:List cA)(ls:List Li):(KH f tb ls).length<=tb.length:=by
 unfold KH;exact kr (List.length_filterMap_le _ _) aA
theorem HH.r6 (h:HH u P L H):H.tb.length<=40:=by
 obtain⟨x,g,a,b⟩:=h.th (t:=0) h.s.t1;obtain⟨G,_,d,_⟩:=h.oM a b;exact d.nW
theorem LB {s:Sl}{b o:Nat}(ha:s.a=some ⟨b,o,none⟩)(hl:0<s.len){K:Addr->Prop}(hK:K ⟨b,o+0,none⟩):Ix s.a s.len 0 1 K:=by
 rw[ha];exact ix (wY _) O (by rw[add_lit];exact hK)
theorem OE {s:Sl}{ps:List (Nat×Sl)}{G:Rg}(h:cV s 2 (fK ps) U G)(hl:s.len<=1000000){R:Sl->Hp->Prop}(hR:∀s' σ',s'.len=s.len->aG U σ'->bS s' 2 (fK ps) σ' (λb=>U.size<=b)->R s' σ'):Wz.c s U R:=by
 refine Wz.o ?_;unfold Wz.v;exact B2 h O rfl HE O hl hR
def vF (H:Hw)(t:Nat):Ph->Prop
 | .take k=>k<H.tb.length/\∀y l,KI (H.cls k) ((H.jY t).li k)=(some y,l)->iN y
 | .cI k _=>k<H.tb.length/\(Qz (H.eM t) (k:Int)=0->YM (H.eM t) (k:Int)≠[])
 | .cL _ _=>True
 | .grow _ _=>True
 | .fill=>∃k x xs r,(H.jY t).bQ=(k,x::xs)::r/\k<H.tb.length/\iN x/\((H.jY t).li k).os.length+xs.length<=256
 | .eP m=>Qy (H.eM t) H.sp (m:Int) 1<=1000000
 | .find x=>iN x/\(bU H.live x=none->∀A∈H.bY,iQ A)/\∀b,bU H.live x=some b->0<=x
 | .put k _=>k<H.tb.length/\(H.jY t).bQ≠[]
 | .back=>∃k xs r,(H.jY t).bQ=(k,xs)::r/\(∀x∈xs,iN x/\0<=Yd H.bY x)/\xs.length<=1000000
 | .dG _ a=>0<=a/\a.toNat<H.bY.length/\∀A∈H.bY,∀r∈A.runs,r.1<=1000000
 | .drain=>True
def Me (U:Hp)(F:Rg)(L:dE)(o:uE)(R:Value->Int->Int->Hp->Prop):Prop:=∀σ' ts',Ext F U σ'->HH σ' (Grow F U) {L with ts:=ts'} o.1->R (nh o.2.1) o.2.2.1 o.2.2.2 σ'
set_option maxRecDepth 8000 in
theorem Ni (hso:G9)(h:HH U F L H)(ht:t<H.bR.length)(p:Ph)(hp:vF H t p)(hlen:∀g,H.bR[t]?=some g->g.bQ.length<=900){R:Value->Int->Int->Hp->Prop}(hR:Me U F L (WG H t p) R) :
 ZK.c (aW L.p) (t:Int) (nh (some p)) U R:=by
 refine ZK.o ?_;unfold ZK.v;have hlen':∀g,H.bR[t]?=some g->g.bQ.length<=1000:=λg hg=>by have:=hlen g hg;omega
 refine nw (cs:=[.int .i64 0,.int .i64 0]) λv hz e i=>?_;have K1:=(HK.start h).box e hz;obtain⟨x,g,E,hg⟩:=h.th ht;have hlen:=hlen g hg;have htg:=GX hg;have hol:=kb h.s t;obtain⟨A,hA⟩:∃A,H.bY[H.own t]?=some A:=⟨_,cX hol⟩;have hAe:=DN hA;obtain⟨Y,hY,_,_⟩:=h.ar hA;refine bL (K1.h.hd.rS rfl ?_);refine BR K1.h.nc K1.h.s.ts E hg (d:=0) O rfl λtb0 to0 ha _=>?_;have hS1:ni (λu=>u=v) L H.tb:=λm hm=>by cases hm;exact⟨_,L.ts,H,K1.h,rfl⟩
 refine⟨λu=>u=v,rfl,bL (hS1.fT (FJ K1.h t ⟨rfl,K1.h.rA hY ⟨rfl,?_⟩⟩))⟩;refine tU (λw=>∃P ts',HK F U (λb=>False\/b=U.size) w P {L with ts:=ts'} (WG H t p).1/\bZ w U.size [.int .i64 0,.int .i64 0]/\(WG H t p).2=(none,0,0)) (λw ⟨P,ts',K,hbw,W⟩=>?_) λJ hJ=>?_
 ·refine gP (n:=U.size) K (.inr rfl) hbw λw' K'=>?_;have:=hR w' ts' K'.e (K'.fin h);rw[W]at this;exact this
 cases p with
 | take k=>
  obtain⟨hk,hy9⟩:k<H.tb.length/\∀y l,KI (H.cls k) ((H.jY t).li k)=(some y,l)->iN y:=hp;obtain⟨c,hc⟩:∃c,H.tb[k]?=some c:=⟨_,cX hk⟩;have hll:=h.Cw E hg;obtain⟨l,hl⟩:∃l,g.ls[k]?=some l:=⟨_,cX (by rw[hll];exact hk)⟩;have hce:=Uy hc;have hle:=Ai hl;rw[hce,htg,hle]at hy9;refine Cq (nw (cs:=[.int .i64 0]) λv5 M Z N=>?_);have K5:=K1.box Z M;refine N.s0 aA λv6 o6 hb6=>?_;have K6:=K5.own o6 (.inr rfl);have C:=WE o6 (Z.bV i id) O;refine⟨λu=>u=v6,rfl,bL ⟨some ⟨x.c.p,0,none⟩,λu V=>by cases V;exact K6.h.tc E hg ha O rfl,⟨(k:Int),λu V=>by cases V;rw[add_lit,hb6.cell];rfl,?_⟩⟩⟩;refine Ε K6.h E hg hc hl λv7 ts7 X h7=>?_;have K7:=K6.to X h7 λb _ i=>i;have hb7:=K6.cZ X hb6 (.inr rfl);have B:=K6.cZ X C (.inl (.inr rfl));cases htk:KI c l with
  | mk o l'=>
  rw[htk]at h7 K7;cases o with
  | some y=>
   have W:WG H t (.take k)=(VX (H.dY t g (g.ls.set k l')) y (c.size:Int) (k:Int),none,y,0):=by
    simp only[WG,hce,htg,hle,htk,ZQ hg];rfl
   rw[W]at hR;have hS2:ni (λu=>(∃P ts H',HH u P {L with ts:=ts} H'/\H'.tb=H.tb)/\bZ u v.size [.int .i64 (k:Int)]) L H.tb:=λm hm=>hm.1;refine cF rfl ⟨λu=>(∃P ts H',HH u P {L with ts:=ts} H'/\H'.tb=H.tb)/\bZ u v.size [.int .i64 (k:Int)],⟨⟨_,_,_,K7.h,rfl⟩,hb7⟩,bL (hS2.dF ⟨(k:Int),λu V=>by rw[add_lit,V.2.cell];rfl,?_⟩)⟩;refine ni.rC (L:={L with ts:=ts7}) (H:=H.dY t g (g.ls.set k l')) hS2 K7.h hc ⟨(k:Int),λu V=>by rw[add_lit,V.2.cell];rfl,?_⟩;refine Bb K7.h y (c.size:Int) (k:Int) (hy9 y l' htk) λv8 e8 h8=>?_;have K8:=K7.to e8 h8 λb _ i=>.inl i;refine⟨⟨⟨_,_,_,h8,rfl⟩,K7.cZ e8 hb7 (.inr rfl)⟩,?_⟩;exact gP (n:=U.size) K8 (.inl (.inr rfl)) (K7.cZ e8 B (.inl (.inr rfl))) λw' K'=>hR w' ts7 K'.e (K'.fin h)
  | none=>
   have W:WG H t (.take k)=(H.dY t g (g.ls.set k l'),some (.cI k (pf c l')),0,0):=by
    simp only[WG,hce,htg,hle,htk,ZQ hg];rfl
   rw[W]at hR;have htlt:=(cY.1 hg).1;have hklt:=(cY.1 hl).1;have hg7:(H.dY t g (g.ls.set k l')).bR[t]?=some {g with ls:=g.ls.set k l'}:=by simp[Hw.dY,htlt]
   obtain⟨x7,g7,hx7,_⟩:=K7.h.th (t:=t) (by simp[Hw.dY,htlt]);have hl7:({g with ls:=g.ls.set k l'}:Th).ls[k]?=some l':=by simp[hklt]
   refine cD rfl ⟨λu=>u=v7,rfl,bL ⟨some ⟨x7.c.p,0,none⟩,λu V=>by cases V;exact K7.h.tc hx7 hg7 ha O rfl,⟨(k:Int),λu V=>by cases V;rw[add_lit,hb7.cell];rfl,?_⟩⟩⟩;refine Rf K7.h hx7 hg7 hc hl7 λv8 ts8 e8 h8=>?_;have K8:=K7.to e8 h8 λb _ i=>i;refine(K7.cZ e8 hb7 (.inr rfl)).rI rfl ?_;exact gP (n:=U.size) K8 (.inl (.inr rfl)) (K7.cZ e8 B (.inl (.inr rfl))) λw' K'=>hR w' ts8 K'.e (K'.fin h)
 | cI k w=>
  obtain⟨hk,hne0⟩:k<H.tb.length/\(Qz (H.eM t) (k:Int)=0->YM (H.eM t) (k:Int)≠[]):=hp;rw[hAe]at hne0;obtain⟨c,hc⟩:∃c,H.tb[k]?=some c:=⟨_,cX hk⟩;have hce:=Uy hc;refine lD aB (wQ (nw (cs:=[.int .i64 0,.int .i64 0]) λv5 M Z N=>?_));have K5:=K1.box Z M;refine N.s1 aA λv5b o5 b5=>b5.s1 aA λv6 o6 b6=>?_;have K6:=(K5.own o5 (.inr rfl)).own o6 (.inr rfl);have S:U.size≠v.size:=by omega
  have C:=WE o6 (WE o5 (Z.bV i id) S) S;refine tU (λu=>(∃P',HK F U (λb=>(False\/b=U.size)\/b=v.size) u P' L H)/\bZ u U.size [.int .i64 0,.int .i64 0]/\bZ u v.size [.int .i64 (k:Int),.int .i64 (w:Int)]/\WG H t (.cI k w)=(H,some (.cL k w),0,0)) (λu ⟨⟨P',K⟩,hbw,hbx,W⟩=>?_) λJ1 hJ1=>?_
  ·rw[W]at hR;exact hbx.rI rfl (hbx.rI rfl (gP (n:=U.size) K (.inl (.inr rfl)) hbw λw' K'=>hR w' L.ts K'.e (K'.fin h)))
  ·refine b6.rI rfl (bL (K6.h.hd.rS rfl (b6.rI rfl (ur K6.h.jP hc (d:=2) O ?_))));simp only[zB (show ¬(2=0) by omega),zB (show ¬(2=1) by omega)];refine cN (λheq=>b6.rI rfl ?_) λhne'=>hJ1 v6 ⟨⟨_,K6⟩,C,b6,?_⟩
   ·have heq':w=c.batch:=by simp only[zT]at heq;omega
    refine G7 K6.h hA hY (k:Int) λs v7 Q X hQ hs7 hcap h7=>?_;have K7:=K6.to X h7 λb _ i=>i.1;have b7:=K6.cZ X b6 (.inr rfl);have B:=K6.cZ X C (.inl (.inr rfl));refine cN (λh0=>b7.rI rfl ?_) λhn0=>?_
    ·have h0':Qz A (k:Int)=0:=by simpa using h0
     have W:WG H t (.cI k w)=(Ki (H.cE (H.own t) (ZW A (k:Int))) t k (YM A (k:Int)),some .fill,0,0):=by
      simp only[WG,hce,hAe,heq',h0',zU]
     rw[W]at hR;refine yA K7.h (t:=t) ht k hs7 hcap (hne0 h0') (λb _ z E=>E.1.2 z) (K6.h.o.sub hQ) (λz=>K6.h.o2 (hQ _ z)) hlen' λv8 ts8 e8 h8=>?_;have K8:=K7.uq e8 h8 λb i z=>by
      rcases z with z|z
      ·exact z.imp id .inl
      ·exact .inr (.inr ⟨(K6.p b (hQ b z)).1,(K6.p b (hQ b z)).2.1⟩)
     exact gP (n:=U.size) K8 (.inl (.inr rfl)) (K7.cZ e8 B (.inl (.inr rfl))) λw' K'=>hR w' ts8 K'.e (K'.fin h)
    ·have hn0':Qz A (k:Int)≠0:=by simpa using hn0
     have hsame:ZW A (k:Int)=A:=by unfold ZW;rw[zB hn0']
     rw[hsame,I7 hA]at K7;refine hJ1 v7 ⟨⟨_,K7⟩,B,b7,?_⟩;simp only[WG,hce,hAe,heq',zB hn0',zU]
   ·have hne2:w≠c.batch:=λe=>by rw[e]at hne';simp at hne'
    simp only[WG,hce,zB hne2]
 | cL k w=>
  refine lD aB (jn aB (wQ (nw (cs:=[.int .i64 0,.int .i64 0]) λv5 M Z N=>?_)));have K5:=K1.box Z M;refine N.s1 aA λv5b o5 b5=>b5.s1 aA λv6 o6 b6=>?_;have K6:=(K5.own o5 (.inr rfl)).own o6 (.inr rfl);have S:U.size≠v.size:=by omega
  have C:=WE o6 (WE o5 (Z.bV i id) S) S;refine b6.rI rfl (b6.rI rfl (ψ K6.h hA hY (k:Int) (w:Int) λs v7 Q X hQ hs7 h7=>?_));have K7:=K6.to X h7 λb _ i=>i.1;have b7:=K6.cZ X b6 (.inr rfl);have B:=K6.cZ X C (.inl (.inr rfl));have hsl:s.len=(Yw A (k:Int) (w:Int)).length:=by have:=hs7.1;simp[ints]at this;omega
  by_cases hemp:Yw A (k:Int) (w:Int)=[]
  ·have W:WG H t (.cL k w)=(H.cE (H.own t) (YQ A (k:Int) (w:Int)),some (.grow k w),0,0):=by
    simp only[WG,hAe,zC hemp]
   rw[W]at hR;refine gg (by rw[hsl,hemp];simp) (b7.rI rfl (b7.rI rfl ?_));exact gP (n:=U.size) K7 (.inl (.inr rfl)) B λw' K'=>hR w' L.ts K'.e (K'.fin h)
  ·have W:WG H t (.cL k w)=(Ki (H.cE (H.own t) (YQ A (k:Int) (w:Int))) t k ((Yw A (k:Int) (w:Int)).map λ(x:Nat)=>(x:Int)),some .fill,0,0):=by
    simp only[WG,hAe,zB hemp]
   rw[W]at hR;have hpos:=py.2 hemp;refine lR (by rw[hsl];omega) (b7.rI rfl ?_);have hs7':=bS.fW hs7;rw[OJ]at hs7';have hz6:=K6.e.1;refine yA K7.h (t:=t) ht k hs7' (bS.nG hs7) (by simpa using hemp) (λb _ z E=>E.1.2 z) (K6.o.1.sub λb i=>by have:=hQ b i;omega) (λz=>K6.o.2 (by have:=hQ _ z;omega)) hlen' λv8 ts8 e8 h8=>?_;have K8:=K7.uq e8 h8 λb i z=>by
    rcases z with z|z
    ·exact z.imp id .inl
    ·have:=hQ b z;exact .inr (.inr ⟨.inr O,λhB=>by have:=(K6.b b hB).2;omega⟩)
   exact gP (n:=U.size) K8 (.inl (.inr rfl)) (K7.cZ e8 B (.inl (.inr rfl))) λw' K'=>hR w' ts8 K'.e (K'.fin h)
 | grow k w=>
  refine lD aB (jn aB (jn aB (wQ (nw (cs:=[.int .i64 0,.int .i64 0]) λv5 M Z N=>?_))));have K5:=K1.box Z M;refine N.s1 aA λv5b o5 b5=>b5.s1 aA λv6 o6 b6=>?_;have K6:=(K5.own o5 (.inr rfl)).own o6 (.inr rfl);have S:U.size≠v.size:=by omega
  have C:=WE o6 (WE o5 (Z.bV i id) S) S;refine b6.rI rfl (M7 K6.h hA hY (k:Int) λv7 X h7=>?_);have K7:=K6.to X h7 λb _ i=>i;have b7:=K6.cZ X b6 (.inr rfl);have B:=K6.cZ X C (.inl (.inr rfl));refine cN (λhn0=>?_) λh0=>?_
  ·have hn0':Vv A H.sp (k:Int)≠0:=by simpa using hn0
   have W:WG H t (.grow k w)=({H.cE (H.own t) (cQ A H.sp (k:Int)).1 with sp:=(cQ A H.sp (k:Int)).2},none,0,Vv A H.sp (k:Int)):=by
    simp only[WG,hAe,zB hn0']
   rw[W]at hR;exact gP (n:=U.size) K7 (.inl (.inr rfl)) B λw' K'=>hR w' L.ts K'.e (K'.fin h)
  ·have h0':Vv A H.sp (k:Int)=0:=by simpa using h0
   have W:WG H t (.grow k w)=({H.cE (H.own t) (cQ A H.sp (k:Int)).1 with sp:=(cQ A H.sp (k:Int)).2},some (.cL k w),0,0):=by
    simp only[WG,hAe,zC h0']
   rw[W]at hR;refine b7.rI rfl (b7.rI rfl ?_);exact gP (n:=U.size) K7 (.inl (.inr rfl)) B λw' K'=>hR w' L.ts K'.e (K'.fin h)
 | fill=>
  obtain⟨k,y,ys,r,hh,hk,hy9,hfit⟩:∃k x xs r,(H.jY t).bQ=(k,x::xs)::r/\k<H.tb.length/\iN x/\((H.jY t).li k).os.length+xs.length<=256:=hp;rw[htg]at hh hfit;obtain⟨c,hc⟩:∃c,H.tb[k]?=some c:=⟨_,cX hk⟩;have hll:=h.Cw E hg;obtain⟨l,hl⟩:∃l,g.ls[k]?=some l:=⟨_,cX (by rw[hll];exact hk)⟩;have hce:=Uy hc;have hle:=Ai hl;rw[hle]at hfit;refine lD aB (jn aB (jn aB (jn aB (BS (nw (cs:=[]) λv5 M Z N=>?_)))));have K5:=K1.box Z M;have hbv5:=Z.bV i id;obtain⟨G,D,hG,hD,hd,hBt,hr,hput⟩:=K5.h.xL (λb i=>(K5.p b i).2.2) E hg (λ_=>False) (λb _ _ z=>z) (K5.o.1.sub λb i=>i.elim) (λz=>z);rw[hh]at hBt;obtain⟨so,ps,Dn,hrow,hso1,hcap,hBr,hDn,hj,S,hxne⟩:=hBt.m6;have hz5':=K5.e.1;have hsol:so.len=ys.length+1:=by have:=hso1.1;simp[Wu]at this;omega
  refine bL (oE (K5.h.tc E hg ha (d:=1) O rfl) (I0 (dL.fW hrow) λa ha0 ha1=>oy ha0 (oE ha1 ?_)));refine nw (cs:=[.int .i64 0,.slice none 0 0]) λv43 hz43 e43 hb43=>hb43.s1 aA λv44 o44 b44=>b44.s1 aA λv45 o45 b45=>?_;have e45:aG v5 v45:=(e43.only o44 (.inr (zD _))).only o45 (.inr (zD _));have hz45:v5.size<v45.size:=b45.lt;refine bL (hput v45 ⟨none,0,0⟩ [] (λ_=>False) (aG.to e45) (λb i=>i.elim) (iF.nil _ _ _) ha λv46 e46 h46=>?_);have hz46:=e46.1;have e546:Ext _ v5 v46:=(aG.to e45).trans (e46.sub hD);have K46:=K5.to e546 h46 λb _ z=>by
   rcases z with z|z
   ·exact .inl z.1
   ·exact z.1.elim
  have hbv46:=K5.cZ e546 hbv5 (.inl (.inr rfl));have b46:bZ v46 v5.size _:=e46.bV b45 λE=>by have:=(K5.p _ (hD _ E)).2.2;omega
  have K46b:=K46.yr (B':=λb=>b=v5.size) λb i=>⟨O,O,λE=>by
   subst i;rcases E.1 with h1|h1
   ·have:=(K5.p _ h1.1).2.2;omega
   ·exact h1.1⟩
  have hso46:=aH.bT (aH.bP (aH.cut hso1) e45) e46 λb _ i E=>hd b (hDn b i.1.1) E;have hXn:∀b,(Dn b/\k5 so b)/\b<v5.size->¬Cut (λb=>(Cut F U b/\¬G b)\/False/\b<v45.size) v46 b:=λb i E=>by
   rcases E.1 with h1|h1
   ·exact h1.2 (hDn b i.1.1)
   ·exact h1.1
  have hg46:({H with bR:=H.bR.set t {g with bQ:=[]}}:Hw).bR[t]?=some {g with bQ:=[]}:=by simp[ht]
  have hx46:(L.ts.set t {x with h:=⟨none,0,0⟩})[t]?=some {x with h:=⟨none,0,0⟩}:=zO (cY.1 E).1;refine bL (wc (K46b.h.tc hx46 hg46 ha (d:=0) O rfl) (b46.rI rfl (b46.rS (a:=so.a) (n:=so.len) (c:=so.cap) rfl (jl (lo:=1) (by show 1<=so.len;omega) hcap (zD _) ?_))));have hsub:=cV.sub hso46 (lo:=1) (hi:=so.len) (mx:=so.cap) O (zD _) hcap;have hsx:((Wu (y::ys)).drop (1*1)).take ((so.len-1)*1)=Wu ys:=by
   rw[lh (by simp[Wu];omega)];rfl
  rw[hsx]at hsub;have hl46:({g with bQ:=[]}:Th).ls[k]?=some l:=hl;refine τ K46b.h hx46 hg46 hc hl46 hsub hXn hfit λv47 ts47 e47 h47=>?_;have K47:=K46b.to e47 h47 λb _ i=>i;have hso47:=aH.bT hso46 e47 λb _ i E=>hXn b i E;have b47:=K46b.cZ e47 b46 (.inr rfl);have hbv47:=K46b.cZ e47 hbv46 (.inl (.inl (.inr rfl)));have W:WG H t .fill=(VX {H with bR:=H.bR.set t {g with ls:=g.ls.set k (eL ys.reverse l),bQ:=[]}} y (c.size:Int) (k:Int),none,y,0):=by
   simp only[WG,htg,hh,ZQ hg,hle,hce]
  rw[W]at hR;obtain⟨b0,o0,ha0',hc0⟩:=hso47.cell (j:=0) (v:=.int .i64 y) rfl;have hS4:ni (λu=>((∃P ts H',HH u P {L with ts:=ts} H'/\H'.tb=H.tb)/\bZ u v5.size [.int .i64 (k:Int),.slice so.a so.len so.cap])/\cell u ⟨b0,o0+0,none⟩=some (.int .i64 y)) L H.tb:=λm hm=>hm.1.1;refine⟨λu=>((∃P ts H',HH u P {L with ts:=ts} H'/\H'.tb=H.tb)/\bZ u v5.size [.int .i64 (k:Int),.slice so.a so.len so.cap])/\cell u ⟨b0,o0+0,none⟩=some (.int .i64 y),⟨⟨⟨_,_,_,K47.h,rfl⟩,b47⟩,hc0⟩,⟨so,λu V=>by rw[add_lit,V.1.2.cell];rfl,?_⟩⟩;refine LB ha0' O ⟨y,λu V=>V.2,bL (hS4.dF ⟨(k:Int),λu V=>by rw[add_lit,V.1.2.cell];rfl,?_⟩)⟩;refine ni.rC (L:={L with ts:=ts47}) (H:=Hw.dY {H with bR:=H.bR.set t {g with bQ:=[]}} t {g with bQ:=[]} (g.ls.set k (eL ys.reverse l))) hS4 K47.h hc ⟨(k:Int),λu V=>by rw[add_lit,V.1.2.cell];rfl,?_⟩;refine Bb K47.h y (c.size:Int) (k:Int) hy9 λv48 e48 h48=>?_;have K48:=K47.to e48 h48 λb _ i=>.inl i;have hz4747:=e47.1;have hso48:=aH.bT hso47 e48 λb _ i E=>by
   rcases E.1 with h1|h1
   ·exact hXn b i h1
   ·have:=i.2;omega
  refine⟨⟨⟨⟨_,_,_,h48,rfl⟩,K47.cZ e48 b47 (.inr rfl)⟩,?_⟩,?_⟩
  ·obtain⟨b1,o1,ha1',hc1⟩:=hso48.cell (j:=0) (v:=.int .i64 y) rfl;rw[ha0']at ha1';cases ha1';exact hc1
  ·have K49:=K48;simp only[Hw.dY,nO]at K49;exact gP (n:=U.size) K49 (.inl (.inl (.inr rfl))) (K47.cZ e48 hbv47 (.inl (.inl (.inr rfl)))) λw' K'=>hR w' ts47 K'.e (K'.fin h)
 | eP m=>
  have hp:Qy (H.eM t) H.sp (m:Int) 1<=1000000:=hp;rw[hAe]at hp;refine lD aB (jn aB (jn aB (jn aB (sE aB (Cq (nw (cs:=[.int .i64 0]) λv5 M Z N=>?_))))));have K5:=K1.box Z M;refine N.s0 aA λv6 o6 b6=>?_;have K6:=K5.own o6 (.inr rfl);have C:=WE o6 (Z.bV i id) O;refine b6.rI rfl (NT K6.h hA hY (m:Int) 1 λv7 X h7=>?_);have K7:=K6.to X h7 λb _ i=>i;have b7:=K6.cZ X b6 (.inr rfl);have B:=K6.cZ X C (.inl (.inr rfl));refine cN (λhn0=>?_) λh0=>?_
  ·have hn0':QZ A H.sp (m:Int) 1≠0:=by simpa using hn0
   have W:WG H t (.eP m)=({H.cE (H.own t) (cC A H.sp (m:Int) 1).1 with sp:=(cC A H.sp (m:Int) 1).2},none,0,QZ A H.sp (m:Int) 1):=by
    simp only[WG,hAe,zB hn0']
   rw[W]at hR;exact gP (n:=U.size) K7 (.inl (.inr rfl)) B λw' K'=>hR w' L.ts K'.e (K'.fin h)
  ·have h0':QZ A H.sp (m:Int) 1=0:=by simpa using h0
   have hm:m<=64:=by
    unfold QZ at h0';split at h0'
    ·rename_i hpo;simp only[KM,zF,zV]at hpo;omega
    ·omega
   have W:WG H t (.eP m)=(VX {H.cE (H.own t) (cC A H.sp (m:Int) 1).1 with sp:=(cC A H.sp (m:Int) 1).2} ((Qy A H.sp (m:Int) 1*256:Nat):Int) ((m*256:Nat):Int) (-1),none,((Qy A H.sp (m:Int) 1*256:Nat):Int),0):=by
    simp only[WG,hAe,zC h0']
   rw[W]at hR;refine cT (m:=Qy A H.sp (m:Int) 1*256) O O (b7.rI rfl (cT (m:=m*256) O O ?_));refine Bb K7.h _ _ _ O λv8 e8 h8=>?_;have K8:=K7.to e8 h8 λb _ i=>.inl i;exact gP (n:=U.size) K8 (.inl (.inr rfl)) (K7.cZ e8 B (.inl (.inr rfl))) λw' K'=>hR w' L.ts K'.e (K'.fin h)
 | find x=>
  obtain⟨hx9,hro,hlv⟩:iN x/\(bU H.live x=none->∀A∈H.bY,iQ A)/\∀b,bU H.live x=some b->0<=x:=hp;refine lD aB (jn aB (jn aB (jn aB (sE aB (lD aB (Cq (nw (cs:=[.int .i64 0]) λv5 M Z N=>?_)))))));have K5:=K1.box Z M;refine N.s0 aA λv6 o6 b6=>?_;have K6:=K5.own o6 (.inr rfl);have C:=WE o6 (Z.bV i id) O;refine b6.rI rfl (NR K6.h ht x hx9 hro hlen' hlv λv7 ts7 X h7=>?_);have K7:=K6.to X h7 λb _ i=>i;have B:=K6.cZ X C (.inl (.inr rfl));exact gP (n:=U.size) K7 (.inl (.inr rfl)) B λw' K'=>hR w' ts7 K'.e (K'.fin h)
 | put k y=>
  obtain⟨hk,hne0⟩:k<H.tb.length/\(H.jY t).bQ≠[]:=hp;rw[htg]at hne0;obtain⟨c,hc⟩:∃c,H.tb[k]?=some c:=⟨_,cX hk⟩;have hll:=h.Cw E hg;obtain⟨l,hl⟩:∃l,g.ls[k]?=some l:=⟨_,cX (by rw[hll];exact hk)⟩;have hce:=Uy hc;have hle:=Ai hl;refine lD aB (jn aB (jn aB (jn aB (sE aB (lD aB (lD aB (wQ (nw (cs:=[.int .i64 0,.int .i64 0]) λv5 M Z N=>?_))))))));have K5:=K1.box Z M;refine N.s1 aA λv5b o5 b5=>b5.s1 aA λv6 o6 b6=>?_;have K6:=(K5.own o5 (.inr rfl)).own o6 (.inr rfl);have S:U.size≠v.size:=by omega
  have C:=WE o6 (WE o5 (Z.bV i id) S) S;generalize hgg:(if(dM c y l).1=[]then({g with ls:=g.ls.set k (dM c y l).2}:Th)else{g with ls:=g.ls.set k (dM c y l).2,bQ:=g.bQ++[(k,(dM c y l).1)]})=g2
  have hg2n:g2.bQ≠[]/\g2.bQ.length<=901:=by
   rw[←hgg];split
   ·exact⟨hne0,by simp;omega⟩
   ·exact⟨by simp,by simp;omega⟩
  refine tU (λw=>∃P ts',HK F U (λb=>(False\/b=U.size)\/b=v.size) w P {L with ts:=ts'} {H with bR:=H.bR.set t g2}/\bZ w U.size [.int .i64 0,.int .i64 0]) (λw ⟨P,ts2,K,hbw⟩=>?_) λJ2 hJ2=>?_
  ·have hg3:({H with bR:=H.bR.set t g2}:Hw).bR[t]?=some g2:=by simp[ht]
   obtain⟨x2,_,hx2,_⟩:=K.h.th (t:=t) (by simpa using ht);obtain⟨G,D,hG,hD,hd,hBt,hr,hput⟩:=K.h.xL (λb i=>(K.p b i).2.2) hx2 hg3 (λ_=>False) (λb _ _ z=>z) (K.o.1.sub λb i=>i.elim) (λz=>z);have hbl:=hBt.len;have hbc:=hBt.cap;obtain⟨b0,r0,hbr⟩:∃b r,g2.bQ=b::r:=by
    cases hh:g2.bQ with
    | nil=>exact absurd hh hg2n.1
    | cons b r=>exact⟨b,r,rfl⟩
   have rh:g2.bQ.drop 1=r0:=by rw[hbr];rfl
   rw[hbr]at hBt;have hpos:1<=x2.h.len:=by rw[hbl,hbr];simp
   refine bL (oE (K.h.tc hx2 hg3 ha (d:=1) O rfl) ?_);refine jl (lo:=1) hpos hbc (zD _) ?_;refine bL (hput w _ _ G (Ext.refl _ _) (λb i=>.inl i) hBt.ma ha λw1 e1 h1=>?_);have e1':=e1.sub hD;have K1b:=K.to e1' h1 λb _ z=>by
    rcases z with z|z
    ·exact .inl z.1
    ·exact .inl (hG b z.1)
   have hbw1:=K.cZ e1' hbw (.inl (.inr rfl));have K3:=K1b;simp only[nO]at K3;generalize hg3':({g2 with bQ:=r0}:Th)=g3 at K3;have hl3:g3.bQ=r0/\g3.ls=g2.ls:=by rw[←hg3'];exact⟨rfl,rfl⟩
   have hr0:r0.length<=900:=by have:=hg2n.2;rw[hbr]at this;simp at this;omega
   have hg3e:({H with bR:=H.bR.set t g3}:Hw).bR[t]?=some g3:=by simp[ht]
   have hpe:iC H t k y=(if H.cf.dD<Ky H.tb g3.ls then{H with bR:=H.bR.set t {g3 with ls:=KC Vp H.tb g3.ls,bQ:=g3.bQ++KH Vp H.tb g3.ls}}else{H with bR:=H.bR.set t g3}):=by
    have e2:(if(dM c y l).1=[]then H.eC t λh=>h.il k (dM c y l).2 else Ki (H.eC t λh=>h.il k (dM c y l).2) t k (dM c y l).1) = {H with bR:=H.bR.set t g2}:=by
     rw[←hgg];split
     ·rw[ZQ hg];rfl
     ·rw[ZQ hg];unfold Ki Hw.eC;simp only;rw[VA (t:=g.il k (dM c y l).2) (by simp[ht]),nO];rfl
    have e3:({H with bR:=H.bR.set t g2}:Hw).eC t (λh=>{h with bQ:=h.bQ.drop 1}) = {H with bR:=H.bR.set t g3}:=by
     rw[ZQ hg3];simp only[nO,rh,hg3']
    unfold iC;simp only[hce,htg,hle,e2,e3,GX hg3e,ZQ hg3e,nO]
   have hx3:(ts2.set t {x2 with h:=⟨if x2.h.cap=1 then x2.h.a else x2.h.a.map (·.add (1*2)),x2.h.len-1,x2.h.cap-1⟩})[t]?=some {x2 with h:=⟨if x2.h.cap=1 then x2.h.a else x2.h.a.map (·.add (1*2)),x2.h.len-1,x2.h.cap-1⟩}:=zO (cY.1 hx2).1
   generalize hx3':({x2 with h:=⟨if x2.h.cap=1 then x2.h.a else x2.h.a.map (·.add (1*2)),x2.h.len-1,x2.h.cap-1⟩}:eR)=x3 at hx3 K3
   generalize ts2.set t x3=ts3 at hx3 K3;refine tU (λw=>∃P ts',HK F U (λb=>(False\/b=U.size)\/b=v.size) w P {L with ts:=ts'} (iC H t k y)/\bZ w U.size [.int .i64 0,.int .i64 0]) (λw ⟨P,ts',K,hbw⟩=>?_) λJ3 hJ3=>?_
   ·have W:WG H t (.put k y)=(iC H t k y,j8 (iC H t k y) t,0,0):=rfl;rw[W]at hR;refine Uh K.h (t:=t) ?_ ?_
    ·rw[hpe];split<;>simpa using ht
    ·exact gP (n:=U.size) K (.inl (.inr rfl)) hbw λw' K'=>hR w' ts' K'.e (K'.fin h)
   ·refine bL (wc (K3.h.tc hx3 hg3e ha (d:=0) O rfl) ?_);refine Te K3.h hx3 hg3e λv10 e10=>?_;have K10:=K3.fr e10;have hbw10:=e10.bV hbw1 id;refine cP (λhov=>?_) λhno=>hJ3 v10 ⟨_,ts3,by rw[hpe,zB hno];exact K10,hbw10⟩;refine⟨λu=>cell u (Addr.add ⟨tb0,to0+3*t,none⟩ 1)=some (.slice x3.h.a x3.h.len x3.h.cap)/\cell u (Addr.add ⟨tb0,to0+3*t,none⟩ 0)=some (.pointer (some ⟨x3.c.p,0,none⟩)),⟨K10.h.tc hx3 hg3e ha (d:=1) O rfl,K10.h.tc hx3 hg3e ha (d:=0) O rfl⟩,bL ⟨x3.h,λu V=>V.1,bL ⟨some ⟨x3.c.p,0,none⟩,λu V=>V.2,?_⟩⟩⟩;refine Rc hso K10.h hx3 hg3e λv11 s Q e11 hQ hB h11=>?_;have K11:=K10.to e11 h11 λb _ i=>i.1;have hbw11:=K10.cZ e11 hbw10 (.inl (.inr rfl));have hg11:(Hw.dY {H with bR:=H.bR.set t g3} t g3 (KC Vp H.tb g3.ls)).bR[t]?=some {g3 with ls:=KC Vp H.tb g3.ls}:=by simp[Hw.dY,ht]
    refine⟨⟨K11.h.tc hx3 hg11 ha (d:=1) O rfl,K11.h.tc hx3 hg11 ha (d:=0) O rfl⟩,?_⟩;have hz0:=K10.e.1;obtain⟨G,D,hG,hD,hd,hBt,hr,hput⟩:=K11.h.xL (λb i=>i.2) hx3 hg11 (λb=>Q b\/v11.size<=b) (λb i hP z=>z.elim (λz=>hP.1.2 z) λz=>O) (K10.o.1.sub λb i=>i.elim (λi=>by have:=hQ b i;omega) λi=>by have:=K11.e.1;omega) (λz=>K10.o.2 (z.elim (λi=>by have:=hQ _ i;omega) λi=>by have:=K11.e.1;omega));refine iF.app hBt hB (λb hg z=>(hG b hg).1.2 z) ?_ λs' v12 e12 hB12=>?_
    ·have:=Cz Vp H.tb g3.ls;have:H.tb.length<=40:=K3.h.r6;simp only[hl3.1];omega
    have hcell:∀{d:Nat} {w:Value},d<3->(jC (x3,({g3 with ls:=KC Vp H.tb g3.ls}:Th)))[d]?=some w->cell v12 (Addr.add ⟨tb0,to0+3*t,none⟩ d)=some w:=λhd3 hv=>by
     obtain⟨b',o',ha',hc'⟩:=yg (hr v12 e12) hx3 hg11 hd3 hv;rw[ha]at ha';cases ha';rw[add_lit,xw];exact hc'
    refine⟨⟨hcell (d:=1) O rfl,hcell (d:=0) O rfl⟩,bL (hput v12 s' _ _ e12 (λb i=>i.imp id id) hB12 ha λv13 e13 h13=>?_)⟩;have e13':=(e12.sub hG).trans (e13.sub hD);have K13:=K11.uq e13' h13 λb i z=>by
     rcases z with z|z
     ·exact .inl z.1
     ·rcases z.1 with h1|h1|h1
      ·exact .inl (hG b h1)
      ·have:=hQ b h1;exact .inr (.inr ⟨.inr O,λhB=>by have:=(K10.b b hB).2;omega⟩)
      ·exact .inr (.inl h1)
    have hbw13:=K11.cZ e13' hbw11 (.inl (.inr rfl));have K14:=K13;simp only[Hw.dY,nO]at K14;have hpe':=hpe;rw[zC hov]at hpe';rw[hpe']at hJ3;exact hJ3 v13 ⟨_,_,K14,hbw13⟩
  ·refine⟨λu=>u=v6,rfl,bL ⟨some ⟨x.c.p,0,none⟩,λu V=>by cases V;exact K6.h.tc E hg ha (d:=0) O rfl,⟨(k:Int),λu V=>by cases V;rw[add_lit,b6.cell];rfl,⟨y,λu V=>by cases V;rw[add_lit,b6.cell];rfl,?_⟩⟩⟩⟩;refine NP K6.h E hg hc hl y λv7 ts7 s ee Q X hQ hs7 h7=>?_;have K7:=K6.to X h7 λb _ i=>i.1;have b7:=K6.cZ X b6 (.inr rfl);have B:=K6.cZ X C (.inl (.inr rfl));have hsl:s.len=(dM c y l).1.length:=by have:=hs7.1;simp[Wu]at this;omega
   by_cases hemp:(dM c y l).1=[]
   ·rw[zC hemp]at hgg;rw[←hgg]at hJ2;exact gg (by rw[hsl,hemp];simp) (hJ2 v7 ⟨_,ts7,K7,B⟩)
   ·rw[zB hemp]at hgg;have hpos:=py.2 hemp;have hz6:=K6.e.1;refine lR (by rw[hsl];omega) (b7.rI rfl ?_);refine yA K7.h (t:=t) (by simpa[Hw.dY]using ht) k (bS.fW hs7) (bS.nG hs7) hemp (λb _ z E=>E.1.2 z) (K6.o.1.sub λb i=>by have:=hQ b i;omega) (λz=>K6.o.2 (by have:=hQ _ z;omega)) (λg' hg'=>?_) λv8 ts8 e8 h8=>?_
    ·have:(H.dY t g (g.ls.set k (dM c y l).2)).bR[t]?=some {g with ls:=g.ls.set k (dM c y l).2}:=by simp[Hw.dY,ht]
     rw[this]at hg';cases hg';simp only;omega
    ·have K8:=K7.uq e8 h8 λb i z=>by
      rcases z with z|z
      ·exact z.imp id .inl
      ·have:=hQ b z;exact .inr (.inr ⟨.inr O,λhB=>by have:=(K6.b b hB).2;omega⟩)
     have e9:Ki (H.dY t g (g.ls.set k (dM c y l).2)) t k (dM c y l).1 = {H with bR:=H.bR.set t g2}:=by
      rw[←hgg];unfold Ki Hw.eC Hw.dY;simp only;rw[VA (t:={g with ls:=g.ls.set k (dM c y l).2}) (by simp[ht]),nO]
     rw[e9]at K8;exact hJ2 v8 ⟨_,ts8,K8,K7.cZ e8 B (.inl (.inr rfl))⟩
 | back=>
  obtain⟨k,xs,r,hh,hxs,hxl⟩:∃k xs r,(H.jY t).bQ=(k,xs)::r/\(∀x∈xs,iN x/\0<=Yd H.bY x)/\xs.length<=1000000:=hp;rw[htg]at hh;refine lD aB (jn aB (jn aB (jn aB (sE aB (lD aB (lD aB (jn aB (BS (nw (cs:=[]) λv5 M Z N=>?_)))))))));have K5:=K1.box Z M;have hbv5:=Z.bV i id;obtain⟨G,D,hG,hD,hd,hBt,hr,hput⟩:=K5.h.xL (λb i=>(K5.p b i).2.2) E hg (λb=>v5.size<=b) (λb i _ z=>O) K5.h.mT.1 K5.h.mT.2;have hbl:=hBt.len;have hbc:=hBt.cap;rw[hh]at hBt;obtain⟨so,ps,Dn,hrow,hso1,hcap,hBr,hDn,hj,S,hxne⟩:=hBt.m6;have hz5':=K5.e.1;refine bL (oE (K5.h.tc E hg ha (d:=1) O rfl) (I0 (dL.fW hrow) λa ha0 ha1=>oy ha0 (oE ha1 ?_)));refine nw (cs:=[.int .i64 0,.slice none 0 0]) λv81 hz81 e81 hb81=>hb81.s1 aA λv82 o82 b82=>b82.s1 aA λv83 o83 b83=>?_;have e83:aG v5 v83:=(e81.only o82 (.inr (zD _))).only o83 (.inr (zD _));have hz83:v5.size<v83.size:=b83.lt;have hcell:∀{u1:Hp},Ext G v5 u1->∀{d:Nat} {w:Value},d<3->(jC (x,g))[d]?=some w->cell u1 (Addr.add ⟨tb0,to0+3*t,none⟩ d)=some w:=λhe _ _ hd3 hv=>by
   obtain⟨b',o',ha',hc'⟩:=yg (hr _ he) E hg hd3 hv;rw[ha]at ha';cases ha';rw[add_lit,xw];exact hc'
  refine bL (oE (hcell (aG.to e83) (d:=1) (w:=.slice x.h.a x.h.len x.h.cap) O rfl) ?_);have hpos:1<=x.h.len:=by rw[hbl,hh];simp
  refine jl (lo:=1) hpos hbc (zD _) ?_;have hrow':=aH.bP (aH.cut (dL.fW (hrow.from (lo:=1) hpos))) e83;have rh:(fK ((k,so)::ps)).drop (1*2)=fK ps:=rfl;rw[rh]at hrow';refine OE hrow' aC λs' v84 hs'l e84 hs'=>?_;have hBt':iF s' r v84 (λb=>Dn b/\¬k5 so b/\b<v5.size\/v83.size<=b):=by
   refine⟨ps,λb=>Dn b/\¬k5 so b/\b<v5.size,(dL.loc _ _ _).mono hs'.o λb _ i=>⟨.inr i,λE=>O⟩,(kH.loc _ _).bP ((kH.loc _ _).bP ((kH.loc _ _).mono ((kH.loc _ _).cut hBr) λb _ i=>⟨i.1.1,i.1.2,i.2⟩) e83) e84,λb i=>.inl i,hj,S⟩
  have e584:aG v5 v84:=e83.trans e84;refine bL (hput v84 s' r _ (aG.to e584) (λb i=>i.elim (λi=>.inl (hDn b i.1)) λi=>.inr O) hBt' ha λv85 e85 h85=>?_);have hz84:=e84.1;have hz85:=e85.1;have e585:Ext _ v5 v85:=(aG.to e584).trans (e85.sub hD);have K85:=K5.to e585 h85 λb _ z=>by
   rcases z with z|z
   ·exact .inl z.1
   ·rcases z.1 with h1|h1
    ·exact .inl (hG b (hDn b h1.1))
    ·exact .inr O
  have hbv85:=K5.cZ e585 hbv5 (.inl (.inr rfl));have b85:bZ v85 v5.size _:=e85.bV (e84.bV b83 id) λE=>by have:=(K5.p _ (hD _ E)).2.2;omega
  have K85b:=K85.yr (B':=λb=>b=v5.size) λb i=>⟨O,O,λE=>by
   subst i;rcases E.1 with h1|h1
   ·have:=(K5.p _ h1.1).2.2;omega
   ·rcases h1.1 with h2|h2<;>omega⟩
  have hso5:=aH.bT (aH.bP (aH.cut hso1) e584) e85 λb _ i E=>hd b (hDn b i.1.1) E;have W:WG H t .back=(Gp {H with bR:=H.bR.set t {g with bQ:=r}} (H.own t) k xs,j8 (Gp {H with bR:=H.bR.set t {g with bQ:=r}} (H.own t) k xs) t,0,0):=by
   simp only[WG,htg,hh,ZQ hg]
  rw[W]at hR;refine⟨λu=>u=v85,rfl,⟨(k:Int),λu V=>by cases V;rw[add_lit,b85.cell];rfl,⟨so,λu V=>by cases V;rw[add_lit,b85.cell];rfl,?_⟩⟩⟩;refine FJ K85b.h t ⟨rfl,Nb K85b.h hol k hso5 (λb _ i E=>?_) hcap hxs hxl λv87 e87 h87=>?_⟩
  ·rcases E.1 with h1|h1
   ·exact h1.2 (hDn b i.1.1)
   ·rcases h1.1 with h2|h2
    ·exact h2.2.1 i.1.2
    ·have:=i.2;omega
  have K87:=K85b.to e87 h87 λb _ i=>i;have hbl7:(Gp {H with bR:=H.bR.set t {g with bQ:=r}} (H.own t) k xs).bR.length=H.bR.length:=by
   rw[Bc];simp
  refine Uh K87.h (t:=t) (by rw[hbl7];exact ht) ?_;exact gP (n:=U.size) K87 (.inl (.inl (.inr rfl))) (K85b.cZ e87 hbv85 (.inl (.inl (.inr rfl)))) λw' K'=>hR w' _ K'.e (K'.fin h)
 | dG s a=>
  obtain⟨ha0,hal,hru⟩:0<=a/\a.toNat<H.bY.length/\∀A∈H.bY,∀r∈A.runs,r.1<=1000000:=hp;obtain⟨A2,hA2⟩:∃A,H.bY[a.toNat]?=some A:=⟨_,cX hal⟩;have hae:a=((a.toNat:Nat):Int):=by omega
  refine lD aB (jn aB (jn aB (jn aB (sE aB (lD aB (lD aB (jn aB (sE aB (wQ (nw (cs:=[.int .i64 0,.int .i64 0]) λv5 M Z N=>?_))))))))));have K5:=K1.box Z M;refine N.s1 aA λv5b o5 b5=>b5.s1 aA λv6 o6 b6=>?_;have K6:=(K5.own o5 (.inr rfl)).own o6 (.inr rfl);have S:U.size≠v.size:=by omega
  have C:=WE o6 (WE o5 (Z.bV i id) S) S;obtain⟨Y2,hY2,_,_⟩:=K6.h.ar hA2;refine bL (K6.h.hd.rS rfl (b6.rI (x:=((a.toNat:Nat):Int)) (by rw[←hae];rfl) (K6.h.rA hY2 (b6.rI rfl ?_))));refine Wc9 K6.h hA2 hY2 s (hru A2 (zG hA2)) λv7 X h7=>?_;have K7:=K6.to X h7 λb _ i=>i;have B:=K6.cZ X C (.inl (.inr rfl));have W:WG H t (.dG s a)=(H.cE a.toNat (Q8 A2 s),none,0,0):=by
   simp only[WG,hA2]
  refine hJ v7 ⟨_,L.ts,⟨?_,K7.e,λb i=>⟨(K7.p b i).1,λE=>(K7.p b i).2.1 (.inl E),(K7.p b i).2.2⟩,λb i=>K7.b b (.inl i),K7.o⟩,B,by rw[W]⟩;rw[W];exact K7.h
 | drain=>
  refine lD aB (jn aB (jn aB (jn aB (sE aB (lD aB (lD aB (jn aB (sE aB (jn aB (BS (nw (cs:=[]) λv5 M Z N=>?_)))))))))));have K5:=K1.box Z M;have hbv5:=Z.bV i id;refine bL (wc (K5.h.tc E hg ha (d:=0) O rfl) ?_);refine Ol hso K5.h E hg λv7 s Q X hQ hB h7=>?_;have K7:=K5.to X h7 λb _ i=>i.1;have B:=K5.cZ X hbv5 (.inl (.inr rfl));have hz0:=K5.e.1;have hg7:(H.dY t g (KC Z4 H.tb g.ls)).bR[t]?=some {g with ls:=KC Z4 H.tb g.ls}:=by simp[Hw.dY,ht]
  obtain⟨G,D,hG,hD,hd,hBt,hr,hput⟩:=K7.h.xL (λb i=>i.2) E hg7 Q (λb _ i z=>i.1.2 z) (K5.o.1.sub λb i=>by have:=hQ b i;omega) (λz=>K5.o.2 (by have:=hQ _ z;omega));refine bL (hput v7 s _ Q (Ext.refl _ _) (λb i=>.inr i) hB ha λv8 e8 h8=>?_);have e8':=e8.sub hD;have K8:=K7.uq e8' h8 λb _ z=>by
   rcases z with z|z
   ·exact .inl z.1
   ·have:=hQ b z.1;exact .inr (.inr ⟨.inr O,λhB=>by have:=(K5.b b hB).2;omega⟩)
  have hbv8:=K7.cZ e8' B (.inl (.inr rfl));have W:WG H t .drain=({H with bR:=H.bR.set t {g with ls:=KC Z4 H.tb g.ls,bQ:=KH Z4 H.tb g.ls}},j8 {H with bR:=H.bR.set t {g with ls:=KC Z4 H.tb g.ls,bQ:=KH Z4 H.tb g.ls}} t,0,0):=by
   simp only[WG,ZQ hg]
  have K9:=K8;simp only[Hw.dY,nO]at K9;rw[W]at hR;refine Uh K9.h (t:=t) (by simpa using ht) ?_;exact gP (n:=U.size) K9 (.inl (.inr rfl)) hbv8 λw' K'=>hR w' _ K'.e (K'.fin h)
def eY (H:Hw)(t:Nat)(p:Option Ph):Hw:=H.eC t λh=>{h with ph:=p}
theorem VW (H:Hw)(t:Nat)(f:Th->Th):(H.eC t f).bR.length=H.bR.length:=by simp[Hw.eC]
theorem MK (H:Hw)(t k:Nat)(x:Int):(iC H t k x).bR.length=H.bR.length:=by
 unfold iC;simp only;split<;>split<;>simp[VW,Ki]
theorem EF (H:Hw)(t:Nat)(p:Ph):(WG H t p).1.bR.length=H.bR.length:=by
 cases p with
 | take k=>simp only[WG];split<;>simp[VX,VW]
 | cI k w=>
  simp only[WG];split
  ·split<;>simp[Ki,VW,Hw.cE]
  ·rfl
 | cL k w=>simp only[WG];split<;>simp[Ki,VW,Hw.cE]
 | grow k w=>simp only[WG];split<;>simp[Hw.cE]
 | fill=>simp only[WG];split<;>simp[VX,VW]
 | eP m=>simp only[WG];split<;>simp[VX,Hw.cE]
 | find x=>
  simp only[WG,Ho];split
  ·rfl
  ·split<;>simp[Ki,VW]
 | put k x=>exact MK H t k x
 | back=>simp only[WG];split<;>simp[Bc,VW]
 | dG s a=>simp only[WG];split<;>simp[Hw.cE]
 | drain=>simp[WG,VW]
def wj (H:Hw)(t:Nat)(p:Ph):Prop:=vF H t p/\∀g,H.bR[t]?=some g->g.bQ.length<=900
def Q9 (H:Hw)(t:Nat)(p:Ph):Hw:=eY (WG H t p).1 t (WG H t p).2.1
theorem Nj (hso:G9)(h:HH U F L H)(hg:H.bR[t]?=some g){p:Ph}(hp:g.ph=some p)(hok:wj H t p){R:Bool->Int->Int->Int->Hp->Prop}
 (hR:∀σ' ts',Ext F U σ'->HH σ' (Grow F U) {L with ts:=ts'} (Q9 H t p)->R (WG H t p).2.1.isNone (WG H t p).2.2.1 (WG H t p).2.2.2 0 σ'):Zp.c (aW L.p) (t:Int) U R:=by
 refine Zp.o ?_;unfold Zp.v;have D:=(cY.1 hg).1;refine nw (cs:=[.int .i64 0,.int .i64 0]) λv V e A=>?_;have K1:=(HK.start h).box e V;obtain⟨x,g',Q,y⟩:=h.th D;rw[hg]at y;cases y;refine U5 K1.h (cD rfl (CN K1.h (t:Int) (cD (by rw[zI O];rfl) ?_)));refine bL (K1.h.hd.rS rfl (K1.h.tR Q hg ?_));rw[hp];refine⟨uY _,cD (by rw[x8];rfl) (bL (K1.h.hd.rS rfl (K1.h.tR Q hg ?_)))⟩;rw[hp];refine Ni hso K1.h D p hok.1 hok.2 λX M P W=>?_;have K9:=K1.to P W λb _ A=>A;have j:=K1.cZ P A (.inr rfl);refine nw (cs:=[.int .i64 0,.int .i64 0]) λY s z r=>?_;have K10:=K9.box z s;refine r.s1 aA λZ B C=>C.s1 aA λv12 w J=>?_;have K12:=(K10.own B (.inr rfl)).own w (.inr rfl);have u:U.size≠X.size:=by have:=(K9.b U.size (.inr rfl)).2;omega
 have d:=WE w (WE B (z.bV j id) u) u;have G:t<(WG H t p).1.bR.length:=by rw[EF];exact D
 obtain⟨x9,S,K,m⟩:=K12.h.th G;have E:Q9 H t p = {(WG H t p).1 with bR:=(WG H t p).1.bR.set t {S with ph:=(WG H t p).2.1}}:=ZQ m _;refine bL (K12.h.hd.rS rfl (K12.h.tv K m (WG H t p).2.1 λv13 i N=>?_));have K13:=K12.to i N λb _ A=>.inl A;have a:=K12.cZ i J (.inr rfl);rw[←E]at K13;refine⟨uY _,a.rI rfl (a.rI rfl ?_)⟩;refine gP (n:=U.size) K13 (.inl (.inr rfl)) (K12.cZ i d (.inl (.inr rfl))) λw' K'=>?_;rw[x8];exact hR w' M K'.e (K'.fin h)
theorem Bm {p:Nat->Prop}(h:∃n,p n):∃n,p n/\∀m,p m->n<=m:=by
 obtain⟨n,d⟩:=h
 induction n using Nat.strongRecOn with
 | _ n ih=>
  by_cases hm:∃m,m<n/\p m
  ·obtain⟨m,b,a⟩:=hm;exact ih m b a
  ·exact⟨n,d,λm a=>Nat.le_of_not_lt λb=>hm ⟨m,b,a⟩⟩
theorem By {start:eX []->Prop}{round:eX []->eX []}(Inv:Nat->Hp->Prop)(h0:start λh=>∃n,Inv n h)(hr:∀n h,Inv n h->∀J:Hp->Prop,(∀m h',m<n->Inv m h'->J h')->round J h):Yb [] start round:=by
 classical
 refine Ie (λh=>∃n,Inv n h) (λh=>if hx:∃n,Inv n h then(Bm hx).choose else 0) h0 λh b=>?_
 have d:=(Bm b).choose_spec;refine hr _ h d.1 _ λm h' g hi=>⟨⟨m,hi⟩,?_⟩;have a:∃n,Inv n h':=⟨m,hi⟩;rw[dif_pos a,dif_pos b];exact D9 ((Bm a).choose_spec.2 m hi) g
inductive iI:Nat->Hw->Nat->Ph->Hw->Int->Int->Prop
 | done {H:Hw} {t:Nat} {p:Ph}:wj H t p->(WG H t p).2.1=none->iI 1 H t p (Q9 H t p) (WG H t p).2.2.1 (WG H t p).2.2.2
 | next {n:Nat} {H:Hw} {t:Nat} {p p':Ph} {H':Hw} {a e:Int}:wj H t p->(WG H t p).2.1=some p'->iI n (Q9 H t p) t p' H' a e->iI (n+1) H t p H' a e
theorem EO {p:Ph}(ht:t<H.bR.length):∃g,(Q9 H t p).bR[t]?=some g/\g.ph=(WG H t p).2.1:=by
 have a:t<(WG H t p).1.bR.length:=by rw[EF];exact ht
 exact⟨{(WG H t p).1.bR[t]with ph:=(WG H t p).2.1},by simp[Q9,eY,Hw.eC,uK,cX a],rfl⟩
end Go.Ar
namespace Go.Ar
open Go Go.Vc Go.Proofs
open Go.Bu (fB)
variable {U:Hp}{F:Rg}
def He (size align:Int):Bool:=decide (1<=size)&&(decide (1<=align)&&(decide (align<=256)&&fB align))
def ia (tb:List cA)(size align:Int):Option Nat:=tb.findIdx? λc=>decide (size<=(c.size:Int))&&((c.size:Int)%align==0)
theorem MV (n:Int)(h1:1<=n)(h2:n<=256){R:aN}(hR:∀p:Int,(p != n) = !fB n->R p U):QJ.c n U R:=by
 refine QJ.o ?_;unfold QJ.v;refine UD (a:=bO) (bb:=bO) (λ(p q:Int) w=>w=U/\(p=0/\q=1\/∃k:Nat,k<=8/\p=((2^k:Nat):Int)/\q=((2^(k+1):Nat):Int)/\p<=n)) (λp q _=>1000-q.toNat) ⟨rfl,.inl ⟨rfl,rfl⟩⟩ ?_;rintro(p:Int) (q:Int) w ⟨rfl,hpq⟩;refine cP (λd=>?_) λg=>?_
 ·rcases hpq with⟨rfl,rfl⟩|⟨k,hk,rfl,rfl,hp⟩
  ·exact cT (m:=2) O O ⟨⟨rfl,.inr ⟨0,O,by simp,by simp,O⟩⟩,by simp⟩
  ·have r:k<=7:=by
    apply Classical.byContradiction;intro hc;have:2^9<=2^(k+1):=pZ aB O;omega
   have s:=kS (k+1);exact cT (m:=2^(k+1+1)) (by rw[mO 2 (k+1)];omega) (by rw[mO 2 (k+1)];omega) ⟨⟨rfl,.inr ⟨k+1,O,rfl,rfl,d⟩⟩,by rw[mO 2 (k+1)];omega⟩
 ·rcases hpq with⟨rfl,rfl⟩|⟨k,hk,rfl,rfl,hp⟩
  ·omega
  ·refine hR _ ?_;by_cases e:((2^k:Nat):Int)=n
   ·have:fB n=true:=by
     unfold fB;rw[zy];exact⟨k,zg.2 O,by simp[←e]⟩
    rw[this,e];simp
   ·have:fB n=false:=by
     unfold fB;rw[mr];intro j hj he;have b:n=((2^j:Nat):Int):=by simpa using he
     rcases qt j k with h3|h3|h3
     ·have:2^(j+1)<=2^k:=pZ aB h3;rw[mO]at this;have:=kS j;omega
     ·subst h3;exact e b.symm
     ·have:2^(k+1)<=2^j:=pZ aB h3;omega
    rw[this];simpa using e
theorem SZ {s:Sl}{xs:List (Int×Int×Int)}(ha:im U s xs)(hv:QU xs=true)(size align:Int){R:Int->Int->Hp->Prop}
 (hR:∀σ',aG U σ'->R (if He size align then((ia (xs.map QE) size align).getD 0:Nat)else 0) (if He size align then(if(ia (xs.map QE) size align).isSome then 0 else 4)else 1) σ'):QH.c s size align U R:=by
 refine QH.o ?_;unfold QH.v;refine nw (cs:=[.int .i64 size]) λv hz e hb=>nw (cs:=[.int .i64 align]) λv1 V e1 hb1=>?_;have Y:=e1.bV hb id;refine An (Qm ha (e.trans e1)) λu e2=>?_;rw[hv];have F:=e2.bV Y id;have y:=e2.bV hb1 id;have g:=(e.trans e1).trans e2;refine cD rfl ?_;have key:∀r,r = !He size align->(If r (R 0 1 u) (Ws.c s ⟨228,#[],#[.pointer (some ⟨U.size,0,none⟩),.pointer (some ⟨v.size,0,none⟩)]⟩ u λk v4=>If (decide (k<0)) (R 0 4 v4) (R k 0 v4))):=by
  intro r b;cases hok:He size align with
  | false=>
   rw[hok]at b;have:=hR u g;rw[hok]at this;exact cF (by rw[b];rfl) this
  | true=>
   rw[hok]at b;refine cD (by rw[b];rfl) ?_;have D:=hok;simp only[He,zF,zV]at D;refine Ws.o ?_;unfold Ws.v;have hlen:=ha.1;have hxl:=((QQ xs).1 hv).2.1;refine Qp (a:=bO) (λ(z:Int) w=>∃i:Nat,z=(i:Int)/\i<=xs.length/\aG u w/\∀j c,j<i->(xs.map QE)[j]?=some c->(decide (size<=(c.size:Int))&&((c.size:Int)%align==0))=false) (λz _=>xs.length-z.toNat) ⟨0,rfl,O,Ext.refl _ _,λj c h=>O⟩ ?_;rintro(z:Int) w ⟨i,rfl,hi,ew,hno⟩;refine cP (λhlt=>?_) λW=>?_
   ·have P:i<xs.length:=by omega
    have B:(xs.map QE)[i]?=some (QE xs[i]):=by simp[P]
    generalize QE xs[i]=c at B;have H:=Qm ha (g.trans ew);obtain⟨hx,hcok⟩:=HA H hv B;refine yY H hx ?_;refine G5 (all := #[.agg #[.int .i64 (c.size:Int),.int .i64 (c.aF:Int),.int .i64 (c.batch:Int)],.pointer (some ⟨U.size,0,none⟩),.pointer (some ⟨v.size,0,none⟩)]) (by kernel_rfl) aA ?_;refine Z9.o ?_;unfold Z9.v;refine nw (cs:=[.int .i64 (c.size:Int),.int .i64 (c.aF:Int),.int .i64 (c.batch:Int)]) λG V e1 K=>?_;have Z:=e1.bV (ew.bV F id) id;have hs2:=e1.bV (ew.bV y id) id;have C:=ew.trans e1;have go:∀r,r=(decide (size<=(c.size:Int))&&((c.size:Int)%align==0))->If r (If (decide ((i:Int)<0)) (R 0 4 G) (R (i:Int) 0 G)) (Ar .i64 ((i:Int)+1) λL=>(∃i:Nat,L=(i:Int)/\i<=xs.length/\aG u G/\∀j c,j<i->(xs.map QE)[j]?=some c->(decide (size<=(c.size:Int))&&((c.size:Int)%align==0))=false)/\xs.length-L.toNat<xs.length-(i:Int).toNat):=by
     intro r b;refine cN (λM=>gg O ?_) λh0=>?_
     ·have Q:ia (xs.map QE) size align=some i:=by
       obtain⟨X,rfl⟩:=cY.1 B;exact nE.2 ⟨X,by rw[←b];exact M,λj E=>by rw[hno j _ E (cX O)];simp⟩
      have:=hR G (g.trans C);rw[hok,Q]at this;exact this
     ·exact cT (m:=i+1) O O ⟨⟨i+1,rfl,O,C,λj d E hd=>by
       by_cases e:j=i
       ·subst e;rw[B]at hd;cases hd;rw[←b];exact h0
       ·exact hno j d O hd⟩,O⟩
    refine K.rI rfl (Z.uj rfl ?_);refine Kd (λr w=>w=G/\r=(decide (size<=(c.size:Int))&&((c.size:Int)%align==0))) (λr w ⟨N,b⟩=>by subst N;exact go r b) λJ A=>?_;refine cP (λW=>K.rI rfl (hs2.uj rfl (nz O (A _ _ ⟨rfl,?_⟩)))) λhlt2=>A _ _ ⟨rfl,?_⟩
    ·rw[Kg O,zI (by omega:size<=(c.size:Int)),qU]
    ·rw[zJ O,vN]
   ·have Q:ia (xs.map QE) size align=none:=by
     unfold ia;rw[vC];intro c B;obtain⟨j,E⟩:=zP B;have:=(cY.1 E).1;simp at this;exact hno j c O E
    have:=hR w (g.trans ew);rw[hok,Q]at this;exact lR aB this
 refine yo (λr w=>w=u/\r = !He size align) (λr w ⟨N,b⟩=>by subst N;exact key r b) λJ A=>?_;have S:∀m,m=u->cell m ⟨U.size,0,none⟩=some (.int .i64 size):=λm hm=>by rw[hm,F.cell];rfl
 have x:∀m,m=u->cell m ⟨v.size,0,none⟩=some (.int .i64 align):=λm hm=>by rw[hm,y.cell];rfl
 refine⟨λm=>m=u,rfl,⟨size,S,?_⟩⟩;refine cP (λM=>A _ _ ⟨rfl,?_⟩) λM=>⟨align,x,cP (λh2=>A _ _ ⟨rfl,?_⟩) λh2=>⟨align,x,cP (λh3=>A _ _ ⟨rfl,?_⟩) λh3=>⟨align,x,⟨align,x,?_⟩⟩⟩⟩
 ·simp only[He,zJ (by omega:¬1<=size),vN,wL]
 ·simp only[He,zJ (by omega:¬1<=align),vN,uG,wL]
 ·simp only[He,zJ (by omega:¬align<=256),vN,uG,wL]
 ·refine MV align O O λp hp=>⟨rfl,A _ _ ⟨rfl,?_⟩⟩;rw[hp];simp only[He,zI (by omega:1<=size),zI (by omega:1<=align),zI (by omega:align<=256),qU]
end Go.Ar
namespace Go.Ar
open Go Go.Vc Go.Proofs
variable {U u u':Hp}{F B P Q:Rg}{L:dE}{H H':Hw}{t k n pb:Nat}{A:AR}{Y:Lay}{x:eR}{g:Th}{c:cA}{l:Li}{cs:List Value}
def m4 (c:cA):Int×Int×Int:=((c.size:Int),(c.aF:Int),(c.batch:Int))
theorem TI (tb:List cA):(tb.map m4).map QE=tb:=by
 rw[lK]
 conv=>rhs;rw[←vR tb]
 apply kh;intro c _;rfl
theorem Po {s:Sl}{tb:List cA}(h:cV s 3 (gJ tb) U F):im U s (tb.map m4):=by
 have D:=h.1;rw[Uq]at D;refine⟨by simp;omega,λi x y z j=>?_⟩;rw[za,od]at j;obtain⟨c,p,m⟩:=j;obtain⟨B,C,u⟩:=yC p;simp only[m4,Prod.mk.injEq]at m;obtain⟨rfl,rfl,rfl⟩:=m;obtain⟨b,o,d,g⟩:=h.cell B;obtain⟨E,A,a,w⟩:=h.cell C;rw[d]at a;cases a;obtain⟨E,A,a,r⟩:=h.cell u;rw[d]at a;cases a;exact⟨b,o,d,KO g,by rw[show o+i*3=o+3*i by omega];exact g,by rw[show o+i*3+1=o+(3*i+1) by omega];exact w,by rw[show o+i*3+2=o+(3*i+2) by omega];exact r⟩
def mU (tb:List cA):Prop:=QU (tb.map m4)=true
def iT (tb:List cA)(kind size align addr:Int):Option Ph:=
 if kind=0 then(if 1<=size/\size<=16384 then(if He size align then(match ia tb size align with
  | some k=>some (.take k)
  | none=>some (.eP ((size+255).toNat/256)))else none)else none)
 else if kind=1 then some (.find addr)else if kind=2 then some .drain else none
theorem Nt (h:HH U F L H)(hv:mU H.tb)(kind size align addr:Int){R:Value->Hp->Prop}(hR:∀σ',aG U σ'->R (nh (iT H.tb kind size align addr)) σ'):YF.c (aW L.p) kind size align addr U R:=by
 refine YF.o ?_;unfold YF.v;refine nw (cs:=[.int .i64 kind,.int .i64 size,.int .i64 align,.int .i64 addr]) λv M e u=>u.rI rfl ?_;have C:=h.bP e;have a:=hR v e;refine cN (λA=>?_) λA=>?_
 ·have i:kind=0:=by simpa using A
  have D:iT H.tb kind size align addr=(if 1<=size/\size<=16384 then(if He size align then(match ia H.tb size align with
   | some k=>some (.take k)
   | none=>some (.eP ((size+255).toNat/256)))else none)else none):=by unfold iT;rw[zC i]
  rw[D]at hR a;refine u.rI rfl (Kd (λr w=>w=v/\r = !decide (1<=size/\size<=16384)) (λr w ⟨G,y⟩=>?_) λJ B=>?_)
  ·subst G;by_cases hs:1<=size/\size<=16384
   ·rw[zC hs]at hR;rw[zI hs]at y;refine cD (by rw[y];rfl) ⟨λm=>m=w,rfl,bL ⟨L.dF,λm x=>by rw[x,add_lit,C.hd.cell];rfl,⟨size,λm x=>by rw[x,add_lit,u.cell];rfl,⟨align,λm x=>by rw[x,add_lit,u.cell];rfl,?_⟩⟩⟩⟩;refine SZ (Po C.jP) hv size align λK e2=>?_;rw[TI];have z:=e2.bV u id;have b:=hR K (e.trans e2);cases hok:He size align with
    | false=>
     rw[hok]at b;exact cD rfl (cD rfl b)
    | true=>
     rw[hok]at b;simp only[zU]at b ⊢;cases hcl:ia H.tb size align with
     | some k=>rw[hcl]at b;exact cF rfl b
     | none=>
      rw[hcl]at b;refine cD rfl (cF rfl (z.rI rfl (ar O O (ar O O (nz aB (ar (by rw[YO O];omega) (by rw[YO O];omega) ?_))))));rw[YO O];have:(size+256-1)/256=(((size+255).toNat/256:Nat):Int):=by omega
      rw[this];exact b
   ·rw[zB hs]at a;rw[zJ hs]at y;exact cF (by rw[y];rfl) a
  ·refine cP (λE=>B _ _ ⟨rfl,?_⟩) λE=>u.rI rfl (B _ _ ⟨rfl,?_⟩)
   ·rw[zJ O];rfl
   ·by_cases h2:size>16384
    ·rw[zI h2,zJ O];rfl
    ·rw[zJ h2,zI O];rfl
 ·have i:kind≠0:=by simpa using A
  refine cN (λj=>u.rI rfl ?_) λj=>?_
  ·have d:kind=1:=by simpa using j
   unfold iT at a;rw[zB i,zC d]at a;exact a
  ·have d:kind≠1:=by simpa using j
   refine cN (λs=>?_) λs=>?_
   ·have g:kind=2:=by simpa using s
    unfold iT at a;rw[zB i,zB d,zC g]at a;exact a
   ·have g:kind≠2:=by simpa using s
    unfold iT at a;rw[zB i,zB d,zB g]at a;exact a
def KY (H:Hw)(thread kind size align addr:Int):Int ⊕ (Nat×Ph):=
 if 0<=thread/\thread<(H.bR.length:Int)then(match H.bR[thread.toNat]? with
  | some g=>(if g.ph=none then(match iT H.tb kind size align addr with
   | some p=>.inr (thread.toNat,p)
   | none=>.inl 1)else .inl 5)
  | none=>.inl 1)else .inl 1
theorem Ps (h:HH U F L H)(hv:mU H.tb)(thread kind size align addr:Int){R:aN}(h0:∀e,KY H thread kind size align addr=.inl e->e≠0->∀σ',Ext F U σ'->HH σ' (Grow F U) L H->R e σ')
 (h1:∀t p,KY H thread kind size align addr=.inr (t,p)->thread=(t:Int)->t<H.bR.length->∀σ',Ext F U σ'->HH σ' (Grow F U) L (eY H t (some p))->R 0 σ'):Zk.c (aW L.p) thread kind size align addr U R:=by
 refine Zk.o ?_;unfold Zk.v;refine nw (cs:=[.int .i64 kind,.int .i64 size,.int .i64 align,.int .i64 addr]) λv y e d=>?_;have K1:=(HK.start h).box e y;refine U5 K1.h (cD rfl (CN K1.h thread ?_));by_cases hth:0<=thread/\thread<(H.bR.length:Int)
 ·obtain⟨t,rfl⟩:∃t:Nat,thread=(t:Int):=⟨thread.toNat,O⟩;have m:t<H.bR.length:=by omega
  obtain⟨x,g,j,i⟩:=h.th m;have a:KY H (t:Int) kind size align addr=(if g.ph=none then(match iT H.tb kind size align addr with
   | some p=>.inr (t,p)
   | none=>.inl 1)else .inl 5):=by
   unfold KY;rw[zC hth,dH,i]
  refine cD (by rw[zI hth];rfl) (bL (K1.h.hd.rS rfl (K1.h.tR j i ⟨uY _,?_⟩)));cases hp:g.ph with
  | some p=>
   rw[hp,zB aA]at a;exact cF (by rw[x8];rfl) (h0 5 a aB v K1.e (K1.fin h))
  | none=>
   rw[hp,zC rfl]at a;refine cD rfl (d.rI rfl (d.rI rfl (d.rI rfl (d.rI rfl (Nt K1.h hv kind size align addr λv3 z=>⟨uY _,?_⟩)))));have K3:=K1.fr z;rw[x8];cases hq:iT H.tb kind size align addr with
   | none=>
    rw[hq]at a;exact cF rfl (h0 1 a aB v3 K3.e (K3.fin h))
   | some p=>
    rw[hq]at a;refine cD rfl (bL (K3.h.hd.rS rfl (K3.h.tv j i (some p) λu s w=>?_)));have K4:=K3.to s w λb _ d=>.inl d;have r:eY H t (some p) = {H with bR:=H.bR.set t {g with ph:=some p}}:=ZQ i _;rw[←r]at K4;exact h1 t p a rfl m u K4.e (K4.fin h)
 ·have a:KY H thread kind size align addr=.inl 1:=by unfold KY;rw[zB hth]
  exact cF (by rw[zJ hth];rfl) (h0 1 a aB v K1.e (K1.fin h))
theorem Na {p:Option Ph}(ht:t<H.bR.length):∃g,(eY H t p).bR[t]?=some g/\g.ph=p:=
 ⟨{H.bR[t]with ph:=p},by simp[eY,Hw.eC,uK,cX ht],rfl⟩
theorem I8 (hso:G9)(h:HH U F L H)(hv:mU H.tb)(thread kind size align addr:Int){R:Int->Int->Hp->Prop}(h0:∀e,KY H thread kind size align addr=.inl e->e≠0->∀σ',Ext F U σ'->HH σ' (Grow F U) L H->R 0 e σ')
 (h1:∀t p,KY H thread kind size align addr=.inr (t,p)->∃n H' a e,iI n (eY H t (some p)) t p H' a e/\∀σ' ts',Ext F U σ'->HH σ' (Grow F U) {L with ts:=ts'} H'->R a e σ'):Yp.c (aW L.p) thread kind size align addr U R:=by
 refine Yp.o ?_;unfold Yp.v;refine nw (cs:=[.int .i64 kind,.int .i64 size,.int .i64 align,.int .i64 addr]) λv hz e i=>i.rI rfl (i.rI rfl (i.rI rfl (i.rI rfl ?_)));have K1:=(HK.start h).box e hz;refine Ps K1.h hv thread kind size align addr (λz he A v1 e1 u=>?_) λt p af ac ht v1 e1 u=>?_
 ·have K2:=K1.to e1 u λb _ i=>i;exact cF (by simpa using A) (h0 z he A v1 K2.e (K2.fin h))
 ·subst ac;have K2:=K1.to e1 u λb _ i=>i;obtain⟨n,Hf,a,z,d,x⟩:=h1 t p af;refine cD rfl (By (λn w=>∃(B P:Rg) (ts:List eR) (H:Hw) (p:Ph),HK F U B w P {L with ts:=ts} H/\(∃g,H.bR[t]?=some g/\g.ph=some p)/\iI n H t p Hf a z) ⟨n,_,_,L.ts,_,p,K2,Na ht,d⟩ ?_);rintro n w ⟨B,P,ts,H2,r,K,⟨g,hg,S⟩,d⟩ J hJ;have go:wj H2 t r->((WG H2 t r).2.1.isNone=true->(WG H2 t r).2.2.1=a/\(WG H2 t r).2.2.2=z/\Q9 H2 t r=Hf)->((WG H2 t r).2.1.isNone=false->∃m M,m<n/\(WG H2 t r).2.1=some M/\iI m (Q9 H2 t r) t M Hf a z)->Zp.c (aW L.p) (t:Int) w λaa G y ah v3=>Nw (.cells #[.int .i64 0,.int .i64 0] 137 (0,0)) v3 λj v4=>dZ (j.add 0) (.int .i64 G) v4 λv5=>dZ (j.add 1) (.int .i64 y) v5 λs=>If aa (gN .i64 (j.add 0) s λX=>gN .i64 (j.add 1) s λad=>R X ad s) (J s):=by
   intro hok hd hn;refine Nj hso K.h hg S hok λv3 E e3 V=>?_;have K3:=K.to e3 V λb _ i=>i;refine nw (cs:=[.int .i64 0,.int .i64 0]) λv4 ab e4 N=>?_;have K4:=K3.box e4 ab;refine N.s1 aA λv5 o5 b5=>b5.s1 aA λs o6 b6=>?_;have K6:=(K4.own o5 (.inr rfl)).own o6 (.inr rfl);refine cN (λag=>?_) λY=>?_
   ·obtain⟨q1,q2,q3⟩:=hd ag;rw[q3]at K6;refine b6.rI rfl (b6.rI rfl ?_);rw[q1,q2];exact x s E K6.e (K6.fin h)
   ·obtain⟨m,M,hm,Q,ae⟩:=hn Y;have W:t<H2.bR.length:=(cY.1 hg).1;obtain⟨g',Z,D⟩:=EO (p:=r) W;exact hJ m s hm ⟨_,_,E,_,M,K6,⟨g',Z,by rw[D,Q]⟩,ae⟩
  cases d with
  | done hok hnone=>exact go hok (λ_=>⟨rfl,rfl,rfl⟩) λC=>by rw[hnone]at C;cases C
  | next hok hsome hrun'=>exact go hok (λC=>by rw[hsome]at C;cases C) λ_=>⟨_,_,Nat.lt_succ_self _,hsome,hrun'⟩
end Go.Ar
namespace Go.Ar
open Go Go.Vc Go.Proofs
variable {U u w w':Hp}{F B P Q:Rg}{n:Nat}{cs:List Value}{tb:List cA}{cf:Cf}
def Uv (tb:List cA)(cf:Cf):Hw:=⟨tb,cf,VY cf.aF,List.replicate cf.ij (fG cf.aF cf.room tb),List.replicate cf.threads ⟨List.replicate tb.length iq,[],none⟩,[]⟩
def sS (p a t b r:Int):Bool:=decide (32<=p)&&decide (p<=1024)&&(p%16==0)&&decide (1<=a)&&decide (a<=4)&&decide (1<=t)&&decide (t<=4)&&decide (0<=b)&&decide (b<=65536)&&decide (0<=r)&&decide (r<=8)
theorem lvl {K:aO}{r:Bool}{a:Addr}{x:Int}{k:IntKind}{f:Int->Bool}(hl:∀{K':Int->Prop},K' x->gN k a w K')(h:K (r&&f x) w):bX K λJ=>If r (gN k a w λt=>J (f t) w) (J false w):=
 bX.intro (cN (λb=>hl (by rw[b]at h;exact h)) λb=>by rw[b]at h;exact h)
theorem Tl (p a t b r:Int){R:aO}(hR:∀σ',aG U σ'->R (sS p a t b r) σ'):Q1.c p a t b r U R:=by
 refine Q1.o ?_;unfold Q1.v;refine nw (cs:=[.int .i64 p,.int .i64 a,.int .i64 t,.int .i64 b,.int .i64 r]) λv A e g=>g.rI rfl ?_;have i:=hR v e;unfold sS at i;refine Kd (λm w=>w=v/\m=(decide (32<=p)&&decide (p<=1024))) (λm w ⟨x,u⟩=>?_) λJ j=>?_
 ·subst x;subst u;refine Kd (λm z=>z=w/\m=(decide (32<=p)&&decide (p<=1024)&&(p%16==0))) (λm z ⟨x,u⟩=>?_) λJ j=>?_
  ·rw[x];subst u;exact lvl (λd=>g.rI rfl d) (lvl (λd=>g.rI rfl d) (lvl (λd=>g.rI rfl d) (lvl (λd=>g.rI rfl d) (lvl (λd=>g.rI rfl d) (lvl (λd=>g.rI rfl d) (lvl (λd=>g.rI rfl d) (lvl (λd=>g.rI rfl d) i)))))))
  ·refine cN (λs=>g.rI rfl (nz aB (j _ _ ⟨rfl,?_⟩))) λy=>j _ _ ⟨rfl,?_⟩
   ·simp only[zF,zV]at s;rw[Kg O,zI s.1,zI s.2];rfl
   ·rw[y];rfl
 ·refine cP (λs=>g.rI rfl (j _ _ ⟨rfl,?_⟩)) λy=>j _ _ ⟨rfl,?_⟩
  ·rw[zI (by omega:32<=p)];rfl
  ·rw[zJ O];rfl
structure oH where
 p:Nat
 dF:Sl
 lm:Nat
 hs:Option Nat
 hp:Option Nat
 aw:Sl
 al:List Nat
 ha:Sl
 tw:Sl
 tl:List Value
 ht:Sl
 ys:List Lay
 cs:List ib
def qO (cf:Cf)(N:oH):List Value:=[.slice N.dF.a N.dF.len N.dF.cap,.int .i64 (cf.aF:Int),.int .i64 (cf.ij:Int),.int .i64 (cf.threads:Int),.int .i64 (cf.dD:Int),.int .i64 (cf.room:Int),
 .pointer (N.hp.map λq=>⟨q,0,none⟩),.slice N.ha.a N.ha.len N.ha.cap,.slice N.ht.a N.ht.len N.ht.cap,.map (some N.lm)]
def sP (n room:Nat)(tb:List cA)(y:Option Lay):Hp->Rg->Prop:=λU F=>match y with
 | some Y=>dJ U F Y (fG n room tb) (cM (fG n room tb) Y)
 | none=>True
def sK (tb:List cA)(bud:Nat)(y:Option ib):Hp->Rg->Prop:=λU F=>match y with
 | some Y=>eJ U F Y tb bud (List.replicate tb.length iq)
 | none=>True
def yS (n:Nat)(q:Option Nat):Hp->Rg->Prop:=λU F=>match q with
 | some q=>dO U F q (VY n)
 | none=>True
def iZ (tb:List cA)(cf:Cf)(N:oH):kY->Hp->Rg->Prop
 | .hd=>iD N.p (qO cf N)
 | .dF=>cV N.dF 3 (gJ tb)
 | .sp=>yS cf.aF N.hs
 | .fT=>bS N.aw 1 (fR N.al)
 | .cS=>bS N.tw 3 N.tl
 | .live=>jL N.lm .i64 (.ag 4) []
 | .ar k=>sP cf.aF cf.room tb N.ys[k]?
 | .ca k=>sK tb cf.dD N.cs[k]?
 | .hn _=>λ_ _=>True
theorem sP.loc (n room:Nat)(tb:List cA)(y:Option Lay):dN (sP n room tb y):=by
 intro U σ' F G h hz hs;cases y with
 | some Y=>exact dJ.loc _ _ _ _ h hz hs
 | none=>trivial
theorem sK.loc (tb:List cA)(bud:Nat)(y:Option ib):dN (sK tb bud y):=by
 intro U σ' F G h hz hs;cases y with
 | some Y=>exact eJ.loc _ _ _ _ h hz hs
 | none=>trivial
theorem yS.loc (n:Nat)(q:Option Nat):dN (yS n q):=by
 intro U σ' F G h hz hs;cases q with
 | some q=>exact dO.loc _ _ _ _ h hz hs
 | none=>trivial
theorem iZ.loc {N:oH}:∀i,dN (iZ tb cf N i)
 | .hd=>iD.loc _ _
 | .dF=>cV.loc _ _ _
 | .sp=>yS.loc _ _
 | .fT=>bS.loc _ _ _
 | .cS=>bS.loc _ _ _
 | .live=>jL.loc _ _ _ _
 | .ar k=>sP.loc _ _ _ _
 | .ca k=>sK.loc _ _ _
 | .hn _=>λ_ _ _ _ _ _ _=>trivial
structure NK (U:Hp) (B:Rg) (w:Hp) (P:Rg) (tb:List cA) (cf:Cf) (N:oH):Prop where
 sep:Sep (iZ tb cf N) w P
 e:aG U w
 p:∀b,P b->U.size<=b/\¬B b/\b<w.size
 b:∀b,B b->U.size<=b/\b<w.size
variable {N N':oH}
theorem NK.fr (K:NK U B w P tb cf N)(e:aG w w'):NK U B w' P tb cf N:=
 ⟨(Sep.loc iZ.loc).bP K.sep e,K.e.trans e,λb a=>⟨(K.p b a).1,(K.p b a).2.1,by have:=(K.p b a).2.2;have:=e.1;omega⟩,λb a=>by have:=K.b b a;have:=e.1;omega⟩
theorem NK.box (K:NK U B w P tb cf N)(e:aG w w')(hz:w'.size=w.size+1):NK U (λb=>B b\/b=w.size) w' P tb cf N:=by
 have h:=K.fr e;have i:=K.e.1;exact⟨h.sep,h.e,λb a=>⟨(K.p b a).1,λd=>d.elim (K.p b a).2.1 λg=>by have:=(K.p b a).2.2;omega,(h.p b a).2.2⟩,λb a=>a.elim (h.b b) λg=>O⟩
theorem NK.drop (K:NK U B w P tb cf N){B':Rg}(hb:∀b,B' b->B b):NK U B' w P tb cf N:=⟨K.sep,K.e,λb h=>⟨(K.p b h).1,λa=>(K.p b h).2.1 (hb b a),(K.p b h).2.2⟩,λb h=>K.b b (hb b h)⟩
theorem NK.put (K:NK U B w P tb cf N)(e:aG w w')(i:kY)(hj:∀j,j≠i->iZ tb cf N' j=iZ tb cf N j)(hi:iZ tb cf N' i w' (λb=>w.size<=b)):NK U B w' (λb=>P b\/w.size<=b/\b<w'.size) tb cf N':=by
 have h:=K.fr e;have m:=K.e.1;refine⟨h.sep.put iZ.loc i (G:=λb=>w.size<=b/\b<w'.size) (λb a g=>by have:=(K.p b g).2.2;omega) hj ((iZ.loc i).mono hi λb a d=>⟨d,a⟩) (iZ.loc i),h.e,λb a=>?_,h.b⟩;rcases a with a|a
 ·exact h.p b a
 ·exact⟨O,λd=>by have:=(K.b b d).2;omega,a.2⟩
theorem NK.step (K:NK U B w P tb cf N)(i:kY):∃G:Rg,(∀b,G b->P b)/\iZ tb cf N i w G/\∀(w':Hp) (N':oH) (G':Rg),(∀j,j≠i->iZ tb cf N' j=iZ tb cf N j)->Ext G w w'->(∀b,G' b->G b\/w.size<=b/\¬B b)->iZ tb cf N' i w' G'->(∀b,B b->b<w'.size) →
 NK U B w' (λb=>(P b/\¬G b\/G' b)/\b<w'.size) tb cf N':=by
 obtain⟨G,m,hi,_,g⟩:=K.sep.j3 iZ.loc i;refine⟨G,m,hi,λw' N' G' x e r u s=>⟨?_,?_,λb a=>?_,λb a=>⟨(K.b b a).1,s b a⟩⟩⟩
 ·have:=g w' (iZ tb cf N') G' x e (λb a=>(r b a).imp id λd=>d.1) u (iZ.loc _);refine(Sep.loc iZ.loc).mono this λb a d=>⟨?_,a⟩;exact d.imp (λd=>⟨d.1,d.2.2⟩) id
 ·exact Ext.dW K.e e λb a=>.inr (K.p b (m b a)).1
 ·have y:=K.e.1;rcases a.1 with h1|h1
  ·exact⟨(K.p b h1.1).1,(K.p b h1.1).2.1,a.2⟩
  ·rcases r b h1 with h2|h2
   ·exact⟨(K.p b (m b h2)).1,(K.p b (m b h2)).2.1,a.2⟩
   ·exact⟨O,h2.2,a.2⟩
theorem DI {K:eX [.p]}{body:eX [.p]->Prop}(P:Option Addr->Hp->Prop)(h1:∀r w,P r w->K r w)(h2:∀J:eX [.p],(∀r w,P r w->J r w)->body J):Jn [.p] K body:=Jn.intro (h2 K h1)
def gR:Sl:=⟨none,0,0⟩
def qv (cs:List ib):List Value:=cs.flatMap λc=>[.pointer (some ⟨c.p,0,none⟩),.slice none 0 0,.nilIface]
def N0 (p:Nat)(dF:Sl)(lm:Nat):oH:=⟨p,dF,lm,none,none,gR,[],gR,gR,[],gR,[],[]⟩
def NB (p:Nat)(dF:Sl)(lm q:Nat)(aw:Sl)(ys:List Lay)(tw:Sl)(cs:List ib):oH:=⟨p,dF,lm,some q,some q,aw,ys.map (·.p),aw,tw,qv cs,tw,ys,cs⟩
theorem Fl {p lm:Nat}{dF:Sl}{D:Rg}(e:aG U w)(hz:U.size<w.size)(hp:bZ w p (qO cf (N0 p dF lm)))(hm:dK w lm .i64 (.ag 4) [])(ht:cV dF 3 (gJ tb) w D)(hD:∀b,D b->U.size<b/\b<w.size/\b≠p/\b≠lm)(hpl:p≠lm)(h1:U.size<p)(h2:U.size<lm) :
 NK U (· = U.size) w (λb=>D b\/b=p\/b=lm) tb cf (N0 p dF lm):=by
 have g:=hp.lt;have d:=hm.lt;refine⟨⟨λb=>if b=p then .hd else if b=lm then .live else .dF,λi=>?_⟩,e,λb a=>?_,λb a=>O⟩
 ·cases i with
  | hd=>exact⟨⟨.inr (.inl rfl),zC rfl⟩,hp⟩
  | live=>exact⟨⟨.inr (.inr rfl),by show(if lm=p then kY.hd else if lm=lm then kY.live else kY.dF)=.live;rw[zB (Ne.symm hpl),zC rfl]⟩,hm⟩
  | dF=>exact aH.mono ht λb _ a=>⟨.inl a,by show(if b=p then kY.hd else if b=lm then kY.live else kY.dF)=.dF;rw[zB (hD b a).2.2.1,zB (hD b a).2.2.2]⟩
  | sp=>trivial
  | fT=>exact bS.nil _ _ _ _
  | cS=>exact bS.nil _ _ _ _
  | ar k=>trivial
  | ca k=>trivial
  | hn k=>trivial
 ·rcases a with a|a|a
  ·have:=hD b a;omega
  ·omega
  ·omega
theorem NK.AO (K:NK U B w P tb cf N):P N.p/\bZ w N.p (qO cf N):=by
 obtain⟨G,b,a⟩:=K.sep.get .hd;exact⟨b _ a.1,a.2⟩
theorem NK.rh (K:NK U B w P tb cf N)(N':oH)(hN':∀j,j≠.hd->iZ tb cf N' j=iZ tb cf N j)(hp:N'.p=N.p){i:Nat}{v:Value}(hs:(qO cf N).set i v=qO cf N')(hi:i<10){Kk:aP}(hK:∀w' P',NK U B w' P' tb cf N'->Q3 w w' N.p->Kk w'):dZ (Addr.add ⟨N.p,0,none⟩ i) v w Kk:=by
 obtain⟨G,r,d,a⟩:=K.step .hd;have d:iD N.p (qO cf N) w G:=d;refine d.2.s1 (by simpa[qO]using hi) λw' o m=>hK w' _ (a w' N' G hN' (o.ext.sub λx g=>by rw[g];exact d.1) (λx g=>.inl g) ?_ λx g=>by have:=(K.b x g).2;have:=o.1;omega) o;show iD N'.p (qO cf N') w' G;rw[zH,hs]at m;rw[hp];exact⟨d.1,m⟩
theorem SY {Y:Lay}(h:N'.ys=N.ys++[Y])(hr:∀j,(∀k,j≠.ar k)->iZ tb cf N' j=iZ tb cf N j):∀j,j≠kY.ar N.ys.length->iZ tb cf N' j=iZ tb cf N j:=by
 intro j hj;cases j with
 | ar k=>
  have a:k≠N.ys.length:=λe=>hj (by rw[e]);show sP _ _ _ N'.ys[k]?=sP _ _ _ N.ys[k]?;rw[h]
  congr 1
  rcases Nat.lt_or_gt_of_ne a with h1|h1
  ·rw[zd h1]
  ·rw[zX aE,zX O]
 | _=>exact hr _ (λk e=>by cases e)
theorem PY {Y:ib}(h:N'.cs=N.cs++[Y])(hr:∀j,(∀k,j≠.ca k)->iZ tb cf N' j=iZ tb cf N j):∀j,j≠kY.ca N.cs.length->iZ tb cf N' j=iZ tb cf N j:=by
 intro j hj;cases j with
 | ca k=>
  have a:k≠N.cs.length:=λe=>hj (by rw[e]);show sK _ _ N'.cs[k]?=sK _ _ N.cs[k]?;rw[h]
  congr 1
  rcases Nat.lt_or_gt_of_ne a with h1|h1
  ·rw[zd h1]
  ·rw[zX aE,zX O]
 | _=>exact hr _ (λk e=>by cases e)
end Go.Ar
namespace Go.Ar
open Go Go.Vc Go.Proofs
variable {U u w w':Hp}{F B P Q:Rg}{n:Nat}{cs:List Value}{tb:List cA}{cf:Cf}{N:oH}
theorem Lq (p a t b r:Int):sS p a t b r=true↔(32<=p/\p<=1024/\p%16=0)/\(1<=a/\a<=4)/\(1<=t/\t<=4)/\(0<=b/\b<=65536)/\0<=r/\r<=8:=by
 simp only[sS,zF,zV,zT];omega
theorem Cm (g:Gl U)(gd:Gd U):jf (λb=>U.size<=b)/\¬(U.size<=1):=by
 refine⟨?_,λh=>by have:=DH gd;omega⟩;have d:jf (λ_=>False):=λb a=>a.elim;exact(d.grow g).sub λb a=>.inr a
theorem Mw (cs:List ib)(ls:List Li):gW (cs.map λc=>⟨c,gR⟩) (List.replicate cs.length ⟨ls,[],none⟩)=qv cs:=by
 induction cs with
 | nil=>rfl
 | cons c cs ih=>
  have e1:gW ((c::cs).map λc=>(⟨c,gR⟩:eR)) (List.replicate (c::cs).length ⟨ls,[],none⟩)=jC (⟨c,gR⟩,⟨ls,[],none⟩)++gW (cs.map λc=>(⟨c,gR⟩:eR)) (List.replicate cs.length ⟨ls,[],none⟩):=rfl;rw[e1,ih];rfl
theorem Oz (cs:List ib):(qv cs).length=cs.length*3:=by
 induction cs with
 | nil=>rfl
 | cons c cs ih=>simp only[qv,pE,zK,zS,k9]at *;omega
set_option maxRecDepth 8000 in
theorem CI {s:Sl}{xs:List (Int×Int×Int)}(ha:im U s xs)(g:Gl U)(gd:Gd U)(p a t b r:Int){R:Option Addr->Int->Hp->Prop}
 (h2:QU xs=false->∀σ',aG U σ'->R none 2 σ')
 (h1:QU xs=true->sS p a t b r=false->∀σ',aG U σ'->R none 1 σ')
 (h0:QU xs=true->sS p a t b r=true->∀σ' L,aG U σ'->HH σ' (λq=>U.size<=q) L (Uv (xs.map QE) ⟨p.toNat,a.toNat,t.toNat,b.toNat,r.toNat⟩)->R (some ⟨L.p,0,none⟩) 0 σ') :
 Vg.c s p a t b r U R:=by
 refine Vg.o ?_;unfold Vg.v;refine nw (cs:=[.int .i64 p,.int .i64 a,.int .i64 t,.int .i64 b,.int .i64 r]) λv hz e y=>?_;refine An (Qm ha e) λv1 e1=>?_;cases hv:QU xs with
 | false=>exact cF rfl (h2 hv v1 (e.trans e1))
 | true=>
 have ab:=e1.bV y id;refine cD rfl (ab.rI rfl (ab.rI rfl (ab.rI rfl (ab.rI rfl (ab.rI rfl (Tl p a t b r λv2 e2=>?_))))));have V:=(e.trans e1).trans e2;cases hc:sS p a t b r with
 | false=>exact cF rfl (h1 hv hc v2 V)
 | true=>
 have hcf:=(Lq p a t b r).1 hc;obtain⟨p,rfl⟩:∃n:Nat,p=(n:Int):=⟨p.toNat,O⟩;obtain⟨a,rfl⟩:∃n:Nat,a=(n:Int):=⟨a.toNat,O⟩;obtain⟨t,rfl⟩:∃n:Nat,t=(n:Int):=⟨t.toNat,O⟩;obtain⟨b,rfl⟩:∃n:Nat,b=(n:Int):=⟨b.toNat,O⟩;obtain⟨r,rfl⟩:∃n:Nat,r=(n:Int):=⟨r.toNat,O⟩;simp only[dH]at h0;have h0:=h0 hv hc;have A:=e2.bV ab id;have hxl:=(QQ xs).1 hv;have hz2:=V.1;have hz02:U.size<v2.size:=A.lt;generalize hcfd:(⟨p,a,t,b,r⟩:Cf)=cf at h0;generalize htbd:xs.map QE=tb at h0;have hdE:∀(q:Nat) (dF:Sl) (C:Nat),qO cf (N0 q dF C)=[.slice dF.a dF.len dF.cap,.int .i64 (p:Int),.int .i64 (a:Int),.int .i64 (t:Int),.int .i64 (b:Int),.int .i64 (r:Int),.pointer none,.slice none 0 0,.slice none 0 0,.map (some C)]:=λq dF C=>by rw[←hcfd];rfl
 refine cD rfl (DI (λvh w=>∃P q dF C,vh=some ⟨q,0,none⟩/\NK U (· = U.size) w P tb cf (N0 q dF C)/\bZ w U.size [.int .i64 (p:Int),.int .i64 (a:Int),.int .i64 (t:Int),.int .i64 (b:Int),.int .i64 (r:Int)]) (λvh w ⟨P,q,dF,C,hvh,K,hbw⟩=>?_) λJ hJ=>?_)
 ·subst hvh;refine hbw.rI rfl (Θ (n:=p) O O λv4 sp e4 _ hS=>?_);have hp:cf.aF=p:=by rw[←hcfd]
  have hroom:cf.room=r:=by rw[←hcfd]
  have hbud:cf.dD=b:=by rw[←hcfd]
  have K1:NK U (· = U.size) v4 _ tb cf {N0 q dF C with hs:=some sp}:=K.put e4 .sp (λj M=>by cases j<;>first|rfl|exact absurd rfl M) (by
   show dO v4 _ sp (VY cf.aF);rw[hp];exact hS)
  have hbw4:=e4.bV hbw id;refine bL (K1.rh (NB q dF C sp gR [] gR []) (λj M=>by cases j<;>first|rfl|exact absurd rfl M) rfl (i:=6) rfl O λv5 P5 K5 o5=>?_)
  have ai:∀{w:Hp} {P:Rg} {N:oH},NK U (· = U.size) w P tb cf N->U.size≠N.p:=λK e=>(K.p _ K.AO.1).2.1 e.symm;have hbw5:=WE o5 hbw4 (ai K1);refine hbw5.rI rfl ?_;refine Qp (a:=bO) (λ(z:Int) w=>∃(P:Rg) (aw:Sl) (ys:List Lay),z=(ys.length:Int)/\ys.length<=a/\(∀Y∈ys,Y.hs=sp)/\NK U (· = U.size) w P tb cf (NB q dF C sp aw ys gR [])/\bZ w U.size [.int .i64 (p:Int),.int .i64 (a:Int),.int .i64 (t:Int),.int .i64 (b:Int),.int .i64 (r:Int)]) (λz _=>a-z.toNat) ⟨P5,gR,[],rfl,by simp,by simp,K5,hbw5⟩ ?_;rintro(z:Int) w6 ⟨P6,aw,ys,rfl,hyl,hys,K6,hbw6⟩;refine cP (λhlt=>?_) λhge=>?_
  ·refine⟨λu=>u=w6,rfl,bL ⟨some ⟨sp,0,none⟩,λu hu=>by cases hu;rw[add_lit];exact(bZ.cell (b:=q) K6.AO.2).trans rfl,⟨(r:Int),λu hu=>by cases hu;rw[add_lit,hbw6.cell];rfl,?_⟩⟩⟩;obtain⟨GS,hGS,hSp⟩:=K6.sep.get .sp;have hSp:dO w6 GS sp (VY cf.aF):=hSp;have hnl:(VY cf.aF).st.length=p:=by rw[hp];simp[VY]
   have hnE:lg xs (VY cf.aF).st.length (r:Int)=0:=by
    unfold lg;rw[zC hv,hnl,zC O]
   refine Pk (Qm ha K6.e) hSp (r:Int) (λhne=>absurd hnE hne) λ_ v7 Y e7 hYh hA=>?_;rw[hnl,dH,htbd]at hA;have K7:NK U (· = U.size) v7 _ tb cf {NB q dF C sp aw ys gR []with ys:=ys++[Y]}:=K6.put e7 (.ar ys.length) (SY (N:=NB q dF C sp aw ys gR []) rfl (λj M=>by
    cases j with
    | ar k=>exact absurd rfl (M k)
    | _=>rfl)) (by
    show sP cf.aF cf.room tb (ys++[Y])[ys.length]? v7 _;rw[zp (zD _),oQ,hp,hroom];exact hA)
   have S:=e7.bV hbw6 id;refine bL (K7.AO.2.rS (a:=aw.a) (n:=aw.len) (c:=aw.cap) rfl (nw (cs:=[.pointer (some ⟨Y.p,0,none⟩)]) λv8 hz8 e8 hb8=>?_));have K8:=K7.box e8 hz8;obtain⟨G,hG,d,ac⟩:=K8.step .fT;have d:bS aw 1 (fR (ys.map (·.p))) v8 G:=d;have hal:aw.len=ys.length:=by have:=d.1;simp[fR]at this;omega
   refine d.app (ys:=[.pointer (some ⟨Y.p,0,none⟩)]) rfl rfl ?_ (by simp[dU]) ?_ ?_ nu λs' v9 _ e9 hr9=>?_
   ·intro j u hu;rw[add_lit,zH,hb8.cell];exact hu
   ·simp only;omega
   ·simp only;omega
   have hz9:=e9.1;have hbw9:bZ v9 U.size _:=e9.bV (e8.bV S id) λF=>(K8.p _ (hG _ F)).2.1 (.inl rfl);have K9:=(ac v9 {NB q dF C sp aw ys gR []with ys:=ys++[Y],aw:=s',al:=(ys++[Y]).map (·.p)} (λb=>Grow G v8 b/\b<v9.size) (λj M=>by cases j<;>first|rfl|exact absurd rfl M) e9 (λb y=>y.1.imp id λF=>⟨F,λhB=>by have:=(K8.b b hB).2;omega⟩) (by
    show bS s' 1 (fR ((ys++[Y]).map (·.p))) v9 _;have:fR ((ys++[Y]).map (·.p))=fR (ys.map (·.p))++[.pointer (some ⟨Y.p,0,none⟩)]:=by simp[fR]
    rw[this];exact aI.mono hr9 λb y F=>⟨F,y⟩) λb hB=>by have:=(K8.b b hB).2;omega).drop (B':=(· = U.size)) λb y=>.inl y
   refine bL (K9.rh (NB q dF C sp s' (ys++[Y]) gR []) (λj M=>by cases j<;>first|rfl|exact absurd rfl M) rfl (i:=7) rfl O λae P10 K10 gC=>?_)
   have H:=WE gC hbw9 (ai K9);exact cT (m:=ys.length+1) O O ⟨⟨P10,s',ys++[Y],by simp,by simp;omega,λZ hZ=>(zM.1 hZ).elim (hys Z) λh=>by
    rw[zN]at h;rw[h];exact hYh,K10,H⟩,O⟩
  ·have hya:ys.length=a:=by omega
   refine hbw6.rI rfl ?_;refine Qp (a:=bO) (λ(z:Int) w=>∃(P:Rg) (tw:Sl) (cs:List ib),z=(cs.length:Int)/\cs.length<=t/\NK U (· = U.size) w P tb cf (NB q dF C sp aw ys tw cs)/\bZ w U.size [.int .i64 (p:Int),.int .i64 (a:Int),.int .i64 (t:Int),.int .i64 (b:Int),.int .i64 (r:Int)]) (λz _=>t-z.toNat) ⟨P6,gR,[],rfl,by simp,K6,hbw6⟩ ?_;rintro(z:Int) w7 ⟨P7,tw,cs,rfl,hcsl,K7,S⟩;refine cP (λhlt=>?_) λhge2=>?_
   ·refine S.rI rfl (LI (Qm ha K7.e) (b:Int) (λhvf=>by rw[hv]at hvf;cases hvf) (λ_ hn=>absurd ⟨O,O⟩ hn) λ_ _ _ v8 Y e8 hC=>?_);rw[dH,htbd]at hC;have K8:NK U (· = U.size) v8 _ tb cf {NB q dF C sp aw ys tw cs with cs:=cs++[Y]}:=K7.put e8 (.ca cs.length) (PY (N:=NB q dF C sp aw ys tw cs) rfl (λj M=>by
     cases j with
     | ca k=>exact absurd rfl (M k)
     | _=>rfl)) (by
     show sK tb cf.dD (cs++[Y])[cs.length]? v8 _;rw[zp (zD _),oQ,hbud];exact hC)
    have hbw8:=e8.bV S id;refine bL (K8.AO.2.rS (a:=tw.a) (n:=tw.len) (c:=tw.cap) rfl (nw (cs:=[.pointer (some ⟨Y.p,0,none⟩),.slice none 0 0,.nilIface]) λv9 hz9 e9 hb9=>?_));have K9:=K8.box e9 hz9;obtain⟨G,hG,d,ac⟩:=K9.step .cS;have d:bS tw 3 (qv cs) v9 G:=d;have hal:tw.len=cs.length:=by have:=d.1;rw[Oz]at this;omega
    refine d.app (ys:=[.pointer (some ⟨Y.p,0,none⟩),.slice none 0 0,.nilIface]) rfl rfl ?_ (by simp[dU]) ?_ ?_ nu λs' ae _ e10 hr10=>?_
    ·intro j u hu;rw[add_lit,zH,hb9.cell];exact hu
    ·simp only;omega
    ·simp only;omega
    have hz10:=e10.1;have H:bZ ae U.size _:=e10.bV (e9.bV hbw8 id) λF=>(K9.p _ (hG _ F)).2.1 (.inl rfl);have K10:=(ac ae {NB q dF C sp aw ys tw cs with cs:=cs++[Y],tw:=s',tl:=qv (cs++[Y])} (λb=>Grow G v9 b/\b<ae.size) (λj M=>by cases j<;>first|rfl|exact absurd rfl M) e10 (λb y=>y.1.imp id λF=>⟨F,λhB=>by have:=(K9.b b hB).2;omega⟩) (by
     show bS s' 3 (qv (cs++[Y])) ae _;have:qv (cs++[Y])=qv cs++[.pointer (some ⟨Y.p,0,none⟩),.slice none 0 0,.nilIface]:=by simp[qv]
     rw[this];exact aI.mono hr10 λb y F=>⟨F,y⟩) λb hB=>by have:=(K9.b b hB).2;omega).drop (B':=(· = U.size)) λb y=>.inl y
    refine bL (K10.rh (NB q dF C sp aw ys s' (cs++[Y])) (λj M=>by cases j<;>first|rfl|exact absurd rfl M) rfl (i:=8) rfl O λv11 P11 K11 o11=>?_)
    have hbw11:=WE o11 H (ai K10);exact cT (m:=cs.length+1) O O ⟨⟨P11,s',cs++[Y],by simp,by simp;omega,K11,hbw11⟩,O⟩
   ·have hct:cs.length=t:=by omega
    have Q:cf.threads=cs.length:=by rw[←hcfd,hct]
    have ad:cf.ij=ys.length:=by rw[←hcfd,hya]
    have hN:=Cm g gd;refine h0 w7 ⟨q,sp,C,dF,aw,tw,ys,cs.map λc=>⟨c,gR⟩⟩ K7.e ⟨⟨?_,hys,?_,?_,?_,?_,?_,?_⟩,?_,g.bP K7.e,gd.bP K7.e,hN.1,hN.2⟩
    ·simp[Uv,ad]
    ·simp[Uv,Q]
    ·simp[Uv,ad];omega
    ·simp[Uv,ad];omega
    ·simp[Uv,Q];omega
    ·simp[Uv,Q];omega
    ·intro B hB;have:=CA hB;rw[this];rfl
    ·refine(Sep.loc CH.loc).mono (G:=λq=>U.size<=q) ?_ λb _ y=>y;obtain⟨ρ,hs⟩:=(Sep.loc iZ.loc).mono K7.sep (G:=λq=>U.size<=q) λb _ y=>(K7.p b y).1;refine⟨ρ,λi=>?_⟩;have hi:=hs i;cases i with
     | hd=>exact hi
     | dF=>exact hi
     | sp=>exact hi
     | fT=>exact bS.fW hi
     | cS=>
      show bS tw 3 (gW (cs.map λc=>⟨c,gR⟩) (List.replicate cf.threads ⟨List.replicate tb.length iq,[],none⟩)) w7 _;rw[Q,Mw];exact hi
     | live=>exact hi
     | ar k=>
      show oA ys[k]? (List.replicate cf.ij (fG cf.aF cf.room tb))[k]? w7 _;have hi:sP cf.aF cf.room tb ys[k]? w7 _:=hi;unfold oA;by_cases hk:k<ys.length
      ·rw[mH,zC O,cX hk];rw[cX hk]at hi;exact hi
      ·rw[zX O];trivial
     | ca k=>
      show qV (cs.map λc=>(⟨c,gR⟩:eR))[k]? (List.replicate cf.threads (⟨List.replicate tb.length iq,[],none⟩:Th))[k]? tb cf.dD w7 _;have hi:sK tb cf.dD cs[k]? w7 _:=hi;unfold qV;by_cases hk:k<cs.length
      ·rw[mH,zC O,za,cX hk];rw[cX hk]at hi;exact hi
      ·rw[za,zX O];trivial
     | hn k=>
      show qB (cs.map λc=>(⟨c,gR⟩:eR))[k]? (List.replicate cf.threads (⟨List.replicate tb.length iq,[],none⟩:Th))[k]? w7 _;unfold qB;by_cases hk:k<cs.length
      ·rw[mH,zC O,za,cX hk];exact iF.nil _ _ _
      ·rw[za,zX O];trivial
 ·have rd:∀(i:Nat) (x:Int),[Value.int .i64 (p:Int),.int .i64 (a:Int),.int .i64 (t:Int),.int .i64 (b:Int),.int .i64 (r:Int)][i]?=some (.int .i64 x)->∀m,bZ m U.size [.int .i64 (p:Int),.int .i64 (a:Int),.int .i64 (t:Int),.int .i64 (b:Int),.int .i64 (r:Int)]->cell m (Addr.add ⟨U.size,0,none⟩ i)=some (.int .i64 x):=λi x F m hm=>by
   rw[add_lit,hm.cell,zH];exact F
  refine⟨λm=>bZ m U.size [.int .i64 (p:Int),.int .i64 (a:Int),.int .i64 (t:Int),.int .i64 (b:Int),.int .i64 (r:Int)],A,⟨(p:Int),rd 0 _ rfl,⟨(a:Int),rd 1 _ rfl,⟨(t:Int),rd 2 _ rfl,⟨(b:Int),rd 3 _ rfl,⟨(r:Int),rd 4 _ rfl,⟨?_,?_⟩⟩⟩⟩⟩⟩⟩
  ·refine Ul (Qm ha V) hv λdF v16 W E=>⟨W.bV A id,tE λv17 z17 ah hm=>⟨ah.bV (W.bV A id) id,?_⟩⟩;rw[htbd]at E;have hz16:=W.1;refine nw (cs:=[.slice dF.a dF.len dF.cap,.int .i64 (p:Int),.int .i64 (a:Int),.int .i64 (t:Int),.int .i64 (b:Int),.int .i64 (r:Int),.pointer none,.slice none 0 0,.slice none 0 0,.map (some v16.size)]) λv18 z18 aj hb18=>⟨aj.bV (ah.bV (W.bV A id) id) id,hJ _ _ ⟨_,v17.size,dF,v16.size,rfl,Fl (D:=λq=>v2.size<=q/\q<v16.size) (((V.trans W).trans ah).trans aj) O (by rw[hdE];exact hb18) (aj.fX (hm .i64 (.ag 4)) id) ?_ (λb y=>O) O O O,aj.bV (ah.bV (W.bV A id) id) id⟩⟩;exact aH.bP (aH.bP (aH.mono E (G:=λq=>v2.size<=q/\q<v16.size) λb y F=>⟨F,y⟩) ah) aj
  ·refine tE λv19 z19 X hm=>⟨X.bV A id,Ul (Qm ha (V.trans X)) hv λdF v20 aa E=>⟨aa.bV (X.bV A id) id,?_⟩⟩;rw[htbd]at E;have hz20:=aa.1;refine nw (cs:=[.slice dF.a dF.len dF.cap,.int .i64 (p:Int),.int .i64 (a:Int),.int .i64 (t:Int),.int .i64 (b:Int),.int .i64 (r:Int),.pointer none,.slice none 0 0,.slice none 0 0,.map (some v2.size)]) λv21 z21 af hb21=>⟨af.bV (aa.bV (X.bV A id) id) id,hJ _ _ ⟨_,v20.size,dF,v2.size,rfl,Fl (D:=λq=>v19.size<=q/\q<v20.size) (((V.trans X).trans aa).trans af) O (by rw[hdE];exact hb21) (af.fX (aa.fX (hm .i64 (.ag 4)) id) id) ?_ (λb y=>O) O O O,af.bV (aa.bV (X.bV A id) id) id⟩⟩;exact aH.bP (aH.mono E (G:=λq=>v19.size<=q/\q<v20.size) λb y F=>⟨F,y⟩) af
end Go.Ar
namespace Go.Ar
open Go Go.Vc Go.Proofs
variable {U u w w':Hp}{F B P Q:Rg}{L:dE}{H:Hw}{t:Nat}{g:Th}
theorem Tj (u:Value){R:ByteArray->Hp->Prop}(h:Wg Tryz.prog 379 #[u] [.one .str] U R):iW Tryz.prog (.iface 235 u) "freehold/heap.name" [] [.one .str] U R :=
 ⟨235,u,379,rfl,λw=>by kernel_rfl,λxs w=>by kernel_rfl,h⟩
theorem SE (u:Value){R:ByteArray->Hp->Prop}(h:Wg Tryz.prog 383 #[u] [.one .str] U R):iW Tryz.prog (.iface 245 u) "freehold/heap.name" [] [.one .str] U R :=
 ⟨245,u,383,rfl,λw=>by kernel_rfl,λxs w=>by kernel_rfl,h⟩
theorem OD (u:Value){R:ByteArray->Hp->Prop}(h:Wg Tryz.prog 385 #[u] [.one .str] U R):iW Tryz.prog (.iface 248 u) "freehold/heap.name" [] [.one .str] U R :=
 ⟨248,u,385,rfl,λw=>by kernel_rfl,λxs w=>by kernel_rfl,h⟩
theorem LN (u:Value){R:ByteArray->Hp->Prop}(h:Wg Tryz.prog 386 #[u] [.one .str] U R):iW Tryz.prog (.iface 250 u) "freehold/heap.name" [] [.one .str] U R :=
 ⟨250,u,386,rfl,λw=>by kernel_rfl,λxs w=>by kernel_rfl,h⟩
theorem OL (u:Value){R:ByteArray->Hp->Prop}(h:Wg Tryz.prog 384 #[u] [.one .str] U R):iW Tryz.prog (.iface 247 u) "freehold/heap.name" [] [.one .str] U R :=
 ⟨247,u,384,rfl,λw=>by kernel_rfl,λxs w=>by kernel_rfl,h⟩
theorem Sz (u:Value){R:ByteArray->Hp->Prop}(h:Wg Tryz.prog 380 #[u] [.one .str] U R):iW Tryz.prog (.iface 237 u) "freehold/heap.name" [] [.one .str] U R :=
 ⟨237,u,380,rfl,λw=>by kernel_rfl,λxs w=>by kernel_rfl,h⟩
theorem R5 (u:Value){R:ByteArray->Hp->Prop}(h:Wg Tryz.prog 381 #[u] [.one .str] U R):iW Tryz.prog (.iface 239 u) "freehold/heap.name" [] [.one .str] U R :=
 ⟨239,u,381,rfl,λw=>by kernel_rfl,λxs w=>by kernel_rfl,h⟩
theorem LF (u:Value){R:ByteArray->Hp->Prop}(h:Wg Tryz.prog 387 #[u] [.one .str] U R):iW Tryz.prog (.iface 255 u) "freehold/heap.name" [] [.one .str] U R :=
 ⟨255,u,387,rfl,λw=>by kernel_rfl,λxs w=>by kernel_rfl,h⟩
theorem TH (u:Value){R:ByteArray->Hp->Prop}(h:Wg Tryz.prog 388 #[u] [.one .str] U R):iW Tryz.prog (.iface 258 u) "freehold/heap.name" [] [.one .str] U R :=
 ⟨258,u,388,rfl,λw=>by kernel_rfl,λxs w=>by kernel_rfl,h⟩
theorem SQ (u:Value){R:ByteArray->Hp->Prop}(h:Wg Tryz.prog 389 #[u] [.one .str] U R):iW Tryz.prog (.iface 262 u) "freehold/heap.name" [] [.one .str] U R :=
 ⟨262,u,389,rfl,λw=>by kernel_rfl,λxs w=>by kernel_rfl,h⟩
theorem Ng (u:Value){R:ByteArray->Hp->Prop}(h:Wg Tryz.prog 382 #[u] [.one .str] U R):iW Tryz.prog (.iface 241 u) "freehold/heap.name" [] [.one .str] U R :=
 ⟨241,u,382,rfl,λw=>by kernel_rfl,λxs w=>by kernel_rfl,h⟩
def oc (s:ByteArray):Prop:=(s.toList==(ByteArray.mk #[]).toList)=false
theorem MQ (p:Ph){R:ByteArray->Hp->Prop}(hR:∀s σ',aG U σ'->oc s->R s σ'):iW Tryz.prog (nh (some p)) "freehold/heap.name" [] [.one .str] U R := by
 cases p with
 | take k=>
  refine Tj _ (Qc.o ?_);unfold Qc.v;exact nw (cs:=[.int .i64 (k:Int)]) λv hz e hb=>hR _ v e (by unfold oc;decide +kernel)
 | cI k w=>
  refine SE _ (Zh.o ?_);unfold Zh.v;exact nw (cs:=[.int .i64 (k:Int),.int .i64 (w:Int)]) λv hz e hb=>hR _ v e (by unfold oc;decide +kernel)
 | cL k w=>
  refine OD _ (Zy.o ?_);unfold Zy.v;exact nw (cs:=[.int .i64 (k:Int),.int .i64 (w:Int)]) λv hz e hb=>hR _ v e (by unfold oc;decide +kernel)
 | grow k w=>
  refine LN _ (Qj.o ?_);unfold Qj.v;exact nw (cs:=[.int .i64 (k:Int),.int .i64 (w:Int)]) λv hz e hb=>hR _ v e (by unfold oc;decide +kernel)
 | fill=>
  refine OL _ (Qi.o ?_);unfold Qi.v;exact nw (cs:=[]) λv hz e hb=>hR _ v e (by unfold oc;decide +kernel)
 | eP m=>
  refine Sz _ (Z2.o ?_);unfold Z2.v;exact nw (cs:=[.int .i64 (m:Int)]) λv hz e hb=>hR _ v e (by unfold oc;decide +kernel)
 | find x=>
  refine R5 _ (Qk.o ?_);unfold Qk.v;exact nw (cs:=[.int .i64 x]) λv hz e hb=>hR _ v e (by unfold oc;decide +kernel)
 | put k x=>
  refine LF _ (QC.o ?_);unfold QC.v;exact nw (cs:=[.int .i64 (k:Int),.int .i64 x]) λv hz e hb=>hR _ v e (by unfold oc;decide +kernel)
 | back=>
  refine TH _ (Qe.o ?_);unfold Qe.v;exact nw (cs:=[]) λv hz e hb=>hR _ v e (by unfold oc;decide +kernel)
 | dG s a=>
  refine SQ _ (Qd.o ?_);unfold Qd.v;exact nw (cs:=[.int .i64 s,.int .i64 a]) λv hz e hb=>hR _ v e (by unfold oc;decide +kernel)
 | drain=>
  refine Ng _ (Z1.o ?_);unfold Z1.v;exact nw (cs:=[]) λv hz e hb=>hR _ v e (by unfold oc;decide +kernel)
def Uz (H:Hw)(thread:Int):Option Ph:=if 0<=thread/\thread<(H.bR.length:Int)then(match H.bR[thread.toNat]? with
 | some g=>g.ph
 | none=>none)else none
theorem F0 (h:HH U F L H)(thread:Int){R:ByteArray->Hp->Prop}(hR:∀s σ',aG U σ'->(s.toList==(ByteArray.mk #[]).toList)=(Uz H thread).isNone->R s σ'):YV.c (aW L.p) thread U R:=by
 refine YV.o ?_;unfold YV.v;have i:Uz H thread=none->R (ByteArray.mk #[]) U:=λd=>hR _ U (Ext.refl _ _) (by rw[d];decide +kernel);refine U5 h (Kd (λr w=>w=U/\r = !decide (0<=thread/\thread<(H.bR.length:Int))) (λr w ⟨y,B⟩=>?_) λJ C=>cD rfl (CN h thread (C _ _ ⟨rfl,rfl⟩)));subst y;refine Kd (λr A=>A=w/\r=(Uz H thread).isNone) (λr A ⟨y,b⟩=>?_) λJ1 m=>?_
 ·rw[y];cases d:Uz H thread with
  | none=>rw[d]at b;exact cF (by rw[b];rfl) (i d)
  | some p=>
   rw[d]at b;have a:=d;unfold Uz at a;split at a
   ·rename_i hth;obtain⟨t,rfl⟩:∃t:Nat,thread=(t:Int):=⟨thread.toNat,O⟩;have u:t<H.bR.length:=by omega
    obtain⟨x,g,z,j⟩:=h.th u;rw[dH,j]at a;simp only at a;refine cD (by rw[b];rfl) (bL (h.hd.rS rfl (h.tR z j ?_)));rw[a];exact MQ p λs σ' e u=>hR s σ' e (by rw[d];exact u)
   ·cases a
 ·by_cases hth:0<=thread/\thread<(H.bR.length:Int)
  ·obtain⟨t,rfl⟩:∃t:Nat,thread=(t:Int):=⟨thread.toNat,O⟩;have u:t<H.bR.length:=by omega
   obtain⟨x,g,z,j⟩:=h.th u;refine cD (by rw[B,zI hth];rfl) (bL (h.hd.rS rfl (h.tR z j ⟨uY _,m _ _ ⟨rfl,?_⟩⟩)));rw[x8];unfold Uz;rw[zC hth,dH,j]
  ·refine cF (by rw[B,zJ hth];rfl) (m _ _ ⟨rfl,?_⟩);unfold Uz;rw[zB hth];rfl
def iS (H:Hw):Prop:=1<=H.cf.aF/\H.cf.threads=H.bR.length/\mU H.tb
end Go.Ar
namespace Go.Ar
open Go Go.Vc Go.Proofs
open Go.Bu (fB)
variable {U u w w':Hp}{F B P Q:Rg}{L:dE}{H H':Hw}{t:Nat}{g:Th}
def TG:List Value:=[.slice none 0 0,.int .i64 0,.int .i64 0,.int .i64 0,.int .i64 0,.int .i64 0,.pointer none,.slice none 0 0,.slice none 0 0,.map none]
def Bh (vh:Option Addr)(U:Hp):Prop:=vh=none\/∃n,vh=some ⟨n,0,none⟩/\bZ U n TG
theorem Bh.bP {vh:Option Addr}(h:Bh vh U)(e:aG U w):Bh vh w:=h.imp id λ⟨n,b,a⟩=>⟨n,b,e.bV a id⟩
def KG (H:Hw)(thread kind size align addr:Int)(H':Hw)(a e:Int):Prop:=
 (KY H thread kind size align addr=.inl e/\e≠0/\H'=H/\a=0)\/∃t p n,KY H thread kind size align addr=.inr (t,p)/\iI n (eY H t (some p)) t p H' a e
theorem IB (hso:G9)(h:HH U F L H)(hv:mU H.tb){thread kind size align addr:Int}{a e:Int}(hw:KG H thread kind size align addr H' a e){R:Int->Int->Hp->Prop}
 (hR:∀σ' ts',Ext F U σ'->HH σ' (Grow F U) {L with ts:=ts'} H'->R a e σ'):Yp.c (aW L.p) thread kind size align addr U R:=by
 rcases hw with⟨hs,hne,rfl,rfl⟩|⟨t,p,n,hs,hr⟩
 ·exact I8 hso h hv thread kind size align addr (λg b _ σ' d i=>by
   rw[hs]at b;cases b;exact hR σ' L.ts d i) λt p b=>by rw[hs]at b;cases b
 ·exact I8 hso h hv thread kind size align addr (λg b=>by rw[hs]at b;cases b) λj m b=>by
   rw[hs]at b;cases b;exact⟨n,H',a,e,hr,hR⟩
theorem LH (hso:G9)(h:HH U F L H)(hv:mU H.tb){thread size align:Int}{a e:Int}(hw:KG H thread 0 size align 0 H' a e){R:Int->Int->Hp->Prop}
 (hR:∀σ' ts',Ext F U σ'->HH σ' (Grow F U) {L with ts:=ts'} H'->R a e σ'):Y1.c (aW L.p) thread size align U R:=by
 refine Y1.o ?_;unfold Y1.v;exact IB hso h hv hw hR
theorem Tr (hso:G9)(h:HH U F L H)(hv:mU H.tb){thread addr:Int}{a e:Int}(hw:KG H thread 1 0 0 addr H' a e){R:aN}
 (hR:∀σ' ts',Ext F U σ'->HH σ' (Grow F U) {L with ts:=ts'} H'->R e σ'):ZH.c (aW L.p) thread addr U R:=by
 refine ZH.o ?_;unfold ZH.v;exact IB hso h hv hw hR
def QW (H' H:Hw):Prop:=H'.tb=H.tb/\H'.cf=H.cf/\H'.bR.length=H.bR.length/\H'.bY.length=H.bY.length
theorem QW.refl (H:Hw):QW H H:=⟨rfl,rfl,rfl,rfl⟩
theorem QW.trans {H1 H2 H3:Hw}(a:QW H2 H1)(b:QW H3 H2):QW H3 H1:=⟨b.1.trans a.1,b.2.1.trans a.2.1,b.2.2.1.trans a.2.2.1,b.2.2.2.trans a.2.2.2⟩
theorem Vr (H:Hw)(t:Nat)(f:Th->Th):QW (H.eC t f) H:=⟨rfl,rfl,by simp[Hw.eC],rfl⟩
theorem Vq (H:Hw)(k:Nat)(A:AR)(sp:Sp):QW {H.cE k A with sp:=sp} H:=⟨rfl,rfl,rfl,by simp[Hw.cE]⟩
theorem Rs (H:Hw)(k:Nat)(part:Nat->List Int)(j:Nat):QW (VN H k part (List.range j)) H:=by
 induction j with
 | zero=>exact QW.refl H
 | succ j ih=>
  rw[VF];split
  ·split
   ·exact ih
   ·exact ih.trans (Vq _ _ _ _)
  ·exact ih
theorem Rn (H:Hw)(own k:Nat)(xs:List Int):QW (Gp H own k xs) H:=by
 unfold Gp;split
 ·split
  ·exact Vq _ _ _ H.sp
  ·refine QW.trans ?_ (Rs _ _ _ _);split
   ·exact Vq _ _ _ H.sp
   ·exact QW.refl H
 ·exact QW.refl H
theorem MN (H:Hw)(t k:Nat)(x:Int):QW (iC H t k x) H:=by
 unfold iC;simp only;split<;>split<;>exact⟨rfl,rfl,by simp[Hw.eC,Ki],rfl⟩
theorem MM (H:Hw)(t:Nat)(p:Ph):QW (WG H t p).1 H:=by
 cases p with
 | take k=>simp only[WG];split<;>exact⟨rfl,rfl,by simp[VX,Ki,Hw.eC,Hw.cE],by simp[VX,Ki,Hw.eC,Hw.cE]⟩
 | cI k w=>
  simp only[WG];split
  ·split
   ·exact(Vq _ _ _ H.sp).trans (Vr _ _ _)
   ·exact QW.refl H
  ·exact QW.refl H
 | cL k w=>
  simp only[WG];split
  ·exact Vq _ _ _ H.sp
  ·exact(Vq _ _ _ H.sp).trans (Vr _ _ _)
 | grow k w=>simp only[WG];split<;>exact Vq _ _ _ _
 | fill=>
  simp only[WG];split
  ·exact⟨rfl,rfl,by simp[VX,Ki,Hw.eC,Hw.cE],by simp[VX,Ki,Hw.eC,Hw.cE]⟩
  ·exact QW.refl H
 | eP m=>simp only[WG];split<;>exact⟨rfl,rfl,by simp[VX,Ki,Hw.eC,Hw.cE],by simp[VX,Ki,Hw.eC,Hw.cE]⟩
 | find x=>
  simp only[WG,Ho];split
  ·exact QW.refl H
  ·split
   ·exact⟨rfl,rfl,rfl,rfl⟩
   ·exact QW.trans (H2:={H with live:=Go.Vc.cO H.live x}) ⟨rfl,rfl,rfl,rfl⟩ (Vr _ _ _)
 | put k x=>exact MN H t k x
 | back=>
  simp only[WG];split
  ·exact(Vr _ _ _).trans (Rn _ _ _ _)
  ·exact QW.refl H
 | dG s a=>
  simp only[WG];split
  ·exact Vq _ _ _ H.sp
  ·exact QW.refl H
 | drain=>exact Vr _ _ _
theorem U0 (H:Hw)(t:Nat)(p:Ph):QW (Q9 H t p) H:=(MM H t p).trans (Vr _ _ _)
theorem Ez {n:Nat}{H H':Hw}{t:Nat}{p:Ph}{a e:Int}(h:iI n H t p H' a e):QW H' H:=by
 induction h with
 | done=>exact U0 _ _ _
 | next _ _ _ ih=>exact(U0 _ _ _).trans ih
theorem iS.bT (h:iS H)(k:QW H' H):iS H':=⟨by rw[k.2.1];exact h.1,by rw[k.2.1,k.2.2.1];exact h.2.1,by rw[k.1];exact h.2.2⟩
end Go.Ar