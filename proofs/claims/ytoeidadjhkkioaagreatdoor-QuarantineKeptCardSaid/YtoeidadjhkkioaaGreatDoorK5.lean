/- Texts joined. -/
import Derived.Test.YtoeidadjhkkioaaGreatDoorK4
set_option linter.unusedVariables false
set_option linter.unusedSimpArgs false
namespace Go.Proofs
open Go.Vc
set_option maxRecDepth 100000
def Yn.h:Hn:=.q .o2 (.q .gE .l)
def Yn.v (a:R2)(b c d:Int)(e:Hp)(f:Int->Int->Hp->Prop):Prop:=Yw.c a b 0 c d 0 e λg h i=>f g h i
theorem Yn.o {a b c d e f}(g:Yn.v a b c d e f):Yn.c a b c d e f:=Wa Tryz.func22 (x:=Yn.h) (R0 g)
def Xy.h:Hn:=.q .o1 (.q .o6 .l)
def Xy.v (a:R2)(b c:Int)(d:Hp)(e:aN):Prop:=Y5.c a d λf g=>YM.c f b c g λh i=>e h i
theorem Xy.o {a b c d e}(f:Xy.v a b c d e):Xy.c a b c d e:=Wa Tryz.func29 (x:=Xy.h) (R0 f)
def YK.h:Hn:=.q .o2 (.q .o8 .l)
def YK.v (a:R2)(b:Int)(c:Hp)(d:Int->Int->Hp->Prop):Prop:=Y5.c a c λe f=>Y7.c e b f λg h i=>d g h i
theorem YK.o {a b c d}(e:YK.v a b c d):YK.c a b c d:=Wa Tryz.func32 (x:=YK.h) (R0 e)
def Yw.h:Hn:=.q .o3 (.q (.q .o5 (.q .o2 (.c (.q .o3 .l) .l))) (.k (.loop [] (.k (.q (.o 11) (.q .o1 (.c (.q (.oq 6) .l) .l)))))))
def Yw.v (a:R2)(b c d e f:Int)(g:Hp)(h:Int->Int->Hp->Prop):Prop:=aV #[.I c,.I d,.I e,.I f] 104 g λi j=>aQ i 0 j λk=>aQ i 1 j λl=>aQ i 2 j λm=>aQ i 3 j λn=>Zo.c a b k l m n j λo p=>If (o != 0) (h 0 o p) (X9 [] (λq=>q p) λr s=>ZA.c a b s λt u v w x=>aV #[.I 0,.I 0] 137 x λy z=>aR y 0 (.I u) z λaa=>aR y 1 (.I v) aa λab=>If t (aQ y 0 ab λac=>aQ y 1 ab λad=>h ac ad ab) (r ab))
theorem Yw.o {a b c d e f g h}(i:Yw.v a b c d e f g h):Yw.c a b c d e f g h:=Wa Tryz.func57 (x:=Yw.h) (R0 i)
def Y5.h:Hn:=.q .o1 (.q (.q .o3 .aK) (.q .o5 .l))
def Y5.v (a:R2)(b:Hp)(c:Option Addr->Hp->Prop):Prop:=XQ.c a b λd e=>If (!d) (c none e) (bG a 6 e λg=>c g e)
theorem Y5.o {a b c}(d:Y5.v a b c):Y5.c a b c:=Wa Tryz.func61 (x:=Y5.h) (R0 d)
def XQ.h:Hn:=.q .o1 (.q (.cU (.seq [.op,.op,.op,.cZ true 6 (RI.ops 6),.op])) .l)
def XQ.v (a:R2)(b:Hp)(c:aO):Prop:=bX (λd e=>c d e) λf=>If (!a.isNone) (bF a 8 b λh=>f (decide (((h.len:Nat):Int)>0)) b) (f false b)
theorem XQ.o {a b c}(d:XQ.v a b c):XQ.c a b c:=Wa Tryz.func73 (x:=XQ.h) (R0 d)
def ZR.h:Hn:=.q .o1 (.q .gE .aL)
def ZR.v (a:R2)(b c:Int)(d:Hp)(e:aN):Prop:=Yw.c a b 1 0 0 c d λf g h=>e g h
theorem ZR.o {a b c d e}(f:ZR.v a b c d e):ZR.c a b c d e:=Wa Tryz.func81 (x:=ZR.h) (R0 f)
def Zo.h:Hn:=.q .o2 (.q (.k (.q .o4 (.c .aM (.q .o5 (.c .aM (.q .gE .aK)))))) (.q .o4 (.q (.q .o2 .aK) (.q .o9 .aM))))
def Zo.v (a:R2)(b c d e f:Int)(g:Hp)(h:aN):Prop:=aV #[.I c,.I d,.I e,.I f] 104 g λi j=>XQ.c a j λk l=>If (!k) (h 5 l) (Yi.c a b l λm n=>If (!m) (h 1 n) (bF a 8 n λp=>Ix p.a p.len b 3 λq=>bA q 2 n λr=>And (jd r) <| If (!(kM r)) (h 5 n) (aQ i 0 n λs=>aQ i 1 n λt=>aQ i 2 n λu=>aQ i 3 n λv=>YL.c a s t u v n λw x=>And (jd w) <| If (kM w) (h 1 x) (bF a 8 x λz=>Ix z.a z.len b 3 λaa=>And (jd w) <| aR aa 2 (w) x λab=>h 0 ab))))
theorem Zo.o {a b c d e f g h}(i:Zo.v a b c d e f g h):Zo.c a b c d e f g h:=Wa Tryz.func83 (x:=Zo.h) (R0 i)
def ZA.h:Hn:=.q .o3 (.q (.k (.q .o4 (.c (.q .o4 .l) (.q .o5 (.c (.q .o4 .l) (.q .gE (.c (.q .o4 .l) .l))))))) (.q (.o 17) (.q .o9 (.q (.cU (.tail 4 (RI.ops 4) [.op,.op])) .l))))
def ZA.v (a:R2)(b:Int)(c:Hp)(d:Bool->Int->Int->Int->Hp->Prop):Prop:=aV #[.I 0,.I 0] 137 c λe f=>XQ.c a f λg h=>If (!g) (aR e 0 (.I 0) h λi=>aR e 1 (.I 0) i λj=>aQ e 0 j λk=>aQ e 1 j λl=>d false k l 5 j) (Yi.c a b h λm n=>If (!m) (aR e 0 (.I 0) n λo=>aR e 1 (.I 0) o λp=>aQ e 0 p λq=>aQ e 1 p λr=>d false q r 1 p) (bF a 8 n λt=>Ix t.a t.len b 3 λu=>bA u 2 n λv=>And (jd v) <| If (kM v) (aR e 0 (.I 0) n λw=>aR e 1 (.I 0) w λx=>aQ e 0 x λy=>aQ e 1 x λz=>d false y z 5 x) (bF a 8 n λab=>Ix ab.a ab.len b 3 λac=>bA ac 2 n λad=>ZQ.c a b (ad) n λae af ag ah=>aV #[.I 0,.I 0] 137 ah λai aj=>aR ai 0 (.I af) aj λak=>aR ai 1 (.I ag) ak λal=>bF a 8 al λan=>Ix an.a an.len b 3 λao=>And (jd ae) <| aR ao 2 (ae) al λap=>And (jd ae) <| aQ ai 0 ap λaq=>aQ ai 1 ap λar=>aR e 0 (.I aq) ap λau=>aR e 1 (.I ar) au λav=>aQ e 0 av λaw=>aQ e 1 av λax=>d (kM ae) aw ax 0 av)))
theorem ZA.o {a b c d}(e:ZA.v a b c d):ZA.c a b c d:=Wa Tryz.func84 (x:=ZA.h) (R0 e)
def Vi.h:Hn:=.q .o3 (.q (.k (.q .o4 (.c .aL (.q .o4 .aJ)))) (.q (.cU (.gM true [] [(6,.one .p)] (.take 0 (.take 2 (.all [(1,.all [(3,.take 4 (.all [(5,.take 6 (.done))]))]),(3,.all [(1,.take 4 (.all [(5,.take 6 (.done))]))])]))))) (.q .gE (.q (.q .o3 (.k (.loop [(36,.I)] (.q .o1 (.q (.c .l .l) (.q (.k (.q (.cU (.held true [7] (.take 0 (.take 1 (.take 2 (.take 3 (.take 4 (.take 5 (.take 6 (.all [(7,.take 8 (.take 9 (.take 10 (.take 11 (.take 12 (.done))))))])))))))))) (.o 11))) .o2)))))) (.q (.q .o3 (.k (.loop [(62,.I)] (.q .o1 (.q (.c .l .l) (.q (.k (.q .o9 (.o 12))) .o2)))))) (.q .o3 .l))))))
def Vi.v (a:Sl)(b c d e f:Int)(g:Hp)(h:Option Addr->Int->Hp->Prop):Prop:=aV #[.I b,.I c,.I d,.I e,.I f] 23 g λi j=>ZZ.c a j λk l=>If (!k) (h none 2 l) (aQ i 0 l λm=>aQ i 1 l λn=>aQ i 2 l λo=>aQ i 3 l λp=>aQ i 4 l λq=>Q9.c m n o p q l λr s=>If (!r) (h none 1 s) (Jn [.p] (λ(t:R2) u=>aQ i 0 u λv=>KA.c v u λw x y=>bW t λz=>aR z 6 (.pointer w) y λaa=>aQ i 1 aa λab=>X9 [bO] (λac=>ac 0 aa) λad (ae:Int) af=>If (ae<ab) (dT af λag=>bW t λah=>aU ag ah 6 λai=>aS ag i 4 λaj=>Kx.c a ai aj af λak al am=>bF t 7 am λao=>aV #[.pointer ak] 150 am λap aq=>App ao 1 8 150 [.pointer none] ⟨some ap,1,1⟩ aq λar au=>bW t λav=>aR av 7 (.slice ar.a ar.len ar.cap) au λaw=>bM (ae+1) λax=>ad ax aw) (aQ i 2 af λay=>X9 [bO] (λaz=>az 0 af) λa0 (a1:Int) a2=>If (a1<ay) (aQ i 3 a2 λa3=>Kz.c a a3 a2 λa4 a5 a6=>bF t 8 a6 λa8=>aV #[.pointer a4,.slice none 0 0,.nilIface] 145 a6 λa9 ba=>App a8 3 48 145 [.pointer none,.slice none 0 0,.nilIface] ⟨some a9,1,1⟩ ba λbb bc=>bW t λbd=>aR bd 8 (.slice bb.a bb.len bb.cap) bc λbe=>bM (a1+1) λbf=>a0 bf be) (h t 0 a2))) λbg=>dT s λbh=>aS bh i 0 λbi=>aS bh i 1 λbj=>
 aS bh i 2 λbk=>aS bh i 3 λbl=>aS bh i 4 λbm=>(Wo.c a s λbn bo=>And (bh bo) <| Nw (.map #[] 0) bo λbp bq=>And (bh bq) <| aV #[.slice bn.a bn.len bn.cap,.I bi,.I bj,.I bk,.I bl,.I bm,.pointer none,.slice none 0 0,.slice none 0 0,.map (some bp.block)] 131 bq λbr bs=>And (bh bs) <| bg (some br) bs) ∧ (Nw (.map #[] 0) s λbt bu=>And (bh bu) <| Wo.c a bu λbv bw=>And (bh bw) <| aV #[.slice bv.a bv.len bv.cap,.I bi,.I bj,.I bk,.I bl,.I bm,.pointer none,.slice none 0 0,.slice none 0 0,.map (some bt.block)] 131 bw λbx bz=>And (bh bz) <| bg (some bx) bz)))
theorem Vi.o {a b c d e f g h}(i:Vi.v a b c d e f g h):Vi.c a b c d e f g h:=Wa Tryz.func97 (x:=Vi.h) (R0 i)
def XT.h:Hn:=.q .o2 (.q (.q .o3 .aJ) (.q (.o 12) (.q (.q .o2 .aJ) (.q .o4 .l))))
def XT.v (a:R2)(b:Int)(c:Hp)(d:Int->Int->Hp->Prop):Prop:=XQ.c a c λe f=>If (!e) (d 0 5 f) (bJ a 9 f λh=>Lk .i64 (.ag 4) h b f λi=>aV #[.I 0,.I 0,.I 0,.I 0] 126 f λj k=>aR j 0 (.I ((i.getD (0,0,0,0)).1)) k λl=>aR j 1 (.I ((i.getD (0,0,0,0)).2.1)) l λm=>aR j 2 (.I ((i.getD (0,0,0,0)).2.2.1)) m λn=>aR j 3 (.I ((i.getD (0,0,0,0)).2.2.2)) n λo=>If (!i.isSome) (d 0 8 o) (aQ j 1 o λp=>d p 0 o))
theorem XT.o {a b c d}(e:XT.v a b c d):XT.c a b c d:=Wa Tryz.func99 (x:=XT.h) (R0 e)
def XY.h:Hn:=.q .o1 (.q (.q .o3 .aJ) (.q .o5 .l))
def XY.v (a:R2)(b:Hp)(c:Int->Int->Int->Int->Int->Hp->Prop):Prop:=aV #[.I 0,.I 0,.I 0,.I 0,.I 0] 23 b λd e=>XQ.c a e λf g=>If (!f) (aR d 0 (.I 0) g λh=>aR d 1 (.I 0) h λi=>aR d 2 (.I 0) i λj=>aR d 3 (.I 0) j λk=>aR d 4 (.I 0) k λl=>aQ d 0 l λm=>aQ d 1 l λn=>aQ d 2 l λo=>aQ d 3 l λp=>aQ d 4 l λq=>c m n o p q l) (bW a λr=>bN ((r.add 1).add 0) g λs=>bN ((r.add 1).add 1) g λt=>bN ((r.add 1).add 2) g λu=>bN ((r.add 1).add 3) g λv=>bN ((r.add 1).add 4) g λw=>aR d 0 (.I s) g λx=>aR d 1 (.I t) x λy=>aR d 2 (.I u) y λz=>aR d 3 (.I v) z λaa=>aR d 4 (.I w) aa λab=>aQ d 0 ab λac=>aQ d 1 ab λad=>aQ d 2 ab λae=>aQ d 3 ab λaf=>aQ d 4 ab λag=>c ac ad ae af ag ab)
theorem XY.o {a b c}(d:XY.v a b c):XY.c a b c:=Wa Tryz.func106 (x:=XY.h) (R0 d)
def YX.h:Hn:=.q .o1 (.q (.q (.cU (.seq [.op,.op,.op,.op,.cZ false 4 (RI.ops 4),.op,.cZ false 9 (RI.ops 9)])) .aK) (.q .gE .l))
def YX.v (a:R2)(b:Int)(c:Hp)(d:ByteArray->Hp->Prop):Prop:=XQ.c a c λe f=>bX (λg h=>bX (λi j=>If i (d (ByteArray.mk #[]) j) (bF a 8 j λl=>Ix l.a l.len b 3 λm=>bA m 2 j λn=>je Tryz.prog n "freehold/heap.name" [] [.one .str] j fun t33 v3 =>d t33 v3)) λo=>If g (o true h) (bF a 8 h λq=>Ix q.a q.len b 3 λr=>bA r 2 h λs=>And (jd s) <| o (kM s) h)) λt=>If (!e) (t true f) (Yi.c a b f λu v=>t (!u) v)
theorem YX.o {a b c d}(e:YX.v a b c d):YX.c a b c d:=Wa Tryz.func107 (x:=YX.h) (R0 e)
def Yi.h:Hn:=.q .o1 (.q (.cU (.seq [.op,.op,.op,.cZ true 7 (RI.ops 7),.op])) .l)
def Yi.v (a:R2)(b:Int)(c:Hp)(d:aO):Prop:=bX (λe f=>d e f) λg=>If (b≥0) (bF a 8 c λi=>g (decide (b<((i.len:Nat):Int))) c) (g false c)
theorem Yi.o {a b c d}(e:Yi.v a b c d):Yi.c a b c d:=Wa Tryz.func124 (x:=Yi.h) (R0 e)
def YL.h:Hn:=.q .o2 (.q (.q .o2 (.k (.q .o2 (.c (.q (.q (.cU (.seq [.op,.op,.op,.op,.cZ false 3 (RI.ops 3)])) .aK) (.q (.cU (.held true [8] (.tk [0,1,2,3,4,5,6,7] (.all [(8,.tk [9,10,11,12,13] (.done))])))) (.q .o1 (.k (.q .o2 (.c (.q .o4 .l) (.q .o2 (.c (.q .o8 .l) .l)))))))) (.q .o2 (.c (.q .o5 .l) (.q .o2 (.c (.q .o3 .l) .l)))))))) .aM)
def YL.v (a:R2)(b c d e:Int)(f:Hp)(g:Value->Hp->Prop):Prop:=aV #[.I b,.I c,.I d,.I e] 104 f λh i=>aQ h 0 i λj=>If (j==0) (aQ h 1 i λk=>bX (λl m=>If l (g (.nilIface) m) (dT m λn=>bW a λo=>aT n o 0 λp=>aS n h 1 λq=>aS n h 2 λr=>QK.c p q r m λs t u=>If (t==0) (g (.iface 235 (.agg #[.I s])) u) (If (t==4) (aQ h 1 u λv=>bM (v+256) λw=>bM (w-1) λx=>Nz 256<|bM (x.tdiv 256) λy=>g (.iface 237 (.agg #[.I y])) u) (g (.nilIface) u)))) λz=>If (k<1) (z true i) (aQ h 1 i λaa=>z (decide (aa>16384)) i)) (If (j==1) (aQ h 3 i λab=>g (.iface 239 (.agg #[.I ab])) i) (If (j==2) (g (.iface 241 (.agg #[])) i) (g (.nilIface) i)))
theorem YL.o {a b c d e f g}(h:YL.v a b c d e f g):YL.c a b c d e f g:=Wa Tryz.func125 (x:=YL.h) (R0 h)
def ZQ.h:Hn:=.q .o2 (.q .o7 (.q (.cU (.held true [] (.tk [0,1,2,3,4,5] (.all [(6,.take 7 (.all [(8,.take 9 (.done))]))])))) (.kx [] (.q .o1 (.k (.q .o3 (.c (.q .o2 (.q (.q (.cU (.held true [6] (.tk [0,1,2,3,4,5] (.all [(6,.tk [7,8,9,10,11] (.done))])))) (.q .o2 (.c (.q (.cU (.held true [17] (.tk [0,1,2,3,4,5,6,7,8,9,10,11,12] (.all [(13,.tk [14,15,16] (.all [(17,.done)]))])))) .l) .l))) (.q (.cU (.held true [6] (.tk [0,1,2,3,4,5] (.all [(6,.tk [7,8,9,10,11] (.done))])))) (.q .o8 .l)))) (.q .o3 (.c (.q .o2 (.kx [] (.q (.oq 12) (.c (.q .o9 (.q .o2 (.c (.q .o6 (.q .o5 .l)) .l))) .l)) (.q .o5 .l))) (.q .o3 (.c (.q .o2 (.q (.q (.o 11) (.q .o3 (.c (.q .o6 (.q .o5 .l)) .l))) (.q .o5 .l))) (.q .o3 (.c (.q .o2 (.q (.q .o5 (.q .o2 (.c (.q .o4 .l) .l))) (.q .o5 .l))) (.q .o3 (.c (.q .o2 (.q .o8 (.q .o4 (.q (.cU (.tail 9 (RI.ops 9) [.op])) (.q (.cU (.held true [20] (.tk [0,1,2,3,4,5,6,7,8,9,10,11,12,13,14,15] (.all [(16,.tk [17,18,19] (.all [(20,.done)]))])))) .l))))) (.q .o3 (.c (.q .o2 (.q .o9 (.q (.q .o2 (.c (.q .o4 .l) .l)) (.q (.o 11) .l)))) (.q .o3 (.c (.q .o2 (.q .o9 .l)) (.q .o3 (.c (.q .o2 (.kx [] (.q (.cU (.held true [8] (.tk [0,1,2,3,4,5,6,7] (.all [(8,.tk [9,10,11,12,13] (.done))])))) (.q .o3 (.c .o6 .l))) (.q .o9 (.kx [] (.q .o5 (.c (.cU (.held true [13] (.tk [0,1,2,3,4,5,6,7,8] (.all [(9,.all [(10,.take 11 (.take 12 (.all [(13,.done)])))])])))) .l)) (.q .o6 .l))))) (.q .o3 (.c (.q .o2 (.q .o8 (.q .gE (.q (.cU (.held true [5] (.take 0 (.take 1 (.take 2 (.take 4 (.all [(3,.all [(5,.done)])]))))))) (.q .o6 .l))))) (.q .o3 (.c (.q .o2 (.cU (.tail 10 (RI.ops 10) [.op]))) (.q .o3 (.c (.q .o2 (.q .o9 (.q .o6 .l))) .l)))))))))))))))))))))))) (.q .o3 .l))))
def ZQ.v (a:R2)(b:Int)(c:Value)(d:Hp)(e:Value->Int->Int->Hp->Prop):Prop:=aV #[.I 0,.I 0] 137 d λf g=>bF a 8 g λi=>Ix i.a i.len b 3 λj=>dT g λk=>bW a λl=>aT k l 7 λm=>ZT.c a b g λn o=>And (k o) <| Ix m.a m.len n 1 λp=>fZ p o λq=>And (k o) <| Jn [] (λr=>aR f 0 (.I 0) r λs=>aR f 1 (.I 0) s λt=>aQ f 0 t λu=>aQ f 1 t λv=>e (.nilIface) u v t) λw=>∃t52:Int,∃is:Bool,kC c 235 [.I t52] [.I 0] is ∧ (If is (aV #[.I 0] 235 o λx y=>dG x (.I t52) y λz=>dT z λaa=>bW (some j) λab=>aU aa ab 0 λac=>aS aa x 0 λad=>Yy.c ac ad z λae af ag=>If (af==0) (dT ag λah=>bW a λai=>aT ah ai 0 λaj=>aS ah x 0 λak=>Ix aj.a aj.len ak 3 λal=>aS ah al 0 λam=>aS ah x 0 λan=>Zb.c a ae am an ag λao ap aq ar=>And (ah ar) <| aR f 0 (.I ap) ar λau=>aR f 1 (.I aq) au λav=>aQ f 0 av λaw=>aQ f 1 av λax=>e (ao) aw ax av) (dT ag λay=>bW (some j) λaz=>aU ay az 0 λa0=>aS ay x 0 λa1=>Yt.c a0 a1 ag λa2 a3 a4=>aQ x 0 a4 λa5=>aR f 0 (.I 0) a4 λa6=>aR f 1 (.I 0) a6 λa7=>aQ f 0 a7 λa8=>aQ f 1 a7 λa9=>e (.iface 245 (.agg #[.I a5,.I a2])) a8 a9 a7)) (∃t99:Int,∃t991:Int,∃is1:Bool,kC c 245 [.I t99,.I t991] [.I 0,.I 0] is1 ∧
 (If is1 (aV #[.I 0,.I 0] 245 o λba bb=>aR ba 0 (.I t99) bb λbc=>aR ba 1 (.I t991) bc λbd=>Jn [] (λbe=>aQ ba 0 be λbf=>aQ ba 1 be λbg=>aR f 0 (.I 0) be λbh=>aR f 1 (.I 0) bh λbi=>aQ f 0 bi λbj=>aQ f 1 bi λbk=>e (.iface 248 (.agg #[.I bf,.I bg])) bj bk bi) λbl=>aQ ba 1 bd λbm=>bF a 0 bd λbo=>aQ ba 0 bd λbp=>Ix bo.a bo.len bp 3 λbq=>aQ bq 2 bd λbr=>If (bm==br) (aQ ba 0 bd λbs=>WU.c q bs bd λbt bu bv=>If (bu==0) (aQ ba 0 bv λbw=>YG.c a b bw bt bv λbx=>aR f 0 (.I 0) bx λbz=>aR f 1 (.I 0) bz λb0=>aQ f 0 b0 λb1=>aQ f 1 b0 λb2=>e (.iface 247 (.agg #[])) b1 b2 b0) (bl bv)) (bl bd)) (∃t135:Int,∃t1351:Int,∃is2:Bool,kC c 248 [.I t135,.I t1351] [.I 0,.I 0] is2 ∧ (If is2 (aV #[.I 0,.I 0] 248 o λb3 b4=>aR b3 0 (.I t135) b4 λb5=>aR b3 1 (.I t1351) b5 λb6=>aQ b3 0 b6 λb7=>aQ b3 1 b6 λb8=>WZ.c q b7 b8 b6 λb9 ca cb=>If (((b9.len:Nat):Int)>0) (aQ b3 0 cb λcc=>YG.c a b cc b9 cb λcd=>aR f 0 (.I 0) cd λce=>aR f 1 (.I 0) ce λcf=>aQ f 0 cf λcg=>aQ f 1 cf λch=>e (.iface 247 (.agg #[])) cg ch cf) (aQ b3 0 cb λci=>aQ b3 1 cb λcj=>aR f 0 (.I 0) cb λck=>aR f 1 (.I 0) ck λcl=>aQ f 0 cl λcm=>aQ f 1 cl λcn=>
 e (.iface 250 (.agg #[.I ci,.I cj])) cm cn cl)) (∃t162:Int,∃t1621:Int,∃is3:Bool,kC c 250 [.I t162,.I t1621] [.I 0,.I 0] is3 ∧ (If is3 (aV #[.I 0,.I 0] 250 o λco cp=>aR co 0 (.I t162) cp λcq=>aR co 1 (.I t1621) cq λcr=>aQ co 0 cr λcs=>Yr.c q cs cr λct cu=>If (ct != 0) (aR f 0 (.I 0) cu λcv=>aR f 1 (.I ct) cv λcw=>aQ f 0 cw λcx=>aQ f 1 cw λcy=>e (.nilIface) cx cy cw) (aQ co 0 cu λcz=>aQ co 1 cu λc0=>aR f 0 (.I 0) cu λc1=>aR f 1 (.I 0) c1 λc2=>aQ f 0 c2 λc3=>aQ f 1 c2 λc4=>e (.iface 248 (.agg #[.I cz,.I c0])) c3 c4 c2)) (∃is4:Bool,kC c 247 [] [] is4 ∧ (If is4 (aV #[] 247 o λc5 c6=>bF (some j) 1 c6 λc8=>Ix c8.a c8.len 0 2 λc9=>aQ c9 0 c6 λda=>aX c9 1 c6 λdb=>aV #[.I 0,.slice none 0 0] 147 c6 λdc dd=>aR dc 0 (.I da) dd λde=>aR dc 1 (.slice db.a db.len db.cap) de λdf=>bW (some j) λdg=>aR dg 1 (.slice none 0 0) df λdh=>bG (some j) 0 dh λdj=>aQ dc 0 dh λdk=>aX dc 1 dh λdl=>fI dl 1 1 (dl.len:Nat) (dl.cap:Nat) λdm=>Yj.c dj dk dm dh λdn dp=>dT dp λdq=>aT dq dc 1 λdr=>Ix dr.a dr.len 0 1 λds=>gF dq bO ds λ(dt:Int)=>bW a λdu=>aT dq du 0 λdv=>aS dq dc 0 λdw=>Ix dv.a dv.len dw 3 λdx=>aS dq dx 0 λdy=>
 aS dq dc 0 λdz=>Zb.c a dt dy dz dp λd0 d1 d2 d3=>And (dq d3) <| aR f 0 (.I d1) d3 λd4=>aR f 1 (.I d2) d4 λd5=>aQ f 0 d5 λd6=>aQ f 1 d5 λd7=>e (d0) d6 d7 d5) (∃t217:Int,∃is5:Bool,kC c 237 [.I t217] [.I 0] is5 ∧ (If is5 (aV #[.I 0] 237 o λd8 d9=>dG d8 (.I t217) d9 λea=>aQ d8 0 ea λeb=>Xe.c q eb 1 ea λec ed ee=>If (ed != 0) (aR f 0 (.I 0) ee λef=>aR f 1 (.I ed) ef λeg=>aQ f 0 eg λeh=>aQ f 1 eg λei=>e (.nilIface) eh ei eg) (bM (ec*256) λej=>aQ d8 0 ee λek=>bM (ek*256) λel=>Zb.c a ej el (-1) ee λem en eo ep=>aR f 0 (.I en) ep λeq=>aR f 1 (.I eo) eq λer=>aQ f 0 er λes=>aQ f 1 er λet=>e (em) es et er)) (∃t240:Int,∃is6:Bool,kC c 239 [.I t240] [.I 0] is6 ∧ (If is6 (aV #[.I 0] 239 o λeu ev=>dG eu (.I t240) ev λew=>aQ eu 0 ew λex=>ZS.c a b ex ew λey ez e0 e1=>aR f 0 (.I ez) e1 λe2=>aR f 1 (.I e0) e2 λe3=>aQ f 0 e3 λe4=>aQ f 1 e3 λe5=>e (ey) e4 e5 e3) (∃t250:Int,∃t2501:Int,∃is7:Bool,kC c 255 [.I t250,.I t2501] [.I 0,.I 0] is7 ∧ (If is7 (aV #[.I 0,.I 0] 255 o λe6 e7=>aR e6 0 (.I t250) e7 λe8=>aR e6 1 (.I t2501) e8 λe9=>Jn [] (λfa=>bF (some j) 1 fa λfc=>fI fc 2 1 (fc.len:Nat) (fc.cap:Nat) λfd=>bW (some j) λfe=>aR fe 1 (.slice fd.a fd.len fd.cap) fa λff=>Jn [] (λfg=>
 Xm.c a b fg λfh fi=>aR f 0 (.I 0) fi λfj=>aR f 1 (.I 0) fj λfk=>aQ f 0 fk λfl=>aQ f 1 fk λfm=>e (fh) fl fm fk) λfn=>bG (some j) 0 ff λfp=>Yp.c fp ff λfq fr=>If fq (dT fr λfs=>bW (some j) λft=>aT fs ft 1 λfu=>bW (some j) λfv=>aU fs fv 0 λfw=>Xq.c fw fr λfx fy=>And (fs fy) <| App fu 2 32 147 [.I 0,.slice none 0 0] fx fy λfz f0=>And (fs f0) <| bW (some j) λf1=>aR f1 1 (.slice fz.a fz.len fz.cap) f0 λf2=>fn f2) (fn fr)) λf3=>dT e9 λf4=>bW (some j) λf5=>aU f4 f5 0 λf6=>aS f4 e6 0 λf7=>aS f4 e6 1 λf8=>YZ.c f6 f7 f8 e9 λf9 ga gb=>If (((f9.len:Nat):Int)>0) (aQ e6 0 gb λgc=>YG.c a b gc f9 gb λgd=>f3 gd) (f3 gb)) (∃is8:Bool,kC c 258 [] [] is8 ∧ (If is8 (aV #[] 258 o λge gf=>bF (some j) 1 gf λgh=>Ix gh.a gh.len 0 2 λgi=>aQ gi 0 gf λgj=>aX gi 1 gf λgk=>aV #[.I 0,.slice none 0 0] 147 gf λgl gm=>aR gl 0 (.I gj) gm λgn=>aR gl 1 (.slice gk.a gk.len gk.cap) gn λgo=>bF (some j) 1 go λgq=>fI gq 2 1 (gq.len:Nat) (gq.cap:Nat) λgr=>Wz.c gr go λgs gt=>bW (some j) λgu=>aR gu 1 (.slice gs.a gs.len gs.cap) gt λgv=>dT gv λgw=>aS gw gl 0 λgx=>aT gw gl 1 λgy=>ZT.c a b gv λgz g0=>And (gw g0) <| ZO.c a gz gx gy g0 λg1=>
 Xm.c a b g1 λg2 g3=>aR f 0 (.I 0) g3 λg4=>aR f 1 (.I 0) g4 λg5=>aQ f 0 g5 λg6=>aQ f 1 g5 λg7=>e (g2) g6 g7 g5) (∃t332:Int,∃t3321:Int,∃is9:Bool,kC c 262 [.I t332,.I t3321] [.I 0,.I 0] is9 ∧ (If is9 (aV #[.I 0,.I 0] 262 o λg8 g9=>aR g8 0 (.I t332) g9 λha=>aR g8 1 (.I t3321) ha λhb=>bF a 7 hb λhd=>aQ g8 1 hb λhe=>Ix hd.a hd.len he 1 λhf=>fZ hf hb λhg=>aQ g8 0 hb λhh=>Xf.c hg hh hb λhi hj=>w hj) (∃is10:Bool,kC c 241 [] [] is10 ∧ (If is10 (aV #[] 241 o λhk hl=>bG (some j) 0 hl λhn=>X0.c hn hl λho hp=>bW (some j) λhq=>aR hq 1 (.slice ho.a ho.len ho.cap) hp λhr=>Xm.c a b hr λhs ht=>aR f 0 (.I 0) ht λhu=>aR f 1 (.I 0) hu λhv=>aQ f 0 hv λhw=>aQ f 1 hv λhx=>e (hs) hw hx hv) (w o))))))))))))))))))))))
theorem ZQ.o {a b c d e}(f:ZQ.v a b c d e):ZQ.c a b c d e:=Wa Tryz.func126 (x:=ZQ.h) (R0 f)
def Q9.h:Hn:=.q .o2 (.q (.cU (.seq [.op,.op,.op,.op,.cZ true 3 (RI.ops 3),.op,.cZ true 4 (RI.ops 4),.op,.cZ true 3 (RI.ops 3),.op,.cZ true 3 (RI.ops 3),.op,.cZ true 3 (RI.ops 3),.op,.cZ true 3 (RI.ops 3),.op,.cZ true 3 (RI.ops 3),.op,.cZ true 3 (RI.ops 3),.op,.cZ true 3 (RI.ops 3),.op,.cZ true 3 (RI.ops 3),.op])) .l)
def Q9.v (a b c d e:Int)(f:Hp)(g:aO):Prop:=aV #[.I a,.I b,.I c,.I d,.I e] 23 f λh i=>aQ h 0 i λj=>bX (λk l=>bX (λm n=>bX (λo p=>bX (λq r=>bX (λs t=>bX (λu v=>bX (λw x=>bX (λy z=>bX (λaa ab=>bX (λac ad=>g ac ad) λae=>If aa (aQ h 4 ab λaf=>ae (decide (af<=8)) ab) (ae false ab)) λag=>If y (aQ h 4 z λah=>ag (decide (ah≥0)) z) (ag false z)) λai=>If w (aQ h 3 x λaj=>ai (decide (aj<=65536)) x) (ai false x)) λak=>If u (aQ h 3 v λal=>ak (decide (al≥0)) v) (ak false v)) λam=>If s (aQ h 2 t λan=>am (decide (an<=4)) t) (am false t)) λao=>If q (aQ h 2 r λap=>ao (decide (ap≥1)) r) (ao false r)) λaq=>If o (aQ h 1 p λar=>aq (decide (ar<=4)) p) (aq false p)) λau=>If m (aQ h 1 n λav=>au (decide (av≥1)) n) (au false n)) λaw=>If k (aQ h 0 l λax=>Nz 16 <| aw ((ax.tmod 16)==0) l) (aw false l)) λay=>If (j≥32) (aQ h 0 i λaz=>ay (decide (az<=1024)) i) (ay false i)
theorem Q9.o {a b c d e f g}(h:Q9.v a b c d e f g):Q9.c a b c d e f g:=Wa Tryz.func152 (x:=Q9.h) (R0 h)
def ZT.h:Hn:=.q .o1 (.q .o8 .l)
def ZT.v (a:R2)(b:Int)(c:Hp)(d:aN):Prop:=bF a 7 c λf=>Nz ((f.len:Nat):Int) <| d (b.tmod ((f.len:Nat):Int)) c
theorem ZT.o {a b c d}(e:ZT.v a b c d):ZT.c a b c d:=Wa Tryz.func165 (x:=ZT.h) (R0 e)
def Zb.h:Hn:=.q .o2 (.q (.cU (.held true [12] (.tk [0,1,2,3,4,5,6,7,8,9] (.all [(10,.take 11 (.all [(12,.done)]))])))) (.q .o4 .l))
def Zb.v (a:R2)(b c d:Int)(e:Hp)(f:Value->Int->Int->Hp->Prop):Prop:=aV #[.I 0,.I 0] 137 e λg h=>dT h λi=>bW a λj=>gF i .m (j.add 9) λ(k:Option Nat)=>Yz.c a b h λl m=>And (i m) <| kS .i64 (.ag 4) k b (b,c,d,l) m λn=>aR g 0 (.I b) n λo=>aR g 1 (.I 0) o λp=>aQ g 0 p λq=>aQ g 1 p λr=>f (.nilIface) q r p
theorem Zb.o {a b c d e f}(g:Zb.v a b c d e f):Zb.c a b c d e f:=Wa Tryz.func167 (x:=Zb.h) (R0 g)
def YG.h:Hn:=.cU (.held true [20] (.tk [0,1,2,3,4,5,6,7,8,9,10,11,12,13,14,15] (.all [(16,.all [(17,.take 18 (.take 19 (.all [(20,.done)])))])])))
def YG.v (a:R2)(b c:Int)(d:Sl)(e:Hp)(f:aP):Prop:=dT e λg=>bW a λh=>aT g h 8 λi=>bW a λj=>aT g j 8 λk=>Ix k.a k.len b 3 λl=>aT g l 1 λm=>aV #[.I c,.slice d.a d.len d.cap] 147 e λn o=>And (g o) <| App m 2 32 147 [.I 0,.slice none 0 0] ⟨some n,1,1⟩ o λp q=>And (g q) <| Ix i.a i.len b 3 λr=>aR r 1 (.slice p.a p.len p.cap) q λs=>f s
theorem YG.o {a b c d e f}(g:YG.v a b c d e f):YG.c a b c d e f:=Wa Tryz.func170 (x:=YG.h) (R0 g)
def ZS.h:Hn:=.q .o2 (.q (.o 12) (.q (.q .o2 (.c (.kx [] (.q .o4 (.q .o2 (.c (.q (.o 16) (.q (.cU (.seq [.op,.op,.op,.cZ true 2 [.op,.op],.op,.cZ true 3 (RI.ops 3)])) (.c (.q .o3 .l) .l))) .l))) (.q .o3 .l)) .l)) (.q .o6 (.q (.q .o3 (.c (.q .o9 .l) .l)) (.q .o7 (.q .o8 .l))))))
def ZS.v (a:R2)(b c:Int)(d:Hp)(e:Value->Int->Int->Hp->Prop):Prop:=aV #[.I 0,.I 0] 137 d λf g=>bJ a 9 g λi=>Lk .i64 (.ag 4) i c g λj=>aV #[.I 0,.I 0,.I 0,.I 0] 126 g λk l=>aR k 0 (.I ((j.getD (0,0,0,0)).1)) l λm=>aR k 1 (.I ((j.getD (0,0,0,0)).2.1)) m λn=>aR k 2 (.I ((j.getD (0,0,0,0)).2.2.1)) n λo=>aR k 3 (.I ((j.getD (0,0,0,0)).2.2.2)) o λp=>If (!j.isSome) (Jn [] (λq=>aR f 0 (.I 0) q λr=>aR f 1 (.I 8) r λs=>aQ f 0 s λt=>aQ f 1 s λu=>e (.nilIface) t u s) λv=>Yz.c a c p λw x=>If (w≥0) (bF a 7 x λz=>Ix z.a z.len w 1 λaa=>fZ aa x λab=>Za.c ab c x λac ad ae af=>bX (λag ah=>bX (λai aj=>If ai (aR f 0 (.I 0) aj λak=>aR f 1 (.I 9) ak λal=>aQ f 0 al λam=>aQ f 1 al λan=>e (.nilIface) am an al) (v aj)) λao=>If ag (ao (ad==c) ah) (ao false ah)) λap=>If (ae==0) (ap (decide (ac≥0)) af) (ap false af)) (v x)) (bJ a 9 p λar=>l5 .i64 (.ag 4) ar c p λau=>aQ k 2 au λav=>If (av<0) (Nz 256<|bM (c.tdiv 256) λaw=>aQ k 3 au λax=>aR f 0 (.I 0) au λay=>aR f 1 (.I 0) ay λaz=>aQ f 0 az λa0=>aQ f 1 az λa1=>e (.iface 262 (.agg #[.I aw,.I ax])) a0 a1 az) (aQ k 2 au λa2=>aV #[.I c] 3 au λa3 a4=>YG.c a b a2 ⟨some a3,1,1⟩ a4 λa5=>aQ k 2 a5 λa6=>aR f 0 (.I 0) a5 λa7=>
 aR f 1 (.I 0) a7 λa8=>aQ f 0 a8 λa9=>aQ f 1 a8 λba=>e (.iface 255 (.agg #[.I a6,.I c])) a9 ba a8))
theorem ZS.o {a b c d e}(f:ZS.v a b c d e):ZS.c a b c d e:=Wa Tryz.func175 (x:=ZS.h) (R0 f)
def Xm.h:Hn:=.q .o1 (.q (.q .gE .aK) (.q .o3 .l))
def Xm.v (a:R2)(b:Int)(c:Hp)(d:Value->Hp->Prop):Prop:=bF a 8 c λf=>Ix f.a f.len b 3 λg=>aX g 1 c λh=>If (((h.len:Nat):Int)==0) (d (.nilIface) c) (d (.iface 258 (.agg #[])) c)
theorem Xm.o {a b c d}(e:Xm.v a b c d):Xm.c a b c d:=Wa Tryz.func179 (x:=Xm.h) (R0 e)
def ZO.h:Hn:=.q .o1 (.q .o7 (.q (.q .o4 (.k (.loop [(23,.I)] (.q .o1 (.q (.c .l .l) (.q (.k (.q .o3 (.q .o4 (.o 11)))) .o2)))))) (.kx [] (.q (.oq 9) (.c (.q (.cU (.held true [] (.tk [0,1,2,3,4,5,6,7,8,9,10] (.all [(11,.tk [12,13,14,15,16] (.done))])))) (.q (.cU (.seq [.op,.op,.cZ true 2 [.op,.op]])) (.c .l .l))) .l)) (.q .o3 (.k (.loop [(72,.I)] (.q .o1 (.q (.c .l .l) (.q (.k (.q .o5 (.q .o3 (.c (.cU (.tail 10 (RI.ops 10) [.op])) .l)))) .o2)))))))))
def ZO.v (a:R2)(b c:Int)(d:Sl)(e:Hp)(f:aP):Prop:=aV #[.I c,.slice d.a d.len d.cap] 147 e λg h=>bW a λi=>aX i 7 h λj=>Mk ((j.len:Nat):Int) ((j.len:Nat):Int) 24 31 [.slice none 0 0] h λk l=>aX g 1 l λm=>X9 [bO] (λn=>n 0 l) λo (p:Int) q=>If (p<((m.len:Nat):Int)) (Ix m.a m.len p 1 λr=>bN r q λs=>Yz.c a s q λt u=>Ix k.a k.len t 1 λv=>jF v u λw=>aV #[.I s] 3 u λx y=>App w 1 8 3 [.I 0] ⟨some x,1,1⟩ y λz aa=>Ix k.a k.len t 1 λab=>dG ab (.slice z.a z.len z.cap) aa λac=>bM (p+1) λad=>o ad ac) (Jn [] (λae=>X9 [bO] (λaf=>af 0 ae) λag (ah:Int) ai=>If (ah<((k.len:Nat):Int)) (Ix k.a k.len ah 1 λaj=>jF aj ai λak=>If (((ak.len:Nat):Int)>0) (bF a 7 ai λam=>Ix am.a am.len ah 1 λan=>fZ an ai λao=>aQ g 0 ai λap=>Xd.c ao ap ak ai λaq ar=>bM (ah+1) λau=>ag au ar) (bM (ah+1) λav=>ag av ai)) (f ai)) λaw=>Ix k.a k.len b 1 λax=>jF ax q λay=>aX g 1 q λaz=>If (((ay.len:Nat):Int)==((az.len:Nat):Int)) (dT q λa0=>bW a λa1=>aT a0 a1 7 λa2=>Ix a2.a a2.len b 1 λa3=>gF a0 .p a3 λ(a4:R2)=>aS a0 g 0 λa5=>aT a0 g 1 λa6=>W6.c a4 a5 a6 q λa7 a8 a9=>And (a0 a9) <| bX (λba bb=>If ba (f bb) (aw bb)) λbc=>If a7 (bc (a8==0) a9) (bc false a9)) (aw q))
theorem ZO.o {a b c d e f}(g:ZO.v a b c d e f):ZO.c a b c d e f:=Wa Tryz.func181 (x:=ZO.h) (R0 g)
def Yz.h:Hn:=.q .o2 (.q (.q .o2 .aK) (.q .o7 .l))
def Yz.v (a:R2)(b:Int)(c:Hp)(d:aN):Prop:=aV #[.I b] 3 c λe f=>bN e f λg=>If (g<0) (d (-1) f) (bF a 7 f λi=>Wr.c i ⟨283,#[],#[.pointer (some e)]⟩ f λj k=>d j k)
theorem Yz.o {a b c d}(e:Yz.v a b c d):Yz.c a b c d:=Wa Tryz.func230 (x:=Yz.h) (R0 e)
def Zm.h:Hn:=.q .o1 (.q .o5 .l)
def Zm.v (a:R2)(b:Addr)(c:Hp)(d:aO):Prop:=bN b c λe=>Nz 256<|bM (e.tdiv 256) λf=>Y6.c a f c λg h=>d g h
theorem Zm.o {a b c d}(e:Zm.v a b c d):Zm.c a b c d:=Wa Tryz.func283 (x:=Zm.h) (R0 e)
def Qh.h:Hn:=.q .o2 .aM
def Qh.v (a:Int)(b:Hp)(c:ByteArray->Hp->Prop):Prop:=aV #[.I a] 235 b λd e=>c (ByteArray.mk #[116,97,107,101]) e
theorem Qh.o {a b c}(d:Qh.v a b c):Qh.c a b c:=Wa Tryz.func379 (x:=Qh.h) (R0 d)
def Z7.h:Hn:=.q .o2 .aM
def Z7.v (a:Int)(b:Hp)(c:ByteArray->Hp->Prop):Prop:=aV #[.I a] 237 b λd e=>c (ByteArray.mk #[108,97,114,103,101]) e
theorem Z7.o {a b c}(d:Z7.v a b c):Z7.c a b c:=Wa Tryz.func380 (x:=Z7.h) (R0 d)
def Qk.h:Hn:=.q .o2 .aM
def Qk.v (a:Int)(b:Hp)(c:ByteArray->Hp->Prop):Prop:=aV #[.I a] 239 b λd e=>c (ByteArray.mk #[102,105,110,100]) e
theorem Qk.o {a b c}(d:Qk.v a b c):Qk.c a b c:=Wa Tryz.func381 (x:=Qk.h) (R0 d)
def Z5.h:Hn:=.q .o2 .aM
def Z5.v (a:Hp)(b:ByteArray->Hp->Prop):Prop:=aV #[] 241 a λc d=>b (ByteArray.mk #[100,114,97,105,110]) d
theorem Z5.o {a b}(c:Z5.v a b):Z5.c a b:=Wa Tryz.func382 (x:=Z5.h) (R0 c)
def Zn.h:Hn:=.q .o2 .aM
def Zn.v (a b:Int)(c:Hp)(d:ByteArray->Hp->Prop):Prop:=aV #[.I a,.I b] 245 c λe f=>d (ByteArray.mk #[116,114,97,110,115,102,101,114]) f
theorem Zn.o {a b c d}(e:Zn.v a b c d):Zn.c a b c d:=Wa Tryz.func383 (x:=Zn.h) (R0 e)
def Qt.h:Hn:=.q .o2 .aM
def Qt.v (a:Hp)(b:ByteArray->Hp->Prop):Prop:=aV #[] 247 a λc d=>b (ByteArray.mk #[102,105,108,108]) d
theorem Qt.o {a b}(c:Qt.v a b):Qt.c a b:=Wa Tryz.func384 (x:=Qt.h) (R0 c)
def ZH.h:Hn:=.q .o2 .aM
def ZH.v (a b:Int)(c:Hp)(d:ByteArray->Hp->Prop):Prop:=aV #[.I a,.I b] 248 c λe f=>d (ByteArray.mk #[99,101,110,116,114,97,108]) f
theorem ZH.o {a b c d}(e:ZH.v a b c d):ZH.c a b c d:=Wa Tryz.func385 (x:=ZH.h) (R0 e)
def Qo.h:Hn:=.q .o2 .aM
def Qo.v (a b:Int)(c:Hp)(d:ByteArray->Hp->Prop):Prop:=aV #[.I a,.I b] 250 c λe f=>d (ByteArray.mk #[103,114,111,119]) f
theorem Qo.o {a b c d}(e:Qo.v a b c d):Qo.c a b c d:=Wa Tryz.func386 (x:=Qo.h) (R0 e)
def QF.h:Hn:=.q .o2 .aM
def QF.v (a b:Int)(c:Hp)(d:ByteArray->Hp->Prop):Prop:=aV #[.I a,.I b] 255 c λe f=>d (ByteArray.mk #[112,117,116]) f
theorem QF.o {a b c d}(e:QF.v a b c d):QF.c a b c d:=Wa Tryz.func387 (x:=QF.h) (R0 e)
def Qi.h:Hn:=.q .o2 .aM
def Qi.v (a:Hp)(b:ByteArray->Hp->Prop):Prop:=aV #[] 258 a λc d=>b (ByteArray.mk #[98,97,99,107]) d
theorem Qi.o {a b}(c:Qi.v a b):Qi.c a b:=Wa Tryz.func388 (x:=Qi.h) (R0 c)
def Qm.h:Hn:=.q .o2 .aM
def Qm.v (a b:Int)(c:Hp)(d:ByteArray->Hp->Prop):Prop:=aV #[.I a,.I b] 262 c λe f=>d (ByteArray.mk #[103,105,118,101]) f
theorem Qm.o {a b c d}(e:Qm.v a b c d):Qm.c a b c d:=Wa Tryz.func389 (x:=Qm.h) (R0 e)
end Go.Proofs
namespace Go.Ar
open Go Go.Vc Go.Proofs
def nr:Option Ph->Value
 | none=>.nilIface
 | some (.take k)=>.iface 235 (.agg #[.int .i64 (k:Int)])
 | some (.cJ k w)=>.iface 245 (.agg #[.int .i64 (k:Int),.int .i64 (w:Int)])
 | some (.cL k w)=>.iface 248 (.agg #[.int .i64 (k:Int),.int .i64 (w:Int)])
 | some (.grow k w)=>.iface 250 (.agg #[.int .i64 (k:Int),.int .i64 (w:Int)])
 | some .fill=>.iface 247 (.agg #[])
 | some (.eT m)=>.iface 237 (.agg #[.int .i64 (m:Int)])
 | some (.find x)=>.iface 239 (.agg #[.int .i64 x])
 | some (.put k x)=>.iface 255 (.agg #[.int .i64 (k:Int),.int .i64 x])
 | some .back=>.iface 258 (.agg #[])
 | some (.dF s a)=>.iface 262 (.agg #[.int .i64 s,.int .i64 a])
 | some .drain=>.iface 241 (.agg #[])
theorem wg (p:Option Ph):jd (nr p):=by
 cases p with
 | none=>exact .inl rfl
 | some p=>cases p<;>exact .inr ⟨_,_,rfl⟩
theorem yx (p:Option Ph):kM (nr p)=p.isNone:=by
 cases p with
 | none=>rfl
 | some p=>cases p<;>rfl
inductive kW where
 | hd|dI|sp|fT|cS|live
 | ar (k:Nat)
 | ca (k:Nat)
 | hn (k:Nat)
 deriving DecidableEq
structure eU where
 c:hO
 h:Sl
structure dE where
 p:Nat
 hs:Nat
 lm:Nat
 dI:Sl
 fT:Sl
 cS:Sl
 ys:List Lay
 ts:List eU
def AX (L:dE)(c:Cf):List Value:=[.slice L.dI.a L.dI.len L.dI.cap,.int .i64 (c.aG:Int),.int .i64 (c.ig:Int),.int .i64 (c.threads:Int),.int .i64 (c.dD:Int),.int .i64 (c.room:Int),
 .pointer (some ⟨L.hs,0,none⟩),.slice L.fT.a L.fT.len L.fT.cap,.slice L.cS.a L.cS.len L.cS.cap,.map (some L.lm)]
def jI (x:eU×Th):List Value:=[.pointer (some ⟨x.1.c.p,0,none⟩),.slice x.1.h.a x.1.h.len x.1.h.cap,nr x.2.ph]
def ia (ts:List eU)(bR:List Th):List Value:=(ts.zip bR).flatMap jI
theorem GM:∀{ts:List eU} {bR:List Th},ts.length=bR.length->(ia ts bR).length=bR.length*3
 | [],[],_=>rfl
 | x::ts,h::bR,e=>by
  have e1:ia (x::ts) (h::bR)=jI (x,h)++ia ts bR:=rfl;have a:(jI (x,h)).length=3:=rfl;rw[e1,zM,GM (by simpa using e),a,zS];omega
 | [],_::_,e=>by simp at e
 | _::_,[],e=>by simp at e
theorem Cc:∀{ts:List eU} {bR:List Th} {i:Nat} {x:eU} {h:Th},ts[i]?=some x->bR[i]?=some h->∀{d:Nat},d<3->(ia ts bR)[3*i+d]?=(jI (x,h))[d]?
 | [],_,_,_,_,h1,_,_,_=>by simp at h1
 | _::_,[],_,_,_,_,h2,_,_=>by simp at h2
 | y::ts,g::bR,0,x,h,h1,h2,d,hd=>by
  have e1:ia (y::ts) (g::bR)=jI (y,g)++ia ts bR:=rfl;have a:(jI (y,g)).length=3:=rfl;simp at h1 h2;subst h1;subst h2;rw[e1,zd O];congr 1;omega
 | y::ts,g::bR,i+1,x,h,h1,h2,d,hd=>by
  have e1:ia (y::ts) (g::bR)=jI (y,g)++ia ts bR:=rfl;have a:(jI (y,g)).length=3:=rfl;rw[e1,zp O,a,show 3*(i+1)+d-3=3*i+d by omega];exact Cc (by simpa using h1) (by simpa using h2) hd
theorem A4:∀{ts:List eU} {bR:List Th} {i:Nat} {x:eU} {h:Th},ts[i]?=some x->bR[i]?=some h->∀{d:Nat} {v:Value} {x':eU} {h':Th},d<3->jI (x',h')=(jI (x,h)).set d v →
 (ia ts bR).set (3*i+d) v=ia (ts.set i x') (bR.set i h')
 | [],_,_,_,_,h1,_,_,_,_,_,_,_=>by simp at h1
 | _::_,[],_,_,_,_,h2,_,_,_,_,_,_=>by simp at h2
 | y::ts,g::bR,0,x,h,h1,h2,d,v,x',h',hd,e=>by
  have e1:ia (y::ts) (g::bR)=jI (y,g)++ia ts bR:=rfl;have e2:ia ((y::ts).set 0 x') ((g::bR).set 0 h')=jI (x',h')++ia ts bR:=rfl;have a:(jI (y,g)).length=3:=rfl;simp at h1 h2;subst h1;subst h2;rw[e1,e2,List.set_append_left _ _ O,e,show 3*0+d=d by omega]
 | y::ts,g::bR,i+1,x,h,h1,h2,d,v,x',h',hd,e=>by
  have e1:ia (y::ts) (g::bR)=jI (y,g)++ia ts bR:=rfl;have e2:ia ((y::ts).set (i+1) x') ((g::bR).set (i+1) h')=jI (y,g)++ia (ts.set i x') (bR.set i h'):=rfl;have a:(jI (y,g)).length=3:=rfl;rw[e1,e2,DE _ _ O,a,show 3*(i+1)+d-3=3*i+d by omega];rw[A4 (by simpa using h1) (by simpa using h2) hd e]
def oO (y:Option Lay)(a:Option AR):Hp->Rg->Prop:=λU F=>match y,a with
 | some Y,some A=>dL U F Y A (cM A Y)
 | _,_=>True
def rZ (x:Option eU)(h:Option Th)(tb:List cA)(bud:Nat):Hp->Rg->Prop:=λU F=>match x,h with
 | some x,some h=>eO U F x.c tb bud h.ls
 | _,_=>True
def qB (x:Option eU)(h:Option Th):Hp->Rg->Prop:=λU F=>match x,h with
 | some x,some h=>iC x.h h.bQ U F
 | _,_=>True
def CH (H:Hw)(L:dE):kW->Hp->Rg->Prop
 | .hd=>iB L.p (AX L H.cf)
 | .dI=>cV L.dI 3 (gK H.tb)
 | .sp=>λU F=>dR U F L.hs H.sp
 | .fT=>cV L.fT 1 (fR (L.ys.map (·.p)))
 | .cS=>bU L.cS 3 (ia L.ts H.bR)
 | .live=>jR L.lm .i64 (.ag 4) H.live
 | .ar k=>oO L.ys[k]? H.bZ[k]?
 | .ca t=>rZ L.ts[t]? H.bR[t]? H.tb H.cf.dD
 | .hn t=>qB L.ts[t]? H.bR[t]?
theorem oO.loc (y:Option Lay)(a:Option AR):dP (oO y a):=by
 intro U σ' F G h hz hs;unfold oO at *;split at h
 .exact dL.loc _ _ _ _ h hz hs
 .trivial
theorem rZ.loc (x:Option eU)(h:Option Th)(tb:List cA)(bud:Nat):dP (rZ x h tb bud):=by
 intro U σ' F G h hz hs;unfold rZ at *;split at h
 .exact eO.loc _ _ _ _ h hz hs
 .trivial
theorem qB.loc (x:Option eU)(h:Option Th):dP (qB x h):=by
 intro U σ' F G h hz hs;unfold qB at *;split at h
 .exact iC.loc _ _ _ _ _ _ h hz hs
 .trivial
theorem CH.loc {H:Hw}{L:dE}:∀i,dP (CH H L i)
 | .hd=>iB.loc _ _
 | .dI=>cV.loc _ _ _
 | .sp=>dR.loc
 | .fT=>cV.loc _ _ _
 | .cS=>bU.loc _ _ _
 | .live=>jR.loc _ _ _ _
 | .ar k=>oO.loc _ _
 | .ca t=>rZ.loc _ _ _ _
 | .hn t=>qB.loc _ _
structure HS (L:dE) (H:Hw):Prop where
 ys:L.ys.length=H.bZ.length
 hs:∀Y∈L.ys,Y.hs=L.hs
 ts:L.ts.length=H.bR.length
 a1:1<=H.bZ.length
 a2:H.bZ.length<=4
 t1:1<=H.bR.length
 t2:H.bR.length<=4
 tb:∀A∈H.bZ,A.tb=H.tb
structure HH (U:Hp) (F:Rg) (L:dE) (H:Hw):Prop where
 s:HS L H
 sep:Sep (CH H L) U F
 g:Gl U
 gd:Gd U
 o:jh F
 o2:¬F 1
variable {U:Hp}{F:Rg}{L:dE}{H:Hw}{t k:Nat}
theorem HH.bP (h:HH U F L H){σ':Hp}(e:aF U σ'):HH σ' F L H:=⟨h.s,(Sep.loc CH.loc).bP h.sep e,h.g.bP e,h.gd.bP e,h.o,h.o2⟩
theorem HH.bT (h:HH U F L H){σ':Hp}{T:Rg}(e:Ext T U σ')(hT:∀b,b<U.size->F b->¬T b)(hg:jh T)(hg2:¬T 1):HH σ' F L H:=⟨h.s,(Sep.loc CH.loc).bT h.sep e hT,h.g.bT e hg,h.gd.bT e hg2,h.o,h.o2⟩
theorem D8 {U:Hp}(g:Gd U):1<U.size:=g.lt
theorem HH.mono (h:HH U F L H){G:Rg}(hs:∀b,b<U.size->F b->G b)(o:jh G)(o2:¬G 1):HH U G L H:=⟨h.s,(Sep.loc CH.loc).mono h.sep hs,h.g,h.gd,o,o2⟩
theorem HH.oG (h:HH U F L H):jh (Grow F U):=h.o.grow h.g
theorem HH.rK (h:HH U F L H):¬Grow F U 1:=λa=>by
 rcases a with a|a
 .exact h.o2 a
 .have:=D8 h.gd;omega
theorem HH.sub (h:HH U F L H){G:Rg}(hs:∀b,b<U.size->F b->G b)(hg:∀b,G b->F b\/U.size<=b):HH U G L H:=
 h.mono hs (h.oG.sub hg) λa=>h.rK (hg _ a)
theorem HH.wZ {v v':Hp}{G T:Rg}{L0:dE}{H0:Hw}(h0:HH U F L0 H0)(h:HH v G L H)(e:Ext T v v')(hT:∀b,T b->U.size<=b)(hG:∀b,b<v.size->G b->¬T b):HH v' G L H:=
 h.bT e hG (h0.oG.sub λb a=>.inr (hT b a)) λa=>h0.rK (.inr (hT _ a))
theorem HH.grown {σ':Hp}{R:Rg}{L':dE}{H':Hw}(h:HH U F L H)(h':HH σ' R L' H')(hr:∀b,b<σ'.size->R b->Grow F U b):HH σ' (Grow F U) L' H':=h'.mono hr h.oG h.rK
theorem HH.cut (h:HH U F L H):HH U (Cut F U) L H:=h.sub (λb a d=>⟨d,a⟩) λb a=>.inl a.1
theorem HH.mr (h:HH U F L H)(i:kW):∃G:Rg,(∀b,G b->F b)/\CH H L i U G/\(∀j,j≠i->∃D:Rg,(∀b,D b->F b)/\(∀b,D b->¬G b)/\CH H L j U D) ∧
 ∀(σ':Hp) (H':Hw) (L':dE) (G':Rg),HS L' H'->(∀j,j≠i->CH H' L' j=CH H L j)->Ext G U σ'->(∀b,G' b->Grow G U b)->CH H' L' i σ' G' →
  Ext F U σ'/\HH σ' (λb=>F b/\b<U.size/\¬G b\/G' b) L' H':=by
 obtain⟨G,r,hi,hd,d⟩:=h.sep.ka CH.loc i;refine⟨G,r,hi,hd,λσ' H' L' G' w u e s x=>?_⟩;have p:=e.sub r;have m:∀b,(F b/\b<U.size/\¬G b\/G' b)->Grow F U b:=λb a=>by
  rcases a with a|a
  .exact .inl a.1
  .exact(s b a).imp (r b) id
 refine⟨p,w,d σ' (CH H' L') G' u e s x (CH.loc _),h.g.bT p h.o,h.gd.bT p h.o2,λb a=>(h.o.grow h.g) b (m b a),λa=>?_⟩;rcases m _ a with h1|h1
 .exact h.o2 h1
 .have:=D8 h.gd;omega
theorem _root_.Go.Vc.Sep.ue {L:Type}{C:L->Hp->Rg->Prop}{U:Hp}{F:Rg}(hC:∀i,dP (C i))(h:Sep C U F)(i j:L)(hij:i≠j)(N:Rg)(hN:∀b,b<U.size->F b->¬N b):∃G D:Rg,(∀b,G b->F b)/\(∀b,D b->F b)/\(∀b,G b->¬D b)/\C i U G/\C j U D/\(∀m,m≠i->m≠j->∃E:Rg,(∀b,E b->F b)/\(∀b,E b->¬(G b\/D b))/\C m U E) ∧
 ∀(σ':Hp) (C':L->Hp->Rg->Prop) (G' D':Rg),(∀k,k≠i->k≠j->C' k=C k)->Ext (λb=>G b\/D b) U σ'->(∀b,G' b->(G b\/D b)\/N b)->(∀b,D' b->(G b\/D b)\/N b)->(∀b,G' b->¬D' b)->C' i σ' G'->C' j σ' D'->(∀k,dP (C' k)) →
 Sep C' σ' λb=>F b/\b<U.size/\¬(G b\/D b)\/G' b\/D' b:=by
 obtain⟨ρ,h⟩:=h
 let G:Rg:=λb=>F b/\ρ b=i
 let D:Rg:=λb=>F b/\ρ b=j
 refine⟨G,D,λb a=>a.1,λb a=>a.1,λb u w=>hij (u.2.symm.trans w.2),h i,h j,λm u w=>⟨λb=>F b/\ρ b=m,λb a=>a.1,λb a d=>d.elim (λx=>u (a.2.symm.trans x.2)) λx=>w (a.2.symm.trans x.2),h m⟩,λσ' C' G' D' H e A B hd hi z y=>?_⟩
 open Classical in
 refine⟨λb=>if G' b then i else if D' b then j else ρ b,λk=>?_⟩
 by_cases hki:k=i
 .subst hki;exact(y _).mono hi λb _ a=>⟨.inr (.inl a),zC a⟩
 by_cases hkj:k=j
 .subst hkj;exact(y _).mono z λb _ a=>⟨.inr (.inr a),by show(if G' b then i else if D' b then k else ρ b)=k;rw[zB λd=>hd b d a,zC a]⟩
 .rw[H k hki hkj];refine hC k _ _ _ _ (h k) e.1 λb a g=>?_;have s:¬(G b\/D b):=by
   rintro(d|d)
   .exact hki (g.2.symm.trans d.2)
   .exact hkj (g.2.symm.trans d.2)
  have p:¬G' b:=λd=>(A b d).elim s (hN b a g.1);have r:¬D' b:=λd=>(B b d).elim s (hN b a g.1);exact⟨⟨.inl ⟨g.1,a,s⟩,by show(if G' b then i else if D' b then j else ρ b)=k;rw[zB p,zB r];exact g.2⟩,e.2 b a s⟩
theorem HH.pt (h:HH U F L H)(i j:kW)(hij:i≠j)(N:Rg)(hN:∀b,b<U.size->F b->¬N b)(oN:jh N)(oN2:¬N 1):∃G D:Rg,(∀b,G b->F b)/\(∀b,D b->F b)/\(∀b,G b->¬D b)/\CH H L i U G/\CH H L j U D/\(∀m,m≠i->m≠j->∃E:Rg,(∀b,E b->F b)/\(∀b,E b->¬(G b\/D b))/\CH H L m U E) ∧
 ∀(σ':Hp) (H':Hw) (L':dE) (G' D':Rg),HS L' H'->(∀m,m≠i->m≠j->CH H' L' m=CH H L m)->Ext (λb=>G b\/D b) U σ'->(∀b,G' b->(G b\/D b)\/N b)->(∀b,D' b->(G b\/D b)\/N b)->(∀b,G' b->¬D' b)->CH H' L' i σ' G'->CH H' L' j σ' D' →
  Ext F U σ'/\HH σ' (λb=>F b/\b<U.size/\¬(G b\/D b)\/G' b\/D' b) L' H':=by
 obtain⟨G,D,s,u,hd,hi,C,r,d⟩:=h.sep.ue CH.loc i j hij N hN;refine⟨G,D,s,u,hd,hi,C,r,λσ' H' L' G' D' K M e z A w B J=>?_⟩;have y:Ext F U σ':=e.sub λb a=>a.elim (s b) (u b);have p:∀b,(F b/\b<U.size/\¬(G b\/D b)\/G' b\/D' b)->F b\/N b:=λb a=>by
  rcases a with a|a|a
  .exact .inl a.1
  .exact(z b a).imp (λx=>x.elim (s b) (u b)) id
  .exact(A b a).imp (λx=>x.elim (s b) (u b)) id
 refine⟨y,K,d σ' (CH H' L') G' D' M e z A w B J CH.loc,h.g.bT y h.o,h.gd.bT y h.o2,λb a=>(p b a).elim (h.o b) (oN b),λa=>?_⟩;exact(p _ a).elim h.o2 oN2
theorem HH.mZ (h:HH U F L H):jh (λb=>U.size<=b)/\¬(U.size<=1):=⟨h.oG.sub λb a=>.inr a,λa=>h.rK (.inr a)⟩
theorem HH.pf (h:HH U F L H)(i j:kW)(hij:i≠j):∃G D:Rg,(∀b,G b->F b)/\(∀b,D b->F b)/\(∀b,G b->¬D b)/\CH H L i U G/\CH H L j U D/\(∀m,m≠i->m≠j->∃E:Rg,(∀b,E b->F b)/\(∀b,E b->¬(G b\/D b))/\CH H L m U E) ∧
 ∀(σ':Hp) (H':Hw) (L':dE) (G' D':Rg),HS L' H'->(∀m,m≠i->m≠j->CH H' L' m=CH H L m)->Ext (λb=>G b\/D b) U σ'->(∀b,G' b->(G b\/D b)\/U.size<=b)->(∀b,D' b->(G b\/D b)\/U.size<=b)->(∀b,G' b->¬D' b)->CH H' L' i σ' G'->CH H' L' j σ' D' →
  Ext F U σ'/\HH σ' (λb=>F b/\b<U.size/\¬(G b\/D b)\/G' b\/D' b) L' H':=
 h.pt i j hij _ (λb a _=>O) h.mZ.1 h.mZ.2
theorem HH.hd (h:HH U F L H):bY U L.p (AX L H.cf):=by obtain⟨G,b,a⟩:=h.sep.get .hd;exact a.2
theorem HH.jQ (h:HH U F L H):cV L.dI 3 (gK H.tb) U F:=by
 obtain⟨G,d,a⟩:=h.sep.get .dI;exact aH.mono a λb _ a=>d b a
theorem HH.oU (h:HH U F L H):L.dI.len=H.tb.length:=by
 have:=h.jQ.1;rw[Uv]at this;omega
theorem HH.nm (h:HH U F L H):cV L.fT 1 (fR (L.ys.map (·.p))) U F:=by
 obtain⟨G,d,a⟩:=h.sep.get .fT;exact aH.mono a λb _ a=>d b a
theorem HH.ns (h:HH U F L H):L.fT.len=H.bZ.length:=by
 have:=h.nm.1;have:=h.s.ys;simp[fR]at *;omega
theorem HH.ng (h:HH U F L H):cV L.cS 3 (ia L.ts H.bR) U F:=by
 obtain⟨G,d,a⟩:=h.sep.get .cS;exact aH.mono (bU.fY a) λb _ a=>d b a
theorem HH.lW (h:HH U F L H):L.cS.len=H.bR.length:=by
 have:=h.ng.1;rw[GM h.s.ts]at this;omega
theorem HH.nk (h:HH U F L H):dM U L.lm .i64 (.ag 4) H.live:=by obtain⟨G,b,a⟩:=h.sep.get .live;exact a.2
theorem HH.M8 (h:HH U F L H):dR U F L.hs H.sp:=by
 obtain⟨G,d,a⟩:=h.sep.get .sp;exact dP.mono dR.loc a λb _ a=>d b a
theorem HH.ar (h:HH U F L H){A:AR}(hk:H.bZ[k]?=some A):∃Y,L.ys[k]?=some Y/\Y.hs=L.hs/\dL U F Y A (cM A Y):=by
 have g:=(cY.1 hk).1;have d:L.ys[k]?=some (L.ys[k]'(by rw[h.s.ys];exact g)):=cW _;obtain⟨G,i,a⟩:=h.sep.get (.ar k);simp only[CH,hk,d,oO]at a;exact⟨_,d,h.s.hs _ (zG d),a.mono λb _ a=>i b a⟩
theorem HH.rA (h:HH U F L H){Y:Lay}(hy:L.ys[k]?=some Y){K:Option Addr->Prop}(hK:K (some ⟨Y.p,0,none⟩)):Ix L.fT.a L.fT.len (k:Int) 1 λa=>fZ a U K:=
 BE h.nm (by simp[hy]) hK
theorem HH.th (h:HH U F L H)(ht:t<H.bR.length):∃x g,L.ts[t]?=some x/\H.bR[t]?=some g:=⟨L.ts[t]'(by rw[h.s.ts];exact ht),H.bR[t],cW _,cW _⟩
theorem wO {s:Sl}{ts:List eU}{bR:List Th}(h:cV s 3 (ia ts bR) U F){x:eU}{g:Th}(hx:ts[t]?=some x)(hg:bR[t]?=some g){d:Nat}(hd:d<3){v:Value}(hv:(jI (x,g))[d]?=some v):∃b o,s.a=some ⟨b,o,none⟩/\cell U ⟨b,o+(3*t+d),none⟩=some v:=
 h.cell ((Cc hx hg hd).trans hv)
theorem DO {s:Sl}{ts:List eU}{bR:List Th}(hs:cV s 3 (ia ts bR) U F)(hl:ts.length=bR.length){x:eU}{g:Th}(hx:ts[t]?=some x)(hg:bR[t]?=some g){d:Nat}(hd:d<3){v:Value}(hv:(jI (x,g))[d]?=some v){K:Addr->Prop}
 (hK:∀b o,s.a=some ⟨b,o,none⟩->cell U (Addr.add ⟨b,o+3*t,none⟩ d)=some v->K ⟨b,o+3*t,none⟩):Ix s.a s.len (t:Int) 3 K:=by
 have p:=(cY.1 hg).1;have i:=hs.1;rw[GM hl]at i;obtain⟨b,o,j,m⟩:=wO hs hx hg hd hv;rw[j];refine ix O O ?_;rw[add_lit,show o+(t:Int).toNat*3=o+3*t by omega];exact hK b o j (by rw[add_lit,show o+3*t+d=o+(3*t+d) by omega];exact m)
theorem HH.EF (h:HH U F L H){x:eU}{g:Th}(hx:L.ts[t]?=some x)(hg:H.bR[t]?=some g){d:Nat}(hd:d<3){v:Value}(hv:(jI (x,g))[d]?=some v){K:Addr->Prop}
 (hK:∀b o,cell U (Addr.add ⟨b,o+3*t,none⟩ d)=some v->K ⟨b,o+3*t,none⟩):Ix L.cS.a L.cS.len (t:Int) 3 K:=
 DO h.ng h.s.ts hx hg hd hv λb o _ i=>hK b o i
theorem HH.tS (h:HH U F L H){x:eU}{g:Th}(hx:L.ts[t]?=some x)(hg:H.bR[t]?=some g){K:Sl->Prop}(hK:K x.h):Ix L.cS.a L.cS.len (t:Int) 3 λa=>jF (a.add 1) U K:=
 h.EF hx hg (d:=1) O rfl λb o i=>oL i hK
theorem HH.tR (h:HH U F L H){x:eU}{g:Th}(hx:L.ts[t]?=some x)(hg:H.bR[t]?=some g){K:Value->Prop}(hK:K (nr g.ph)):Ix L.cS.a L.cS.len (t:Int) 3 λa=>y7 (a.add 2) U K:=
 h.EF hx hg (d:=2) O rfl λb o i=>⟨_,i,hK⟩
theorem HS.eB (h:HS L H){bR:List Th}{ts:List eU}(e:ts.length=bR.length)(e2:bR.length=H.bR.length):HS {L with ts:=ts} {H with bR:=bR}:=⟨h.ys,h.hs,e,h.a1,h.a2,by rw[e2];exact h.t1,by rw[e2];exact h.t2,h.tb⟩
theorem HS.cE (h:HS L H){A:AR}{sp:Sp}(e:A.tb=H.tb):HS L {H.cE k A with sp:=sp}:=⟨by simp[Hw.cE,h.ys],h.hs,h.ts,by simp[Hw.cE,h.a1],by simp[Hw.cE,h.a2],h.t1,h.t2,λB a=>by
 rcases Al a with h1|h1
 .exact h.tb B h1
 .subst h1;exact e⟩
theorem Ir {A:AR}:∀j,j≠kW.ar k->CH (H.cE k A) L j=CH H L j:=by
 intro j hj;cases j<;>try rfl
 rename_i m;have a:m≠k:=λe=>hj (by rw[e]);simp only[CH,Hw.cE,zh (Ne.symm a)]
theorem F7 {sp:Sp}:∀j,j≠kW.sp->CH {H with sp:=sp} L j=CH H L j:=by
 intro j hj;cases j<;>first|rfl|exact absurd rfl hj
theorem RS {l:List (Int×Bk)}:∀j,j≠kW.live->CH {H with live:=l} L j=CH H L j:=by
 intro j hj;cases j<;>first|rfl|exact absurd rfl hj
theorem HH.yp (h:HH U F L H){A:AR}(hk:H.bZ[k]?=some A):∃(Y:Lay) (G:Rg),L.ys[k]?=some Y/\Y.hs=L.hs/\(∀b,G b->F b)/\dL U G Y A (cM A Y)/\∀(σ':Hp) (A':AR) (G':Rg),A'.tb=A.tb->Ext G U σ'->(∀b,G' b->Grow G U b)->dL σ' G' Y A' (cM A' Y) →
 Ext F U σ'/\HH σ' (λb=>F b/\b<U.size/\¬G b\/G' b) L (H.cE k A'):=by
 have i:=(cY.1 hk).1;have d:L.ys[k]?=some (L.ys[k]'(by rw[h.s.ys];exact i)):=cW _;generalize (L.ys[k]'(by rw[h.s.ys];exact i))=Y at d;obtain⟨G,m,hi,_,a⟩:=h.mr (.ar k);simp only[CH,hk,d,oO]at hi;refine⟨Y,G,d,h.s.hs _ (zG d),m,hi,λσ' A' G' g e p j=>?_⟩;refine a σ' (H.cE k A') L G' (h.s.cE (sp:=H.sp) (g.trans (h.s.tb A (zG hk)))) Ir e p ?_;simp only[CH,Hw.cE,d,zO i,oO];exact j
theorem HH.qm (h:HH U F L H){A:AR}(hk:H.bZ[k]?=some A):∃(Y:Lay) (G D:Rg),L.ys[k]?=some Y/\Y.hs=L.hs/\W2 U G D Y A (cM A Y) H.sp/\∀(σ':Hp) (A':AR) (sp':Sp) (G' D':Rg),A'.tb=A.tb->Ext (iY G D) U σ'->Fits U G D G' D'->W2 σ' G' D' Y A' (cM A' Y) sp' →
 Ext F U σ'/\HH σ' (Grow F U) L {H.cE k A' with sp:=sp'}:=by
 have K:=(cY.1 hk).1;have i:L.ys[k]?=some (L.ys[k]'(by rw[h.s.ys];exact K)):=cW _;generalize (L.ys[k]'(by rw[h.s.ys];exact K))=Y at i;obtain⟨G,D,z,E,hd,hi,J,_,w⟩:=h.pf (.ar k) .sp (by intro e;cases e);simp only[CH,hk,i,oO]at hi;have J:dR U D L.hs H.sp:=J;have j:=h.s.hs _ (zG i);refine⟨Y,G,D,i,j,⟨hi,by rw[j];exact J,hd,h.g,h.o.sub z,h.o.sub E⟩,λσ' A' sp' G' D' B e M y=>?_⟩;have u:∀b,G' b->(G b\/D b)\/U.size<=b:=λb x=>(M.1 b x).imp .inl id;have r:∀b,D' b->(G b\/D b)\/U.size<=b:=λb x=>.inl (.inr (M.2 b x));have P:∀m,m≠kW.ar k->m≠kW.sp->CH {H.cE k A' with sp:=sp'} L m=CH H L m:=λm C N=>
  (Ir (H:={H with sp:=sp'}) (L:=L) (A:=A') m C).trans (F7 m N)
 have R:CH {H.cE k A' with sp:=sp'} L (.ar k) σ' G':=by
  simp only[CH,Hw.cE,i,zO K,oO];exact y.a
 have Q:CH {H.cE k A' with sp:=sp'} L .sp σ' D':=by
  show dR σ' D' L.hs sp';rw[←j];exact y.s
 obtain⟨e1,C⟩:=w σ' {H.cE k A' with sp:=sp'} L G' D' (h.s.cE (B.trans (h.s.tb A (zG hk)))) P e u r y.d R Q;refine⟨e1,h.grown C λb x p=>?_⟩;rcases p with p|p|p
 .exact .inl p.1
 .exact(u b p).imp (λi=>i.elim (z b) (E b)) id
 .exact(r b p).imp (λi=>i.elim (z b) (E b)) id
theorem HH.yz (h:HH U F L H):∃G:Rg,(∀b,G b->F b)/\dR U G L.hs H.sp/\jh G/\∀(σ':Hp) (sp':Sp),Ext G U σ'->dR σ' (Grow G U) L.hs sp'->Ext F U σ'/\HH σ' (Grow F U) L {H with sp:=sp'}:=by
 obtain⟨G,g,hi,_,a⟩:=h.mr .sp;refine⟨G,g,hi,h.o.sub g,λσ' sp' e hs=>?_⟩;obtain⟨e1,j⟩:=a σ' {H with sp:=sp'} L (Grow G U) ⟨h.s.ys,h.s.hs,h.s.ts,h.s.a1,h.s.a2,h.s.t1,h.s.t2,h.s.tb⟩ F7 e (λb i=>i) hs;exact⟨e1,h.grown j λb i d=>by
  rcases d with d|d
  .exact .inl d.1
  .exact d.imp (g b) id⟩
theorem HH.tj (h:HH U F L H):F L.lm/\∀(σ':Hp) (l:List (Int×Bk)),Ka U σ' L.lm->dM σ' L.lm .i64 (.ag 4) l->Ext F U σ'/\HH σ' F L {H with live:=l}:=by
 obtain⟨G,i,hi,_,a⟩:=h.mr .live;have hi:jR L.lm .i64 (.ag 4) H.live U G:=hi;refine⟨i _ hi.1,λσ' l p m=>?_⟩;obtain⟨e1,j⟩:=a σ' {H with live:=l} L G ⟨h.s.ys,h.s.hs,h.s.ts,h.s.a1,h.s.a2,h.s.t1,h.s.t2,h.s.tb⟩ RS (p.ext.sub λb g=>by rw[g];exact hi.1) (λb g=>.inl g) ⟨hi.1,m⟩;exact⟨e1,j.mono (λb _ d=>by
  rcases d with d|d
  .exact d.1
  .exact i b d) h.o h.o2⟩
theorem HH.pa (h:HH U F L H){x:eU}{g:Th}(hx:L.ts[t]?=some x)(hg:H.bR[t]?=some g):∃G:Rg,(∀b,G b->F b)/\eO U G x.c H.tb H.cf.dD g.ls/\∀(σ':Hp) (ls:List Li) (Y':hO) (G':Rg),Y'.p=x.c.p->Ext G U σ'->(∀b,G' b->Grow G U b)->eO σ' G' Y' H.tb H.cf.dD ls →
 Ext F U σ'/\HH σ' (λb=>F b/\b<U.size/\¬G b\/G' b) {L with ts:=L.ts.set t {x with c:=Y'}} {H with bR:=H.bR.set t {g with ls:=ls}}:=by
 have a:=(cY.1 hx).1;have r:=(cY.1 hg).1;obtain⟨G,B,hi,_,i⟩:=h.mr (.ca t);simp only[CH,hx,hg,rZ]at hi;refine⟨G,B,hi,λσ' ls Y' G' D e y A=>?_⟩;have w:ia (L.ts.set t {x with c:=Y'}) (H.bR.set t {g with ls:=ls})=ia L.ts H.bR:=by
  have C:(ia L.ts H.bR).set (3*t+0) (.pointer (some ⟨x.c.p,0,none⟩))=ia L.ts H.bR:=QN (Cc hx hg O);rw[←C];exact(A4 hx hg (d:=0) O (by simp[jI,D])).symm
 refine i σ' {H with bR:=H.bR.set t {g with ls:=ls}} {L with ts:=L.ts.set t {x with c:=Y'}} G' (h.s.eB (by simp[h.s.ts]) aA) (λj z=>?_) e y ?_
 .cases j<;>try rfl
  .simp only[CH,w]
  .rename_i m;have u:m≠t:=λe=>z (by rw[e]);simp only[CH,zh (Ne.symm u)]
  .rename_i m;by_cases u:m=t
   .subst u;simp only[CH,zO a,zO r,hx,hg];rfl
   .simp only[CH,zh (Ne.symm u)]
 .simp only[CH,zO a,zO r,rZ];exact A
theorem HH.s8 (h:HH U F L H){x:eU}{g:Th}(hx:L.ts[t]?=some x)(hg:H.bR[t]?=some g)(N:Rg)(hN:∀b,b<U.size->F b->¬N b)(oN:jh N)(oN2:¬N 1):∃G D:Rg,(∀b,G b->F b)/\(∀b,D b->F b)/\(∀b,G b->¬D b)/\iC x.h g.bQ U G/\bU L.cS 3 (ia L.ts H.bR) U D/\(∃E:Rg,(∀b,E b->¬G b)/\(∀b,E b->¬D b)/\iB L.p (AX L H.cf) U E) ∧
 ∀(σ':Hp) (s:Sl) (bs:List Bt) (G' D':Rg),Ext (λb=>G b\/D b) U σ'->(∀b,G' b->(G b\/D b)\/N b)->(∀b,D' b->(G b\/D b)\/N b)->(∀b,G' b->¬D' b)->iC s bs σ' G'->bU L.cS 3 ((ia L.ts H.bR).set (3*t+1) (.slice s.a s.len s.cap)) σ' D' →
  Ext F U σ'/\HH σ' (λb=>F b/\b<U.size/\¬(G b\/D b)\/G' b\/D' b) {L with ts:=L.ts.set t {x with h:=s}} {H with bR:=H.bR.set t {g with bQ:=bs}}:=by
 have i:=(cY.1 hx).1;have j:=(cY.1 hg).1;obtain⟨G,D,P,R,hd,hi,z,u,r⟩:=h.pt (.hn t) .cS (by intro e;cases e) N hN oN oN2;simp only[CH,hx,hg,qB]at hi;have z:bU L.cS 3 (ia L.ts H.bR) U D:=z;obtain⟨E,_,M,J⟩:=u .hd (by intro e;cases e) (by intro e;cases e);refine⟨G,D,P,R,hd,hi,z,⟨E,λb C hx=>M b C (.inl hx),λb C hx=>M b C (.inr hx),J⟩,λσ' s bs G' D' e K y A W V=>?_⟩;have B:ia (L.ts.set t {x with h:=s}) (H.bR.set t {g with bQ:=bs})=(ia L.ts H.bR).set (3*t+1) (.slice s.a s.len s.cap):=(A4 hx hg (d:=1) O (by simp[jI])).symm;refine r σ' {H with bR:=H.bR.set t {g with bQ:=bs}} {L with ts:=L.ts.set t {x with h:=s}} G' D' (h.s.eB (by simp[h.s.ts]) aA) (λm S Q=>?_) e K y A ?_ ?_
 .cases m<;>first|rfl|exact absurd rfl Q|skip
  .rename_i m;by_cases w:m=t
   .subst w;simp only[CH,zO i,zO j,hx,hg];rfl
   .simp only[CH,zh (Ne.symm w)]
  .rename_i m;have w:m≠t:=λe=>S (by rw[e]);simp only[CH,zh (Ne.symm w)]
 .simp only[CH,zO i,zO j,qB];exact W
 .simp only[CH,B];exact V
theorem HH.tx (h:HH U F L H){x:eU}{g:Th}(hx:L.ts[t]?=some x)(hg:H.bR[t]?=some g)(p:Option Ph){K:aP}(hK:∀σ',Ext F U σ'->HH σ' F L {H with bR:=H.bR.set t {g with ph:=p}}->K σ') :
 Ix L.cS.a L.cS.len (t:Int) 3 λa=>And (jd (nr p)) (dG (a.add 2) (nr p) U K):=by
 have D:=(cY.1 hx).1;have r:=(cY.1 hg).1;have z:=h.lW;obtain⟨G,E,hi,_,i⟩:=h.mr .cS;have hi:bU L.cS 3 (ia L.ts H.bR) U G:=hi;have B:=GM h.s.ts;obtain⟨b,w⟩:∃b,L.cS.a=some ⟨b,0,none⟩:=by
  rcases hi.2 with⟨h0,_⟩|⟨b,_,_,ha,_⟩
  .omega
  .exact⟨b,ha⟩
 rw[w];refine ix O O ⟨wg p,?_⟩;refine hi.st (j:=3*t+2) O (λM u=>by rw[w]at u;cases u;rw[add_lit,add_lit];congr 1;omega) λσ' e J=>?_;have y:ia L.ts (H.bR.set t {g with ph:=p})=(ia L.ts H.bR).set (3*t+2) (nr p):=by
  have:=A4 hx hg (d:=2) (v:=nr p) (x':=x) (h':={g with ph:=p}) O (by simp[jI]);rw[this,QN hx]
 obtain⟨e1,A⟩:=i σ' {H with bR:=H.bR.set t {g with ph:=p}} L G (h.s.eB (ts:=L.ts) (by simp[h.s.ts]) aA) (λj C=>by
  cases j<;>first|rfl|exact absurd rfl C|skip
  .rename_i m;by_cases hm:t=m
   .subst hm;simp only[CH,zO r,hx,hg];rfl
   .simp only[CH,zh hm]
  .rename_i m;by_cases hm:t=m
   .subst hm;simp only[CH,zO r,hx,hg];rfl
   .simp only[CH,zh hm]) e (λb w=>.inl w) (by simp only[CH,y];exact J)
 exact hK σ' e1 (A.mono (λb _ hx=>by
  rcases hx with hx|hx
  .exact hx.1
  .exact E b hx) h.o h.o2)
end Go.Ar
namespace Go.Ar
open Go Go.Vc Go.Proofs
open Go.Bu (ZF Kj ZD)
variable {U:Hp}{F H:Rg}{p hs:Nat}{A:AR}{sp:Sp}{Y:Lay}{T:Nat->Hp->Rg->Prop}
end Go.Ar
namespace Go.Ar
open Go Go.Vc Go.Proofs
variable {U:Hp}{F:Rg}{L:dE}{H:Hw}{t k:Nat}
theorem Hc (h:HH U F L H){R:aO}(hR:R true U):XQ.c (aW L.p) U R:=by
 refine XQ.o ?_;unfold XQ.v;have b:=h.lW;have a:=h.s.t1;refine bX.intro (cF rfl (bL (h.hd.rS rfl ?_)));rw[zI aC];exact hR
theorem DJ (h:HH U F L H)(x:Int){R:aO}(hR:R (decide (0<=x/\x<(H.bR.length:Int))) U):Yi.c (aW L.p) x U R:=by
 refine Yi.o ?_;unfold Yi.v;have b:=h.lW;refine bX.intro (cN (λa=>bL (h.hd.rS rfl ?_)) λa=>?_)
 .have:decide (x<((L.cS.len:Nat):Int))=decide (0<=x/\x<(H.bR.length:Int)):=by rw[decide_eq_decide,b];omega
  simp only[this];exact hR
 .rw[zL O]at hR;exact hR
theorem Je (h:HH U F L H)(t:Nat){R:aN}(hR:R ((H.own t:Nat):Int) U):ZT.c (aW L.p) (t:Int) U R:=by
 refine ZT.o ?_;unfold ZT.v;have a:=h.ns;have b:=h.s.a1;refine bL (h.hd.rS rfl (nz aC ?_));have:((t:Int).tmod ((L.fT.len:Nat):Int))=((H.own t:Nat):Int):=by rw[Ki O,a];unfold Hw.own;omega
 simp only[this];exact hR
theorem Ey (h:HH U F L H)(x:Int)(hx9:x<=9223372036854775807){R:aN}(hR:∀σ',aF U σ'->R (XS H.bZ x) σ'):Yz.c (aW L.p) x U R:=by
 refine Yz.o ?_;unfold Yz.v;refine nw (cs:=[.int .i64 x]) λv hz e Q=>Q.uo rfl ?_;have P:=h.bP e;by_cases hx:x<0
 .have:=hR v e;unfold XS at this;rw[zC hx]at this;exact lV hx this
 refine gA hx (bL (P.hd.rS rfl ?_));have hl:=h.ns;have W:=h.s.a2;refine Wr.o ?_;unfold Wr.v;refine Qg (a:=bO) (λ(z:Int) w=>∃i:Nat,z=(i:Int)/\i<=H.bZ.length/\aF U w/\HH w F L H/\bY w U.size [.int .i64 x]/\∀j A,j<i->H.bZ[j]?=some A->oT A (x/256)=false) (λz _=>H.bZ.length-z.toNat) ⟨0,rfl,O,e,P,Q,λj A d=>O⟩ ?_;rintro z w ⟨i,rfl,hi,E,D,u,b⟩;refine cN (λy=>?_) λC=>?_
 .simp only at y;have G:i<H.bZ.length:=O
  have g:H.bZ[i]?=some H.bZ[i]:=cW G;generalize H.bZ[i]=A at g;obtain⟨Y,Z,V,J⟩:=D.ar g;refine D.rA Z (Gn (all := #[.pointer (some ⟨Y.p,0,none⟩),.pointer (some ⟨U.size,0,none⟩)]) (by kernel_rfl) aA ?_);refine Zm.o ?_;unfold Zm.v;refine u.uo rfl (nz aB (ar (by rw[YU O];omega) (by rw[YU O];omega) ?_));rw[YU O];refine SW J (x/256) (cP (λS=>?_) λX=>?_)
  .have:XS H.bZ x=(i:Int):=by
    unfold XS;rw[zB hx];have:H.bZ.findIdx? (λA=>oT A (x/256))=some i:=by
     obtain⟨K,rfl⟩:=cY.1 g;exact nV.2 ⟨K,S,λj d=>by rw[b j _ d (cW O)];simp⟩
    rw[this]
   have r:=hR w E;rw[this]at r;exact r
  .exact cT (m:=i+1) O O ⟨⟨i+1,rfl,O,E,D,u,λj B d N=>by
    by_cases e:j=i
    .subst e;rw[g]at N;cases N;exact X
    .exact b j B O N⟩,O⟩
 .have M:i=H.bZ.length:=by simp only at C;omega
  subst M;have:XS H.bZ x = -1:=by
   unfold XS;rw[zB hx];have:H.bZ.findIdx? (λA=>oT A (x/256))=none:=by
    rw[vV];intro A g;obtain⟨j,d⟩:=zP g;exact b j A (cY.1 d).1 d
   rw[this]
  have r:=hR w E;rw[this]at r;exact r
theorem GX (h:HH U F L H){R:Int->Int->Int->Int->Int->Hp->Prop}(hR:∀σ',aF U σ'->R (H.cf.aG:Int) (H.cf.ig:Int) (H.cf.threads:Int) (H.cf.dD:Int) (H.cf.room:Int) σ'):XY.c (aW L.p) U R:=by
 refine XY.o ?_;unfold XY.v;refine nw (cs:=[.int .i64 0,.int .i64 0,.int .i64 0,.int .i64 0,.int .i64 0]) λv u e d=>Hc (h.bP e) (cD rfl ?_);have hd:=(h.bP e).hd;refine bL (hd.fE rfl (hd.fE rfl (hd.fE rfl (hd.fE rfl (hd.fE rfl ?_)))));refine d.s1 aA λm o1 b=>b.s1 aA λr o2 i=>i.s1 aA λv3 o3 g=>g.s1 aA λs o4 b4=>b4.s1 aA λj o5 a=>?_;refine a.rI rfl (a.rI rfl (a.rI rfl (a.rI rfl (a.rI rfl (hR j ?_)))));exact((((e.only o1 (.inr (zD _))).only o2 (.inr (zD _))).only o3 (.inr (zD _))).only o4 (.inr (zD _))).only o5 (.inr (zD _))
theorem Fs (h:HH U F L H){R:Option Addr->Hp->Prop}(hR:R (some ⟨L.hs,0,none⟩) U):Y5.c (aW L.p) U R:=by
 refine Y5.o ?_;unfold Y5.v;exact Hc h (cD rfl (bL (h.hd.rP rfl hR)))
theorem RV (h:HH U F L H)(x:Int)(hx:x<=9223372036854775807){R:Int->Int->Hp->Prop}(hR:∀σ',aF U σ'->R (if eP H.sp x=0 then H.sp.wd (x.toNat/8)else 0) (eP H.sp x) σ'):YK.c (aW L.p) x U R:=by
 refine YK.o ?_;unfold YK.v;exact Fs h (WmB h.M8 h.g x hx hR)
theorem Sn (h:HH U F L H)(gc:Gc U)(x v:Int)(hx:x<=9223372036854775807){R:aN}(hR:∀σ',Ext F U σ'->HH σ' (Grow F U) L {H with sp:=ZJ H.sp x v}->R (eP H.sp x) σ'):Xy.c (aW L.p) x v U R:=by
 refine Xy.o ?_;unfold Xy.v;obtain⟨G,m,j,d,a⟩:=h.yz;refine Fs h (Wle j h.g gc x hx v λσ' e b=>?_);obtain⟨e1,i⟩:=a σ' _ e b;exact hR σ' e1 i
theorem RT (h:HH U F L H)(x:Int){R:Int->Int->Hp->Prop}(hR:∀σ',aF U σ'->R ((bS H.live x).elim 0 λb=>b.2.1) (if(bS H.live x).isSome then 0 else 8) σ'):XT.c (aW L.p) x U R:=by
 refine XT.o ?_;unfold XT.v;refine Hc h (cD rfl (bL (h.hd.rM rfl ⟨_,h.nk,?_⟩)));refine nw (cs:=[.int .i64 0,.int .i64 0,.int .i64 0,.int .i64 0]) λv w e j=>?_;refine j.s1 aA λs o1 d=>d.s1 aA λu o2 i=>i.s1 aA λv3 o3 g=>g.s1 aA λv4 o4 b4=>?_;have m:aF U v4:=(((e.only o1 (.inr (zD _))).only o2 (.inr (zD _))).only o3 (.inr (zD _))).only o4 (.inr (zD _));have a:=hR v4 m;cases hm:bS H.live x with
 | none=>
  rw[hm]at a;exact cF rfl a
 | some b=>
  rw[hm]at a;refine cD rfl (b4.rI rfl ?_);have r:((bS H.live x).getD ((0,0,0,0):Bk)).2.1=b.2.1:=by rw[hm];rfl
  rw[r];exact a
theorem Us (h:HH U F L H)(ht:t<H.bR.length){R:Value->Hp->Prop}(hR:R (nr (j6 H t)) U):Xm.c (aW L.p) (t:Int) U R:=by
 refine Xm.o ?_;unfold Xm.v;obtain⟨x,g,b,a⟩:=h.th ht;refine bL (h.hd.rS rfl (h.tS b a ?_));obtain⟨G,i,hi⟩:=h.sep.get (.hn t);simp only[CH,b,a,qB]at hi;have d:=hi.len;unfold j6 at hR;rw[a]at hR;simp only at hR;by_cases h0:g.bQ=[]
 .rw[zC h0]at hR;exact cF (by rw[d,h0];rfl) hR
 .rw[zB h0]at hR;have:=pB.2 h0;exact cD (by simp only[mV];omega) hR
theorem DB (h:HH U F L H)(x size cls:Int)(hx9:x<=9223372036854775807){R:Value->Int->Int->Hp->Prop}(hR:∀σ',Ext F U σ'->HH σ' F L (V3 H x size cls)->R .nilIface x 0 σ'):Zb.c (aW L.p) x size cls U R:=by
 refine Zb.o ?_;unfold Zb.v;refine nw (cs:=[.int .i64 0,.int .i64 0]) λv E e a=>?_;have i:=h.cut.bP e;refine⟨λu=>aF v u,Ext.refl _ _,bL ⟨some L.lm,λu w=>by rw[add_lit,((i.bP w).hd).cell];rfl,?_⟩⟩;refine Ey i x hx9 λC e1=>⟨e1,?_⟩;have s:=i.bP e1;obtain⟨y,d⟩:=s.tj;refine⟨L.lm,_,rfl,s.nk,λg o2 m=>?_⟩;obtain⟨e2,z⟩:=d g _ o2 m;have r:bY g U.size [.int .i64 0,.int .i64 0]:=WF o2 (e1.bV a id) (by have:=y.2;omega);refine r.s1 aA λv3 o3 A=>A.s1 aA λv4 o4 b4=>b4.rI rfl (b4.rI rfl (hR v4 ?_ ?_))
 .exact(((aF.to (e.trans e1)).trans (e2.sub λb a=>a.1)).only o3 (.inr (zD _))).only o4 (.inr (zD _))
 .have j:Ext (· = U.size) g v4:=o3.ext.trans o4.ext;have B:=h.wZ z j (λb a=>O) (λb _ a D=>by have:=a.2;omega);exact B.mono (λb _ a=>a.1) h.o h.o2
theorem yP (h:HH U F L H)(ht:t<H.bR.length)(k:Nat){s:Sl}{xs:List Int}{X:Rg}(hs:cV s 1 (Wu xs) U X)(hc:s.len<=s.cap)(hxs:xs≠[])(hX:∀b,b<U.size->X b->¬F b)(oX:jh X)(oX2:¬X 1)(hlen:∀g,H.bR[t]?=some g->g.bQ.length<=1000){R:aP}
 (hR:∀σ' ts',Ext F U σ'->HH σ' (λb=>Grow F U b\/X b) {L with ts:=ts'} (Kr H t k xs)->R σ'):YG.c (aW L.p) (t:Int) (k:Int) s U R:=by
 refine YG.o ?_;unfold YG.v;obtain⟨x,g,r,hg⟩:=h.th ht;have htl:=GM h.s.ts;have hrl:=h.lW;have hlen:=hlen g hg;obtain⟨G,D,hG,Q,hd,hB,hr,⟨E,hE1,hE2,hhd⟩,S⟩:=h.cut.s8 r hg (λb=>U.size<=b\/b<U.size/\X b) (λb m hf hn=>by
  rcases hn with hn|hn
  .omega
  .exact hX b m hn.2 hf.1) (λb m=>m.elim (h.mZ.1 b) λm=>oX b m.2) (λm=>m.elim h.mZ.2 λm=>oX2 m.2)
 obtain⟨Z,Dn,A,K,N,hj,V⟩:=hB;have B:∀u,Ext G U u->bY u L.p (AX L H.cf):=λu z=>((iB.loc _ _).bT hhd z λb _ m r=>hE1 b m r).2;have Y:∀u,Ext G U u->bU L.cS 3 (ia L.ts H.bR) u D:=λu z=>aI.bT hr z λb _ m r=>hd b r m;refine⟨λu=>Ext G U u,Ext.refl _ _,bL ⟨L.cS,λu z=>by rw[add_lit,(B u z).cell];rfl,bL ⟨L.cS,λu z=>by rw[add_lit,(B u z).cell];rfl,?_⟩⟩⟩;refine DO (bU.fY hr) h.s.ts r hg (d:=1) O rfl λb o ha _=>⟨x.h,λu z=>?_,?_⟩
 .obtain⟨b',o',aa,hc'⟩:=wO (bU.fY (Y u z)) r hg (d:=1) O rfl;rw[ha]at aa;cases aa;rw[add_lit,show o+3*t+1=o+(3*t+1) by omega];exact hc'
 refine nw (cs:=[.int .i64 (k:Int),.slice s.a s.len s.cap]) λv hz e m=>⟨aF.to e,?_⟩;have C:=(dN.loc _ _ _).bP ((dN.loc _ _ _).cut A) e;have ab:=(kR.loc _ _).bP ((kR.loc _ _).cut K) e;have hs1:=aH.bP (aH.cut hs) e;have hpl:x.h.len=Z.length:=by have:=A.1;rw[Vp]at this;omega
 have hpg:Z.length=g.bQ.length:=K.1;refine C.app (ys:=oM (k,s)) rfl rfl ?_ (λv hv=>HT (l:=[(k,s)]) v (by simpa[fK]using hv)) ?_ ?_ nc λs' v2 hl2 e2 hr2=>?_
 .intro j u z;rw[add_lit,zH,m.cell];exact z
 .simp only;have:(x.h.len+1)*32<=1001*32:=mC O O;omega
 .simp only;omega
 have hs2:=e2.1;have eG:Ext G U v2:=(aF.to e).trans (e2.sub λb m=>m.1.1);refine⟨eG,?_⟩;obtain⟨b0,W⟩:∃b,L.cS.a=some ⟨b,0,none⟩:=by
  rcases hr.2 with⟨h0,_⟩|⟨b,_,_,ha,_⟩
  .omega
  .exact⟨b,ha⟩
 rw[W];refine ix O O ?_;refine(Y v2 eG).st (j:=3*t+1) O (λb' P=>by rw[W]at P;cases P;rw[add_lit,add_lit];congr 1;omega) λσ' e3 hr3=>?_;have hs3:=e3.1;have e03:Ext (λb=>G b\/D b) U σ':=(eG.sub λb m=>.inl m).trans (e3.sub λb m=>.inr m);have hr4:=(dN.loc _ _ _).bT ((dN.loc _ _ _).cut hr2) e3 λb _ m r=>by
  rcases m.1 with h1|h1
  .exact hd b h1.1.1 r
  .have:=(Q b r).2;omega
 have hB4:=(kR.loc _ _).bT ((kR.loc _ _).bT ab e2 λb _ m r=>r.1.2 m.1) e3 λb _ m r=>hd b (N b m.1) r;have hs4:=aH.bT (aH.bT hs1 e2 λb m r w=>hX b r.2 r.1 (hG b w.1.1).1) e3 λb _ r w=>hX b r.2 r.1 (Q b w).1;have hBt:iC s' (g.bQ++[(k,xs)]) σ' (λb=>G b/\b<U.size\/b<U.size/\X b\/v.size<=b/\b<v2.size):=by
  refine⟨Z++[(k,s)],λb=>Dn b/\b<U.size\/b<U.size/\X b,?_,⟨by simp[hpg],λi p y M w=>?_⟩,λb m=>?_,hj.snoc K V hs hxs (λb m r w=>hX b m w (hG b (N b r)).1) k,λy w=>?_⟩
  .rw[HC];have:fK [(k,s)]=oM (k,s):=by simp[fK]
   rw[this];refine(dN.loc _ _ _).mono hr4 λq _ J=>?_;rcases J.1 with h1|h1
   .exact⟨.inl ⟨h1.1.1,h1.2⟩,λr=>by
     rcases r with r|r
     .exact h1.1.2 r.1
     .exact hX q r.1 r.2 (hG q h1.1.1).1⟩
   .exact⟨.inr (.inr ⟨h1,J.2⟩),λr=>by
     rcases r with r|r<;>omega⟩
  .rcases kv i Z.length with hi|hi
   .rw[zd hi]at M;rw[zd O]at w;obtain⟨a1,a2,a3⟩:=hB4.2 i p y M w;exact⟨a1,aH.mono a2 λq _ J=>.inl J,a3⟩
   .rw[zp hi]at M;rw[zp O]at w;have hi0:i-Z.length=0:=by
     have:=(cY.1 M).1;simp at this;omega
    rw[hi0]at M;rw[show i-g.bQ.length=0 by omega]at w;simp at M w;subst M;subst w;exact⟨rfl,aH.mono hs4 λq _ J=>.inr ⟨J.2,J.1⟩,hc⟩
  .rcases m with m|m
   .exact .inl ⟨N b m.1,m.2⟩
   .exact .inr (.inl m)
  .rcases zJ.1 w with h1|h1
   .exact V y h1
   .rw[zN]at h1;subst h1;exact hxs
 obtain⟨eF,h4⟩:=S σ' s' (g.bQ++[(k,xs)]) (λb=>G b/\b<U.size\/b<U.size/\X b\/v.size<=b/\b<v2.size) D e03 (λb m=>by
  rcases m with m|m|m
  .exact .inl (.inl m.1)
  .exact .inr (.inr m)
  .exact .inr (.inl O)) (λb m=>.inl (.inr m)) (λb m r=>by
  have:=(Q b r).2;rcases m with m|m|m
  .exact hd b m.1 r
  .exact hX b m.1 m.2 (Q b r).1
  .omega) hBt hr3
 refine hR σ' (L.ts.set t {x with h:=s'}) (eF.sub λb m=>m.1) ?_;have e5:Kr H t k xs = {H with bR:=H.bR.set t {g with bQ:=g.bQ++[(k,xs)]}}:=by
  unfold Kr Hw.eB
  congr 1
  exact VE hg
 rw[e5];refine h4.mono (λb _ m=>?_) (λb (m:Grow F U b\/X b)=>m.elim (h.oG b) (oX b)) λ(m:Grow F U _\/X _)=>m.elim h.rK oX2;rcases m with m | (m|m|m)|m
 .exact .inl (.inl m.1.1)
 .exact .inl (.inl (hG b m.1).1)
 .exact .inr m.2
 .exact .inl (.inr O)
 .exact .inl (.inl (Q b m).1)
end Go.Ar
namespace Go.Ar
open Go Go.Vc Go.Proofs
variable {U u u':Hp}{F B P:Rg}{L:dE}{H H':Hw}{t k n:Nat}{A:AR}{Y:Lay}{x:eU}{g:Th}{c:cA}{l:Li}{cs:List Value}
structure HK (F:Rg) (U:Hp) (B:Rg) (u:Hp) (P:Rg) (L:dE) (H:Hw):Prop where
 h:HH u P L H
 e:Ext F U u
 p:∀b,P b->(F b/\b<U.size\/U.size<=b)/\¬B b/\b<u.size
 b:∀b,B b->U.size<=b/\b<u.size
 o:jh (λb=>U.size<=b)/\¬U.size<=1
theorem HK.start (h:HH U F L H):HK F U (λ_=>False) U (Cut F U) L H:=⟨h.cut,Ext.refl _ _,λb a=>⟨.inl ⟨a.1,a.2⟩,id,a.2⟩,λb a=>a.elim,h.mZ⟩
theorem HK.box (K:HK F U B u P L H)(e:aF u u')(hz:u'.size=u.size+1):HK F U (λb=>B b\/b=u.size) u' P L H:=
 ⟨K.h.bP e,K.e.trans (aF.to e),λb a=>⟨(K.p b a).1,λd=>d.elim (K.p b a).2.1 λg=>by have:=(K.p b a).2.2;omega,by have:=(K.p b a).2.2;omega⟩,λb a=>by
  have:=K.e.1;rcases a with a|a
  .have:=K.b b a;omega
  .omega,K.o⟩
theorem HK.fr (K:HK F U B u P L H)(e:aF u u'):HK F U B u' P L H:=
 ⟨K.h.bP e,K.e.trans (aF.to e),λb a=>⟨(K.p b a).1,(K.p b a).2.1,by have:=(K.p b a).2.2;have:=e.1;omega⟩,λb a=>by have:=K.b b a;have:=e.1;omega,K.o⟩
theorem HK.own (K:HK F U B u P L H)(o:Ka u u' n)(hn:B n):HK F U B u' P L H:=by
 have r:=K.b n hn;have s:=o.1;have e:Ext (· = n) u u':=o.ext;have g:∀b,b<u.size->P b->¬(b=n):=λb _ a j=>(K.p b a).2.1 (j▸hn);have d:jh (λb=>b=n)/\¬(1=n):=⟨K.o.1.sub λb i=>O,λi=>K.o.2 O⟩;exact⟨K.h.bT e g d.1 d.2,K.e.dX e λb (m:b=n)=>.inr O,λb a=>⟨(K.p b a).1,(K.p b a).2.1,by have:=(K.p b a).2.2;omega⟩,λb a=>by have:=K.b b a;omega,K.o⟩
theorem HK.dA (K:HK F U B u P L H)(e:Ext P u u')(hb:bY u n cs)(hn:B n):bY u' n cs:=e.bV hb λa=>(K.p n a).2.1 hn
theorem HK.vn (K:HK F U B u P L H){Q:Rg}{L':dE}(e:Ext P u u')(h:HH u' Q L' H')(hq:∀b,b<u'.size->Q b->P b\/u.size<=b\/(F b/\b<U.size\/U.size<=b)/\¬B b):HK F U B u' (Cut Q u') L' H':=by
 have g:=e.1;have i:=K.e.1;refine⟨h.cut,K.e.dX e λb a=>(K.p b a).1.imp (λh=>h.1) id,λb a=>⟨?_,λd=>?_,a.2⟩,λb a=>by have:=K.b b a;omega,K.o⟩
 .rcases hq b a.2 a.1 with h1|h1|h1
  .exact(K.p b h1).1
  .exact .inr O
  .exact h1.1
 .rcases hq b a.2 a.1 with h1|h1|h1
  .exact(K.p b h1).2.1 d
  .have:=K.b b d;omega
  .exact h1.2 d
theorem HK.to (K:HK F U B u P L H){Q:Rg}{L':dE}(e:Ext P u u')(h:HH u' Q L' H')(hq:∀b,b<u'.size->Q b->P b\/u.size<=b):HK F U B u' (Cut Q u') L' H':=K.vn e h λb d a=>(hq b d a).imp id .inl
theorem HK.fin (K:HK F U B u P L H){L0:dE}{H0:Hw}(h0:HH U F L0 H0):HH u (Grow F U) L H:=h0.grown K.h λb _ a=>(K.p b a).1.imp (λh=>h.1) id
def Fr (A' A:AR):Prop:=A'.tb=A.tb/\A'.room=A.room/\A'.cR=A.cR
theorem Fr.cM {A' A:AR}(h:Fr A' A)(Y:Lay):Go.Ar.cM A' Y=Go.Ar.cM A Y:=by
 funext k;unfold Go.Ar.cM;rw[h.1,h.2.1,h.2.2]
theorem Jg (A:AR)(k m:Int):Fr (YV A k m) A:=by
 unfold YV;split<;>exact⟨rfl,rfl,rfl⟩
theorem EX (A:AR)(k:Int)(xs:List Int):Fr (ZY A k xs) A:=⟨(UM A k xs).1,(UM A k xs).2.1,(UM A k xs).2.2.1⟩
theorem Ld (A:AR)(sp:Sp)(m a no:Nat):Fr (dC A sp m a no).2.1 A:=⟨(GB A sp m a no).1,(GB A sp m a no).2.2.2.1,(GB A sp m a no).2.2.1⟩
theorem JA (A:AR)(x:Int):Fr (Kb A x) A:=by
 unfold Kb;split<;>exact⟨rfl,rfl,rfl⟩
theorem F0 (A:AR)(sp:Sp)(k:Int):Fr (cQ A sp k).1 A:=by
 unfold cQ;split
 .split
  .rename_i c ss h1 h2;have h:=Ld A sp c.aG 1 (k.toNat+1);generalize dC A sp c.aG 1 (k.toNat+1)=r at h;obtain⟨o,A',a⟩:=r;cases o with
   | none=>exact h
   | some x=>
    simp only;split<;>exact h
  .exact⟨rfl,rfl,rfl⟩
 .exact⟨rfl,rfl,rfl⟩
theorem I2 (A:AR)(sp:Sp)(m a:Int):Fr (cC A sp m a).1 A:=by
 unfold cC;split
 .have h:=Ld A sp m.toNat a.toNat 41;generalize dC A sp m.toNat a.toNat 41=r at h;obtain⟨o,A',b⟩:=r;cases o<;>exact h
 .exact⟨rfl,rfl,rfl⟩
theorem Ν (A:AR)(k:Int):(Z0 A k).tb=A.tb:=by unfold Z0;split<;>rfl
theorem Tj (A:AR)(k:Int)(xs:List Int):(KH A k xs).tb=A.tb:=by unfold KH;split<;>rfl
theorem HH.m4 (h:HH U F L H)(hk:H.bZ[k]?=some A)(hy:L.ys[k]?=some Y):∃G:Rg,(∀b,G b->F b)/\dL U G Y A (cM A Y)/\∀(σ':Hp) (A':AR) (Q:Rg),A'.tb=A.tb->Ext G U σ'->(∀b,Q b->G b\/U.size<=b)->dL σ' (λb=>Grow G U b/\¬Q b) Y A' (cM A' Y) →
 Ext F U σ'/\HH σ' (λb=>Grow F U b/\¬Q b) L (H.cE k A'):=by
 obtain⟨Y',G,g,_,j,u,d⟩:=h.yp hk;rw[hy]at g;cases g;refine⟨G,j,u,λσ' A' Q i e p r=>?_⟩;obtain⟨e1,m⟩:=d σ' A' _ i e (λb a=>a.1) r;refine⟨e1,m.mono (λb _ a=>?_) (h.oG.sub λb a=>a.1) λa=>h.rK a.1⟩;rcases a with a|a
 .exact⟨.inl a.1,λs=>by
   rcases p b s with h2|h2
   .exact a.2.2 h2
   .have:=a.2.1;omega⟩
 .exact⟨a.1.imp (j b) id,a.2⟩
theorem dL.xS {T:Nat->Hp->Rg->Prop}{G Q:Rg}(h:dL U G Y A T)(hq:∀b,¬Q b):dL U (λb=>G b/\¬Q b) Y A T:=h.mono λb _ a=>⟨a,hq b⟩
theorem HH.mH (h:HH U F L H)(hk:H.bZ[k]?=some A)(hy:L.ys[k]?=some Y):∃G:Rg,(∀b,G b->F b)/\dL U G Y A (cM A Y)/\∀(σ':Hp) (A':AR),A'.tb=A.tb->Ext G U σ'->dL σ' (Grow G U) Y A' (cM A' Y) →
 Ext F U σ'/\HH σ' (Grow F U) L (H.cE k A'):=by
 obtain⟨G,p,i,a⟩:=h.m4 hk hy;refine⟨G,p,i,λσ' A' d e m=>?_⟩;obtain⟨e1,j⟩:=a σ' A' (λ_=>False) d e (λb g=>g.elim) (m.xS λ_=>id);exact⟨e1,j.mono (λb _ g=>g.1) h.oG h.rK⟩
theorem Pw (h:HH U F L H)(hk:H.bZ[k]?=some A)(hy:L.ys[k]?=some Y)(c:Int){R:Sl->Int->Hp->Prop}
 (hR:∀s σ' (Q:Rg),Ext F U σ'->(∀b,Q b->F b)->cV s 1 (Wu (YR A c)) σ' Q->s.len<=s.cap->HH σ' (λb=>Grow F U b/\¬Q b) L (H.cE k (Z0 A c))->R s (QD A c) σ') :
 WU.c (aW Y.p) c U R:=by
 obtain⟨G,w,j,d⟩:=h.m4 hk hy;refine Np j c λs σ' e i r g u=>?_;obtain⟨e1,m⟩:=d σ' (Z0 A c) (k9 s) (Ν A c) e (λb a=>.inl (i b a)) (u.mono λb _ a=>⟨.inl a.1,a.2⟩);exact hR s σ' (k9 s) e1 (λb a=>w b (i b a)) r g m
theorem NU (h:HH U F L H)(hk:H.bZ[k]?=some A)(hy:L.ys[k]?=some Y)(c m:Int){R:Sl->Int->Hp->Prop}
 (hR:∀s σ' (Q:Rg),Ext F U σ'->(∀b,Q b->U.size<=b)->bU s 1 (ints (YB A c m)) σ' Q->HH σ' (λb=>Grow F U b/\¬Q b) L (H.cE k (YV A c m))->R s (Kc A c m) σ') :
 WZ.c (aW Y.p) c m U R:=by
 obtain⟨G,w,i,d⟩:=h.m4 hk hy;refine WbI i c m λs σ' e r u=>?_;have g:cM (YV A c m) Y=cM A Y:=(Jg A c m).cM Y;obtain⟨e1,j⟩:=d σ' (YV A c m) (λb=>U.size<=b) (Jg A c m).1 e (λb a=>.inr a) (by rw[g];exact u.mono λb _ a=>⟨.inl a.1,by have:=a.2;omega⟩);exact hR s σ' _ e1 (λb a=>a) r j
theorem S9 (h:HH U F L H)(hk:H.bZ[k]?=some A)(hy:L.ys[k]?=some Y)(c:Int){sl:Sl}{xs:List Int}{X:Rg}(hs:cV sl 1 (Wu xs) U X)(hi:∀x∈xs,iN x){R:Bool->Int->Hp->Prop}
 (hR:∀σ',Ext F U σ'->HH σ' (Grow F U) L (H.cE k (KH A c xs))->R (VR A c xs) (HY A c xs) σ'):W6.c (aW Y.p) c sl U R:=by
 obtain⟨G,i,g,a⟩:=h.mH hk hy;refine υ g c hs hi λσ' e d=>?_;obtain⟨e1,b⟩:=a σ' _ (Tj A c xs) e d;exact hR σ' e1 b
theorem PJ (h:HH U F L H)(hk:H.bZ[k]?=some A)(hy:L.ys[k]?=some Y)(c:Int){sl:Sl}{xs:List Int}{X:Rg}(hs:cV sl 1 (Wu xs) U X)(hX:∀b,b<U.size->X b->¬F b)(hi:∀x∈xs,iN x)(hl:xs.length<=1000000)(hcap:sl.len<=sl.cap){R:aN}
 (hR:∀σ',Ext F U σ'->HH σ' (Grow F U) L (H.cE k (ZY A c xs))->R (Kv A c xs) σ'):Xd.c (aW Y.p) c sl U R:=by
 obtain⟨G,s,g,a⟩:=h.mH hk hy;refine TF g c hi hl hcap (.inl ⟨X,hs,λb m r u=>hX b m r (s b u)⟩) λσ' e j=>?_;have d:cM (ZY A c xs) Y=cM A Y:=(EX A c xs).cM Y;obtain⟨e1,i⟩:=a σ' _ (EX A c xs).1 e (by rw[d];exact j);exact hR σ' e1 i
theorem NJ (h:HH U F L H)(hk:H.bZ[k]?=some A)(hy:L.ys[k]?=some Y)(x:Int)(hf:∀r∈A.runs,r.1<=1000000){R:aN}
 (hR:∀σ',Ext F U σ'->HH σ' (Grow F U) L (H.cE k (Kb A x))->R (VB A x) σ'):Xf.c (aW Y.p) x U R:=by
 obtain⟨G,j,d,a⟩:=h.mH hk hy;refine RC d x hf λσ' e i=>?_;have b:cM (Kb A x) Y=cM A Y:=(JA A x).cM Y;obtain⟨e1,g⟩:=a σ' _ (JA A x).1 e (by rw[b];exact i);exact hR σ' e1 g
theorem PN (h:HH U F L H)(hk:H.bZ[k]?=some A)(hy:L.ys[k]?=some Y)(c:Int){R:aN}
 (hR:∀σ',Ext F U σ'->HH σ' (Grow F U) L {H.cE k (cQ A H.sp c).1 with sp:=(cQ A H.sp c).2}->R (Vy A H.sp c) σ'):Yr.c (aW Y.p) c U R:=by
 obtain⟨Y',G,D,a,_,i,b⟩:=h.qm hk;rw[hy]at a;cases a;refine Ma i c λσ' G' D' m e j=>?_;have d:cM (cQ A H.sp c).1 Y=cM A Y:=(F0 A H.sp c).cM Y;obtain⟨e1,g⟩:=b σ' _ _ G' D' (F0 A H.sp c).1 e m (by rw[d];exact j);exact hR σ' e1 g
theorem Rz (h:HH U F L H)(hk:H.bZ[k]?=some A)(hy:L.ys[k]?=some Y)(m a:Int){R:Int->Int->Hp->Prop}
 (hR:∀σ',Ext F U σ'->HH σ' (Grow F U) L {H.cE k (cC A H.sp m a).1 with sp:=(cC A H.sp m a).2}->R ((QC A H.sp m a:Nat):Int) (Q3 A H.sp m a) σ'):Xe.c (aW Y.p) m a U R:=by
 obtain⟨Y',G,D,b,_,j,d⟩:=h.qm hk;rw[hy]at b;cases b;refine ν j m a λσ' G' D' s e r=>?_;have g:cM (cC A H.sp m a).1 Y=cM A Y:=(I2 A H.sp m a).cM Y;obtain⟨e1,i⟩:=d σ' _ _ G' D' (I2 A H.sp m a).1 e s (by rw[g];exact r);exact hR σ' e1 i
def Hw.dZ (H:Hw)(t:Nat)(g:Th)(ls:List Li):Hw:={H with bR:=H.bR.set t {g with ls:=ls}}
theorem HH.lu (h:HH U F L H)(hx:L.ts[t]?=some x)(hg:H.bR[t]?=some g):∃G:Rg,(∀b,G b->F b)/\eO U G x.c H.tb H.cf.dD g.ls/\∀(σ':Hp) (ls:List Li) (Y':hO) (Q:Rg),Y'.p=x.c.p->Ext G U σ'->(∀b,Q b->U.size<=b)->eO σ' (λb=>Grow G U b/\¬Q b) Y' H.tb H.cf.dD ls →
 Ext F U σ'/\HH σ' (λb=>Grow F U b/\¬Q b) {L with ts:=L.ts.set t {x with c:=Y'}} (H.dZ t g ls):=by
 obtain⟨G,i,r,d⟩:=h.pa hx hg;refine⟨G,i,r,λσ' ls Y' Q w e m s=>?_⟩;obtain⟨e1,j⟩:=d σ' ls Y' _ w e (λb a=>a.1) s;refine⟨e1,j.mono (λb _ a=>?_) (h.oG.sub λb a=>a.1) λa=>h.rK a.1⟩;rcases a with a|a
 .exact⟨.inl a.1,λu=>by have:=a.2.1;have:=m b u;omega⟩
 .exact⟨a.1.imp (i b) id,a.2⟩
theorem HH.lJ (h:HH U F L H)(hx:L.ts[t]?=some x)(hg:H.bR[t]?=some g):∃G:Rg,(∀b,G b->F b)/\eO U G x.c H.tb H.cf.dD g.ls/\∀(σ':Hp) (ls:List Li) (Y':hO),Y'.p=x.c.p->Ext G U σ'->eO σ' (Grow G U) Y' H.tb H.cf.dD ls →
 Ext F U σ'/\HH σ' (Grow F U) {L with ts:=L.ts.set t {x with c:=Y'}} (H.dZ t g ls):=by
 obtain⟨G,s,j,a⟩:=h.lu hx hg;refine⟨G,s,j,λσ' ls Y' r e m=>?_⟩;obtain⟨e1,i⟩:=a σ' ls Y' (λ_=>False) r e (λb d=>d.elim) (m.mono λb _ d=>⟨d,id⟩);exact⟨e1,i.mono (λb _ d=>d.1) h.oG h.rK⟩
theorem ε (h:HH U F L H)(hx:L.ts[t]?=some x)(hg:H.bR[t]?=some g)(hc:H.tb[k]?=some c)(hl:g.ls[k]?=some l){R:Int->Int->Hp->Prop}
 (hR:∀σ' ts',Ext F U σ'->HH σ' (Grow F U) {L with ts:=ts'} (H.dZ t g (g.ls.set k (KM c l).2))->R ((KM c l).1.getD 0) (if(KM c l).1.isSome then 0 else 4) σ'):Yy.c (aW x.c.p) (k:Int) U R:=by
 obtain⟨G,m,i,a⟩:=h.lJ hx hg;refine lI i hc hl λσ' Y' e j d=>?_;obtain⟨e1,b⟩:=a σ' _ Y' j e d;exact hR σ' _ e1 b
theorem TG (h:HH U F L H)(hx:L.ts[t]?=some x)(hg:H.bR[t]?=some g)(hc:H.tb[k]?=some c)(hl:g.ls[k]?=some l){R:Int->Int->Hp->Prop}
 (hR:∀σ' ts',Ext F U σ'->HH σ' (Grow F U) {L with ts:=ts'} H->R ((qc c l:Nat):Int) 0 σ'):Yt.c (aW x.c.p) (k:Int) U R:=by
 obtain⟨G,m,j,a⟩:=h.lJ hx hg;refine Wmg j hc hl λσ' Y' e d i=>?_;obtain⟨e1,b⟩:=a σ' _ Y' d e i;have e2:H.dZ t g g.ls=H:=by
  unfold Hw.dZ;rw[QN hg]
 rw[e2]at b;exact hR σ' _ e1 b
theorem TL (h:HH U F L H)(hx:L.ts[t]?=some x)(hg:H.bR[t]?=some g)(hc:H.tb[k]?=some c)(hl:g.ls[k]?=some l){sl:Sl}{xs:List Int}{X:Rg}(hs:cV sl 1 (Wu xs) U X)(hX:∀q,X q->¬F q)(hfit:l.os.length+xs.length<=256){R:aN}
 (hR:∀σ' ts',Ext F U σ'->HH σ' (Grow F U) {L with ts:=ts'} (H.dZ t g (g.ls.set k (eM xs.reverse l)))->R 0 σ'):Yj.c (aW x.c.p) (k:Int) sl U R:=by
 obtain⟨G,r,i,a⟩:=h.lJ hx hg;refine Pr i hc hl hs (λq j hg=>hX q j (r q hg)) hfit λσ' Y' e m d=>?_;obtain⟨e1,b⟩:=a σ' _ Y' m e d;exact hR σ' _ e1 b
theorem TV (h:HH U F L H)(hx:L.ts[t]?=some x)(hg:H.bR[t]?=some g)(hc:H.tb[k]?=some c)(hl:g.ls[k]?=some l)(y:Int){R:Sl->Int->Hp->Prop}
 (hR:∀σ' ts' s e (Q:Rg),Ext F U σ'->(∀q,Q q->U.size<=q)->bU s 1 (Wu (dO c y l).1) σ' Q->HH σ' (λb=>Grow F U b/\¬Q b) {L with ts:=ts'} (H.dZ t g (g.ls.set k (dO c y l).2))->R s e σ'):YZ.c (aW x.c.p) (k:Int) y U R:=by
 obtain⟨G,z,r,a⟩:=h.lu hx hg;refine Pk r hc hl y λσ' Y' s w Q e u _ d j m=>?_;obtain⟨e1,i⟩:=a σ' _ Y' Q u e d m;exact hR σ' _ s w Q e1 d j i
theorem RK (h:HH U F L H)(hx:L.ts[t]?=some x)(hg:H.bR[t]?=some g){R:aO}(hR:∀σ',aF U σ'->R (decide (H.cf.dD<KB H.tb g.ls)) σ'):Yp.c (aW x.c.p) U R:=by
 obtain⟨G,d,b,a⟩:=h.lJ hx hg;exact RY b hR
theorem T7 (hso:ot)(h:HH U F L H)(hx:L.ts[t]?=some x)(hg:H.bR[t]?=some g){R:Sl->Hp->Prop}
 (hR:∀σ' s (Q:Rg),Ext F U σ'->(∀q,Q q->U.size<=q)->iC s (KN Z9 H.tb g.ls) σ' Q->HH σ' (λb=>Grow F U b/\¬Q b) L (H.dZ t g (KG Z9 H.tb g.ls))->R s σ'):X0.c (aW x.c.p) U R:=by
 obtain⟨G,u,r,a⟩:=h.lu hx hg;refine Pn hso r λσ' s Q e i m j=>?_;obtain⟨e1,d⟩:=a σ' _ x.c Q rfl e i m;rw[show L.ts.set t {x with c:=x.c}=L.ts from QN hx]at d;exact hR σ' s Q e1 i j d
theorem O8 (hso:ot)(h:HH U F L H)(hx:L.ts[t]?=some x)(hg:H.bR[t]?=some g){R:Sl->Hp->Prop}
 (hR:∀σ' s (Q:Rg),Ext F U σ'->(∀q,Q q->U.size<=q)->iC s (KN Vz H.tb g.ls) σ' Q->HH σ' (λb=>Grow F U b/\¬Q b) L (H.dZ t g (KG Vz H.tb g.ls))->R s σ'):Xq.c (aW x.c.p) U R:=by
 obtain⟨G,u,r,a⟩:=h.lu hx hg;refine PA hso r λσ' s Q e i m j=>?_;obtain⟨e1,d⟩:=a σ' _ x.c Q rfl e i m;rw[show L.ts.set t {x with c:=x.c}=L.ts from QN hx]at d;exact hR σ' s Q e1 i j d
def np (S:aP)(L:dE)(tb:List cA):Prop:=∀m,S m->∃(P:Rg) (ts:List eU) (H:Hw),HH m P {L with ts:=ts} H/\H.tb=tb
theorem np.dI {S:aP}{tb:List cA}(hS:np S L tb){K:Sl->Prop}(hK:K L.dI):gF S .s (Addr.add ⟨L.p,0,none⟩ 0) K:=⟨L.dI,λm a=>by obtain⟨_,_,_,h,_⟩:=hS m a;rw[add_lit,h.hd.cell];rfl,hK⟩
theorem np.fT {S:aP}{tb:List cA}(hS:np S L tb){K:Sl->Prop}(hK:K L.fT):gF S .s (Addr.add ⟨L.p,0,none⟩ 7) K:=⟨L.fT,λm a=>by obtain⟨_,_,_,h,_⟩:=hS m a;rw[add_lit,h.hd.cell];rfl,hK⟩
theorem np.rA {S:aP}{tb:List cA}(hS:np S L tb)(h:HH U F L H)(hy:L.ys[k]?=some Y){K:Option Addr->Prop}(hK:K (some ⟨Y.p,0,none⟩)):Ix L.fT.a L.fT.len (k:Int) 1 λa=>gF S .p a K:=by
 have j:(fR (L.ys.map (·.p)))[k]?=some (.pointer (some ⟨Y.p,0,none⟩)):=by simp[fR,hy]
 obtain⟨b,o,r,_⟩:=h.nm.cell j;have y:=(cY.1 hy).1;have w:=h.ns;have:=h.s.ys;rw[r];refine ix O O ⟨_,λm u=>?_,hK⟩;obtain⟨_,_,_,g,_⟩:=hS m u;obtain⟨z,x,d,i⟩:=g.nm.cell j;rw[r]at d;cases d;rw[add_lit,show o+(k:Int).toNat*1=o+k by omega];exact i
theorem np.rC {S:aP}(hS:np S L H.tb)(h:HH U F L H)(hc:H.tb[k]?=some c){K:Int->Prop}(hK:K (c.size:Int)):Ix L.dI.a L.dI.len (k:Int) 3 λa=>gF S bO (a.add 0) K:=by
 have j:(gK H.tb)[3*k+0]?=some (.int .i64 (c.size:Int)):=(Ap hc).1;obtain⟨b,o,s,_⟩:=h.jQ.cell j;have y:=(cY.1 hc).1;have w:=h.oU;rw[s];refine ix O O ⟨_,λm u=>?_,hK⟩;obtain⟨_,_,_,g,p⟩:=hS m u;rw[←p]at j;obtain⟨z,x,d,r⟩:=g.jQ.cell j;have d:L.dI.a=_:=d;rw[s]at d;cases d;rw[add_lit,add_lit,show o+(k:Int).toNat*3+0=o+(3*k+0) by omega];exact r
end Go.Ar
namespace Go.Ar
open Go Go.Vc Go.Proofs
variable {U u u':Hp}{F B P Q:Rg}{L:dE}{H H':Hw}{t k n pb:Nat}{A:AR}{Y:Lay}{x:eU}{g:Th}{c:cA}{l:Li}{cs:List Value}{parts:List (List Int)}{xs:List Int}
theorem HK.DK (K:HK F U B u P L H)(e:Ext B u u'){B':Rg}(hB:∀b,B' b->B b\/u.size<=b/\b<u'.size):HK F U B' u' P L H:=by
 have r:=e.1;have j:=K.e.1;have i:jh B/\¬B 1:=⟨K.o.1.sub λb g=>(K.b b g).1,λg=>K.o.2 (K.b _ g).1⟩;refine⟨K.h.bT e (λb _ a d=>(K.p b a).2.1 d) i.1 i.2,K.e.dX e λb m=>.inr (K.b b m).1,λb a=>⟨(K.p b a).1,λg=>?_,by have:=(K.p b a).2.2;omega⟩,λb a=>?_,K.o⟩
 .rcases hB b g with d|d
  .exact(K.p b a).2.1 d
  .have:=(K.p b a).2.2;omega
 .rcases hB b a with d|d
  .have:=K.b b d;omega
  .omega
def sV (s:Sl):Value:=.slice s.a s.len s.cap
def mK (pb:Nat)(parts:List (List Int)):Hp->Rg->Prop:=λu Q=>∃(ps:List Sl) (Qs:Nat->Rg),ps.length=parts.length/\Q pb/\bY u pb (ps.map sV)/\(∀j b,Qs j b->Q b/\b≠pb)/\(∀j j' b,Qs j b->Qs j' b->j=j') ∧
 ∀j s xs,ps[j]?=some s->parts[j]?=some xs->dN s 1 (Wu xs) u (Qs j)
theorem mK.loc (pb:Nat)(parts:List (List Int)):dP (mK pb parts):=by
 rintro U H F G ⟨B,Qs,u,C,p,i,w,x⟩ D g;have r:=g pb p.lt C;obtain⟨e,A⟩:=p;refine⟨B,λj b=>Qs j b/\b<U.size,u,r.1,⟨e,r.2.trans A⟩,λj b d=>⟨(g b d.2 (i j b d.1).1).1,(i j b d.1).2⟩,λj y b a E=>w j y b a.1 E.1,λj s z a b=>(dN.loc _ _ _) _ _ _ _ (x j s z a b) D λb d m=>⟨⟨m,d⟩,(g b d (i j b m).1).2⟩⟩
theorem mK.add (h:mK pb parts u Q){a m e1 e2:Nat}(hm:m=parts.length)(ha:parts[a]?=some xs)(y:Int)(hl:xs.length<=1000000){K:aP}(hK:∀u',Ext Q u u'->mK pb (parts.set a (xs++[y])) u' (Grow Q u)->K u') :
 Ix (some ⟨pb,0,none⟩) m (a:Int) 1 λa1=>jF a1 u λt35=>Nw (.cells #[.int .i64 y] e1 (0,0)) u λn37 v4=>App t35 1 8 e2 [.int .i64 0] ⟨some n37,1,1⟩ v4 λt38 v5=>Ix (some ⟨pb,0,none⟩) m (a:Int) 1 λa39=>dG a39 (.slice t38.a t38.len t38.cap) v5 λv6=>K v6:=by
 obtain⟨B,Qs,W,N,L,A,R,S⟩:=h;have F:=(cY.1 ha).1;have p:B[a]?=some (B[a]' O):=cW _;generalize (B[a]' O)=s at p;have i:=S a s xs p ha;have ab:s.len=xs.length:=by have:=i.1;simp[Wu]at this;omega
 refine ix O O ?_;rw[add_lit,show 0+(a:Int).toNat*1=a by omega];refine L.wu (a:=s.a) (n:=s.len) (c:=s.cap) (by simp[p,sV]) ?_;refine nw (cs:=[.int .i64 y]) λv4 hz e d=>?_;have z:=(dN.loc _ _ _).bP ((dN.loc _ _ _).cut i) e;have H:=e.bV L id;refine z.app (x:=⟨some ⟨u.size,0,none⟩,1,1⟩) (ys:=[.int .i64 y]) rfl rfl ?_ (by simp[dY]) ?_ ?_ nc λs' v5 Z D G=>?_
 .intro j w hw;rw[add_lit,zH,d.cell];exact hw
 .simp only;omega
 .simp only;omega
 have V:=D.1;have J:bY v5 pb (B.map sV):=D.bV H λr=>(A a pb r.1).2 rfl;refine ix O O ?_;rw[add_lit,show 0+(a:Int).toNat*1=a by omega];refine J.s0 aE λu' P g=>?_;have aa:=P.1;have M:Ext (· = pb) v5 u':=P.ext;have U:Ext Q u u':=((aF.to e).trans (D.sub λb d=>(A a b d.1).1)).trans (M.sub λb d=>by rw[d];exact N);have Y:=L.lt;refine hK u' U ⟨B.set a s',λj b=>Qs j b/\b<u.size\/j=a/\v4.size<=b/\b<v5.size,by simp[W],.inl N,?_,λj b d=>?_,λj X b d g=>?_,λj s2 ys C E=>?_⟩
 .rw[wA];exact g
 .rcases d with d|d
  .exact⟨.inl (A j b d.1).1,(A j b d.1).2⟩
  .exact⟨.inr O,O⟩
 .rcases d with d|d<;>rcases g with g|g
  .exact R j X b d.1 g.1
  .omega
  .omega
  .omega
 .by_cases hja:j=a
  .subst hja;rw[zO O]at C;rw[zO F]at E;cases C;cases E;have:=(dN.loc _ _ _).bT ((dN.loc _ _ _).cut G) M λb _ d r=>by
    rcases d.1 with h7|h7
    .exact(A j b h7.1).2 r
    .omega
   have e7:Wu (xs++[y])=Wu xs++[.int .i64 y]:=by simp[Wu]
   rw[e7];refine(dN.loc _ _ _).mono this λb _ d=>?_;rcases d.1 with h7|h7
   .exact .inl h7
   .exact .inr ⟨rfl,h7,d.2⟩
  .rw[zh (Ne.symm hja)]at C E;have:=(dN.loc _ _ _).cut (S j s2 ys C E);have:=(dN.loc _ _ _).bT ((dN.loc _ _ _).bT ((dN.loc _ _ _).bP this e) D λb _ d r=>hja (R j a b d.1 r.1)) M λb _ d r=>(A j b d.1).2 r;exact(dN.loc _ _ _).mono this λb _ d=>.inl d
theorem mK.get (h:mK pb parts u Q){a m:Nat}(hm:m=parts.length)(ha:parts[a]?=some xs){K:Sl->Prop}(hK:∀s,dN s 1 (Wu xs) u Q->s.len=xs.length->K s):Ix (some ⟨pb,0,none⟩) m (a:Int) 1 λa1=>jF a1 u K:=by
 obtain⟨i,Qs,y,z,p,x,A,r⟩:=h;have j:=(cY.1 ha).1;have g:i[a]?=some (i[a]' O):=cW _;generalize (i[a]' O)=s at g;have d:=r a s xs g ha;refine ix O O ?_;rw[add_lit,show 0+(a:Int).toNat*1=a by omega];refine p.wu (a:=s.a) (n:=s.len) (c:=s.cap) (by simp[g,sV]) (hK s ((dN.loc _ _ _).mono d λb _ w=>(x a b w).1) ?_);have:=d.1;simp[Wu]at this;omega
theorem Dl {bZ:List AR}{x:Int}(h:0<=XS bZ x):(XS bZ x).toNat<bZ.length/\XS bZ x=((XS bZ x).toNat:Int):=by
 refine⟨?_,O⟩;unfold XS at *;split at h
 .omega
 .rename_i hx;rw[zB hx];split at h
  .rename_i i hi;have:=(List.findIdx?_eq_some_iff_findIdx_eq.1 hi).1;simp only[dH];exact this
  .omega
theorem SA {bZ:List AR}{x:Int}{xs:List Int}(h:0<=XS bZ x):((List.range bZ.length).map (Z8 bZ xs)).set (XS bZ x).toNat (Z8 bZ xs (XS bZ x).toNat++[x])=(List.range bZ.length).map (Z8 bZ (xs++[x])):=by
 have a:=Dl h;apply zt;intro j;by_cases hj:j<bZ.length
 .by_cases e:(XS bZ x).toNat=j
  .subst e;rw[zO (by simpa using hj)];simp only[zZ,nR hj,ze,Z8,xm]
   congr 2
   rw[vM (by rw[←a.2];simp)];rfl
  .rw[zh e];simp only[zZ,nR hj,ze,Z8,xm];have:List.filter (λy=>XS bZ y==(j:Int)) [x]=[]:=by
    rw[vE (by simp only[zU];omega)];rfl
   rw[this,kG]
 .rw[zX aE,zX aE]
theorem KC {K:aO}{body:(Bool->Hp->Prop)->Prop}(P:aO)(h1:∀r w,P r w->K r w)(h2:∀J:Bool->Hp->Prop,(∀r w,P r w->J r w)->body J):bX K body:=bX.intro (h2 K h1)
theorem AY {K:eR [.b]}{body:eR [.b]->Prop}(P:aO)(h1:∀r w,P r w->K r w)(h2:∀J:eR [.b],(∀r w,P r w->J r w)->body J):Jn [.b] K body:=Jn.intro (h2 K h1)
theorem ui {K:eR []}{body:eR []->Prop}(P:aP)(h1:∀w,P w->K w)(h2:∀J:eR [],(∀w,P w->J w)->body J):Jn [] K body:=Jn.intro (h2 K h1)
theorem VN {H:Hw}{k:Nat}{part:Nat->List Int}(j:Nat):VQ H k part (List.range (j+1))=(match (VQ H k part (List.range j)).bZ[j]? with
 | some A=>if part j=[]then VQ H k part (List.range j)else(VQ H k part (List.range j)).cE j (ZY A (k:Int) (part j))
 | none=>VQ H k part (List.range j)):=by
 unfold VQ;rw[qN,vX];rfl
theorem NQ {H:Hw}{k:Nat}{part:Nat->List Int}(j:Nat):(VQ H k part (List.range j)).bZ.length=H.bZ.length:=by
 induction j with
 | zero=>rfl
 | succ j ih=>
  rw[VN];split
  .split
   .exact ih
   .simp[Hw.cE,ih]
  .exact ih
theorem PY {H:Hw}{k:Nat}{part:Nat->List Int}(j:Nat):(VQ H k part (List.range j)).bR=H.bR:=by
 induction j with
 | zero=>rfl
 | succ j ih=>
  rw[VN];split
  .split<;>exact ih
  .exact ih
theorem Dm (H:Hw)(own k:Nat)(xs:List Int):(GG H own k xs).bR=H.bR:=by
 unfold GG;split
 .split
  .rfl
  .rw[PY];split<;>rfl
 .rfl
def Ds (F:Rg)(U:Hp)(L:dE)(H:Hw)(pb:Nat)(parts:List (List Int))(cs:List Value)(w:Hp):Prop:=∃Q P:Rg,HK F U (λb=>b=U.size\/Q b) w P L H/\mK pb parts w Q/\bY w U.size cs/\∀b,Q b->b≠U.size
theorem Oa (h:HH U F L H){own:Nat}(ho:own<H.bZ.length)(k:Nat){sl:Sl}{xs:List Int}{X:Rg}(hs:cV sl 1 (Wu xs) U X)(hX:∀b,b<U.size->X b->¬F b)(hcap:sl.len<=sl.cap)(hx:∀x∈xs,iN x/\0<=XS H.bZ x)(hl:xs.length<=1000000){R:aP}
 (hR:∀σ',Ext F U σ'->HH σ' (Grow F U) L (GG H own k xs)->R σ'):ZO.c (aW L.p) (own:Int) (k:Int) sl U R:=by
 refine ZO.o ?_;unfold ZO.v;have hsl:sl.len=xs.length:=by have:=hs.1;simp[Wu]at this;omega
 have ha2:=h.s.a2;have hal:=h.ns;have hs1:∀u,Ext F U u->cV sl 1 (Wu xs) u (λb=>X b/\b<U.size):=λu eu=>aH.bT (aH.cut hs) eu λb _ hx hf=>hX b hx.2 hx.1 hf;refine nw (cs:=[.int .i64 (k:Int),.slice sl.a sl.len sl.cap]) λv hz e d=>?_;have K1:=(HK.start h).box e hz;refine bL (K1.h.hd.rS rfl ?_);simp only;refine mk (n:=L.fT.len) O O λv1 hz1 e1 hb1=>?_;have K2:=K1.box e1 hz1;have hb2:=e1.bV d id;have W:mK v.size ((List.range H.bZ.length).map (Z8 H.bZ [])) v1 (λb=>b=v.size):=by
  refine⟨List.replicate H.bZ.length ⟨none,0,0⟩,λ_ _=>False,by simp,rfl,?_,λj b d=>d.elim,λj j' b d=>d.elim,λj s ys g h2=>?_⟩
  .have:(List.replicate L.fT.len [Value.slice none 0 0]).flatten=(List.replicate H.bZ.length (⟨none,0,0⟩:Sl)).map sV:=by
    rw[hal];simp[sV]
   rw[←this];exact hb1
  .simp only[zZ,oy]at h2;obtain⟨a,_,rfl⟩:=h2;simp only[mY]at g;split at g
   .cases g;exact dN.nil _ _ _ _
   .cases g
 have hpl:∀ys:List Int,L.fT.len=((List.range H.bZ.length).map (Z8 H.bZ ys)).length:=λys=>by simp[hal]
 refine hb2.rS rfl ?_;refine Qg (a:=bO) (λ(z:Int) w=>∃i:Nat,z=(i:Int)/\i<=xs.length/\Ds F U L H v.size ((List.range H.bZ.length).map (Z8 H.bZ (xs.take i))) [.int .i64 (k:Int),.slice sl.a sl.len sl.cap] w) (λz _=>xs.length-z.toNat)
  ⟨0,rfl,O,λb=>b=v.size,_,⟨K2.h,K2.e,λb d=>⟨(K2.p b d).1,λhx=>(K2.p b d).2.1 (hx.imp .inr id),(K2.p b d).2.2⟩,λb d=>K2.b b (d.imp .inr id),K2.o⟩,W,hb2,λb d=>O⟩ ?_
 rintro z w ⟨i,rfl,hi,Q,P,K,W,C,hQ⟩;refine cN (λE=>?_) λhge=>?_
 .simp only at E;have hi':i<xs.length:=O
  have Z:xs[i]?=some xs[i]:=cW hi';generalize xs[i]=y at Z;have hy:=hx y (zG Z);refine(hs1 w K.e).mf Z (Ey K.h y hy.1 λw1 e1=>?_);have E:=Dl hy.2;rw[E.2];have hP1:mK v.size _ w1 (λb=>Q b/\b<w.size):=(mK.loc _ _).bP ((mK.loc _ _).cut W) e1;have hpart:((List.range H.bZ.length).map (Z8 H.bZ (xs.take i)))[(XS H.bZ y).toNat]?=some (Z8 H.bZ (xs.take i) (XS H.bZ y).toNat):=by
   simp only[zZ,nR E.1,ze]
  have hpl1:(Z8 H.bZ (xs.take i) (XS H.bZ y).toNat).length<=1000000:=by
   have:=pI (λx=>XS H.bZ x==(((XS H.bZ y).toNat:Nat):Int)) (xs.take i);simp only[Z8];rw[zY]at this;omega
  refine hP1.add (hpl _) hpart y hpl1 λw2 e2 hP2=>?_;rw[SA hy.2]at hP2;have ht:xs.take i++[y]=xs.take (i+1):=by rw[kB,Z];rfl
  rw[ht]at hP2;have hz1:=e1.1;have hz2:=e2.1;refine cT (m:=i+1) O O ⟨⟨i+1,rfl,O,λb=>(Q b/\b<w.size)\/w1.size<=b/\b<w2.size,P,(K.fr e1).DK (e2.sub λb d=>.inr d.1) λb d=>?_,(mK.loc _ _).mono hP2 λb d M=>?_,?_,λb d=>?_⟩,O⟩
  .rcases d with d|d|d
   .exact .inl (.inl d)
   .exact .inl (.inr d.1)
   .exact .inr d
  .rcases M with M|M
   .exact .inl M
   .exact .inr ⟨M,d⟩
  .exact e2.bV (e1.bV C id) λhx=>hQ _ hx.1 rfl
  .have:=(K.b U.size (.inl rfl)).2;rcases d with d|d
   .exact hQ b d.1
   .omega
 .have hii:i=xs.length:=by simp only at hge;omega
  subst hii;rw[mi]at W;obtain⟨A,hA⟩:∃A,H.bZ[own]?=some A:=⟨_,cW ho⟩;obtain⟨Y,hY,_,_⟩:=h.ar hA;have D:GG H own k xs=(if(Z8 H.bZ xs own).length=xs.length/\VR A (k:Int) xs=true then H.cE own (KH A (k:Int) xs)
   else VQ (if(Z8 H.bZ xs own).length=xs.length then H.cE own (KH A (k:Int) xs)else H) k (Z8 H.bZ xs) (List.range H.bZ.length)):=by
   unfold GG;rw[hA]
  have hown:((List.range H.bZ.length).map (Z8 H.bZ xs))[own]?=some (Z8 H.bZ xs own):=by
   simp only[zZ,nR ho,ze]
  refine ui (λw=>¬((Z8 H.bZ xs own).length=xs.length/\VR A (k:Int) xs=true)/\Ds F U L (if(Z8 H.bZ xs own).length=xs.length then H.cE own (KH A (k:Int) xs)else H) v.size ((List.range H.bZ.length).map (Z8 H.bZ xs)) [.int .i64 (k:Int),.slice sl.a sl.len sl.cap] w) (λw hw=>?_) λJ hJ=>?_
  .obtain⟨hno,hw⟩:=hw;rw[zB hno]at D;generalize hH1:(if(Z8 H.bZ xs own).length=xs.length then H.cE own (KH A (k:Int) xs)else H)=H1 at hw D
   have hH1l:H1.bZ.length=H.bZ.length:=by
    rw[←hH1];split
    .simp[Hw.cE]
    .rfl
   refine Qg (a:=bO) (λ(z:Int) w=>∃j:Nat,z=(j:Int)/\j<=H.bZ.length/\Ds F U L (VQ H1 k (Z8 H.bZ xs) (List.range j)) v.size ((List.range H.bZ.length).map (Z8 H.bZ xs)) [.int .i64 (k:Int),.slice sl.a sl.len sl.cap] w) (λz _=>H.bZ.length-z.toNat) ⟨0,rfl,O,hw⟩ ?_;rintro z w ⟨j,rfl,hj,Q,P,K,W,C,hQ⟩;refine cN (λE=>?_) λhge=>?_
   .simp only at E;have hj':j<H.bZ.length:=O
    have hpj:((List.range H.bZ.length).map (Z8 H.bZ xs))[j]?=some (Z8 H.bZ xs j):=by
     simp only[zZ,nR hj',ze]
    refine W.get (hpl _) hpj λs S N=>?_;have hfl:=NQ (H:=H1) (k:=k) (part:=Z8 H.bZ xs) j;obtain⟨B,hB⟩:∃B,(VQ H1 k (Z8 H.bZ xs) (List.range j)).bZ[j]?=some B:=⟨_,cW O⟩;have G:=VN (H:=H1) (k:=k) (part:=Z8 H.bZ xs) j;rw[hB]at G;simp only at G;refine cN (λhpos=>?_) λhz0=>?_
    .have V:Z8 H.bZ xs j≠[]:=λe=>by rw[e]at N;simp at N;omega
     rw[zB V]at G;obtain⟨Y,hY,_,_⟩:=K.h.ar hB;refine bL (K.h.hd.rS rfl (K.h.rA hY (C.rI rfl ?_)));refine PJ K.h hB hY (k:Int) (dN.fY S) (λb _ M hp=>(K.p b hp).2.1 (.inr M)) (λx hx'=>(hx x (zK.1 hx').1).1) ?_ (dN.cap S) λw1 e1 g=>?_
     .have:=pI (λx=>XS H.bZ x==(j:Int)) xs;simp only[Z8];omega
     .have hz1:=e1.1;rw[←G]at g;refine cT (m:=j+1) O O ⟨⟨j+1,rfl,O,Q,_,K.to e1 g λb _ d=>d,(mK.loc _ _).bT W e1 λb _ M hp=>(K.p b hp).2.1 (.inr M),K.dA e1 C (.inl rfl),hQ⟩,O⟩
    .have V:Z8 H.bZ xs j=[]:=vj O;rw[zC V]at G;refine cT (m:=j+1) O O ⟨⟨j+1,rfl,O,Q,P,by rw[G];exact K,W,C,hQ⟩,O⟩
   .have hjj:j=H.bZ.length:=by simp only at hge;omega
    subst hjj;rw[D]at hR;exact hR w K.e (K.fin h)
  .refine W.get (hpl _) hown λs S N=>C.rS rfl ?_;refine cP (λheq=>?_) λV=>?_
   .have heq':(Z8 H.bZ xs own).length=xs.length:=by simp only[zU]at heq;omega
    rw[zC heq']at D hJ;have hS:np (λu=>(∃P' H',HH u P' L H'/\H'.tb=H.tb)/\bY u U.size [.int .i64 (k:Int),.slice sl.a sl.len sl.cap]) L H.tb:=λm hm=>by
     obtain⟨⟨P',H',g,h2⟩,_⟩:=hm;exact⟨P',L.ts,H',g,h2⟩
    refine⟨λu=>(∃P' H',HH u P' L H'/\H'.tb=H.tb)/\bY u U.size [.int .i64 (k:Int),.slice sl.a sl.len sl.cap],⟨⟨_,_,K.h,rfl⟩,C⟩,bL (hS.fT (hS.rA K.h hY ?_))⟩;refine⟨(k:Int),λm hm=>by rw[add_lit,hm.2.cell];rfl,⟨sl,λm hm=>by rw[add_lit,hm.2.cell];rfl,?_⟩⟩;refine S9 K.h hA hY (k:Int) (hs1 w K.e) (λx hx'=>(hx x hx').1) λw1 e1 g=>?_;have K1:=K.to e1 g λb _ d=>d;refine⟨⟨⟨_,_,g,rfl⟩,K.dA e1 C (.inl rfl)⟩,?_⟩;have fin:∀r,r=VR A (k:Int) xs->((r=true->R w1)/\(r=false->J w1)):=λr hr=>by
     refine⟨λhr1=>?_,λhr1=>hJ w1 ⟨λhx=>Bool.noConfusion ((hr1.symm.trans hr).trans hx.2),Q,_,K1,(mK.loc _ _).bT W e1 λb _ M hp=>(K.p b hp).2.1 (.inr M),K.dA e1 C (.inl rfl),hQ⟩⟩;rw[zC ⟨heq',by rw[←hr,hr1]⟩]at D;rw[D]at hR;exact hR w1 K1.e (K1.fin h)
    refine KC (λr w=>w=w1/\r=VR A (k:Int) xs) (λr w' ⟨hw,hr⟩=>?_) λJ3 hJ3=>?_
    .subst hw;exact cP (λg=>(fin r hr).1 g) λg=>(fin r hr).2 g
    .refine cP (λg=>hJ3 _ _ ⟨rfl,?_⟩) λg=>hJ3 _ _ ⟨rfl,g.symm⟩;have:HY A (k:Int) xs=0:=by
      unfold VR at g;simp only[zF,zV]at g;exact g.1
     rw[this,g];rfl
   .have hne':¬(Z8 H.bZ xs own).length=xs.length:=by
     simp only[mV]at V;omega
    rw[zB hne']at hJ;exact hJ w ⟨λhx=>hne' hx.1,Q,P,K,W,C,hQ⟩
theorem gS {w:Hp}(K:HK F U B w P L H)(hB:B n){p q:Int}(hb:bY w n [.int .i64 p,.int .i64 q]){x y:Int}{K':Int->Int->Hp->Prop}(hK:∀w',HK F U B w' P L H->K' x y w') :
 dG (Addr.add ⟨n,0,none⟩ 0) (.int .i64 x) w λv3=>dG (Addr.add ⟨n,0,none⟩ 1) (.int .i64 y) v3 λv4=>gL .i64 (Addr.add ⟨n,0,none⟩ 0) v4 λres=>gL .i64 (Addr.add ⟨n,0,none⟩ 1) v4 λpO=>K' res pO v4:=
 hb.s1 aA λv3 o3 a=>a.s1 aA λv4 o4 b4=>b4.rI rfl (b4.rI rfl (hK v4 ((K.own o3 hB).own o4 hB)))
theorem Sv (h:HH U F L H)(ht:t<H.bR.length)(x:Int)(hx:iN x)(hr:bS H.live x=none->∀A∈H.bZ,iT A)(hlen:∀g,H.bR[t]?=some g->g.bQ.length<=1000)(h0:∀b,bS H.live x=some b->0<=x){R:Value->Int->Int->Hp->Prop}
 (hR:∀σ' ts',Ext F U σ'->HH σ' (Grow F U) {L with ts:=ts'} (HA H t x).1->R (nr (HA H t x).2.1) (HA H t x).2.2.1 (HA H t x).2.2.2 σ'):ZS.c (aW L.p) (t:Int) x U R:=by
 refine ZS.o ?_;unfold ZS.v;refine nw (cs:=[.int .i64 0,.int .i64 0]) λv hz e hb=>?_;have K1:=(HK.start h).box e hz;refine bL (K1.h.hd.rM rfl ⟨_,K1.h.nk,?_⟩);refine nw (cs:=[.int .i64 0,.int .i64 0,.int .i64 0,.int .i64 0]) λv1 hz1 e1 hb1=>?_;have K2:=K1.box e1 hz1;have hbv:=e1.bV hb id;have s:U.size≠v.size:=O
 refine hb1.s1 aA λv2 o2 b2=>b2.s1 aA λv3 o3 b3=>b3.s1 aA λv4 o4 b4=>b4.s1 aA λv5 o5 b5=>?_;have K5:=(((K2.own o2 (.inr rfl)).own o3 (.inr rfl)).own o4 (.inr rfl)).own o5 (.inr rfl);have z:=WF o5 (WF o4 (WF o3 (WF o2 hbv s) s) s) s;have hL:L = {L with ts:=L.ts}:=rfl;cases hm:bS H.live x with
 | none=>
  have hno:HA H t x=(H,none,0,l4 H x):=by unfold HA;rw[hm]
  rw[hno]at hR;simp only at hR;refine cF rfl ?_;refine ui (λw=>l4 H x=8/\aF v5 w) (λw ⟨h8,ew⟩=>?_) λJ hJ=>?_
  .rw[h8]at hR;exact gS (n:=U.size) (K5.fr ew) (.inl (.inr rfl)) (ew.bV z id) λE K'=>hR E L.ts K'.e (K'.fin h)
  .refine Ey K5.h x hx λv9 N=>?_;have K9:=K5.fr N;have hb9:=N.bV z id;refine cN (λhge=>?_) λhlt=>hJ v9 ⟨zB O,N⟩;have K:=Dl hge;obtain⟨A,hA⟩:∃A,H.bZ[(XS H.bZ x).toNat]?=some A:=⟨_,cW K.1⟩;obtain⟨Y,hY,_,hAY⟩:=K9.h.ar hA;have a:l4 H x=(match Ht A x with
    | some (k,y)=>if 0<=k/\(y:Int)=x then(9:Int)else 8
    | none=>8):=by unfold l4;rw[zC hge,hA];rfl
   rw[K.2];refine bL (K9.h.hd.rS rfl (K9.h.rA hY ?_));refine Η hAY (hr hm A (zG hA)) x hx (λB k y i hf=>?_) λB i hf=>?_
   .rw[hf]at a;simp only at a;rw[a]at hR hJ;have K10:=K9.fr i;have V:=i.bV hb9 id;refine KC (λr w=>w=B/\r=decide (0<=k)) (λr w ⟨P,d⟩=>?_) λJ1 D=>?_
    .subst P;subst d;refine KC (λr w2=>w2=w/\r=decide (0<=k/\(y:Int)=x)) (λr w2 ⟨P,d⟩=>?_) λJ2 M=>?_
     .subst d;rw[P];refine cN (λG=>?_) λG=>?_
      .rw[zC G]at hR;exact gS (n:=U.size) K10 (.inl (.inr rfl)) V λE K'=>hR E L.ts K'.e (K'.fin h)
      .exact hJ w ⟨zB G,N.trans i⟩
     .refine cN (λG=>M _ _ ⟨rfl,?_⟩) λG=>M _ _ ⟨rfl,?_⟩
      .by_cases hyx:(y:Int)=x
       .rw[zI (⟨G,hyx⟩:0<=k/\(y:Int)=x),zU.2 hyx]
       .rw[zL (λhx=>hyx hx.2),mV.2 hyx]
      .rw[zL (λhx=>G hx.1)]
    .exact cF rfl (D _ _ ⟨rfl,rfl⟩)
   .rw[hf]at a;simp only at a;rw[a]at hJ;refine KC (λr w=>w=B/\r=false) (λr w ⟨P,d⟩=>?_) λJ1 D=>cD rfl (D _ _ ⟨rfl,rfl⟩);subst P;subst d;exact bX.intro (cD rfl (cD rfl (hJ w ⟨rfl,N.trans i⟩)))
 | some b=>
  have hb0:=h0 b hm;have hfd:HA H t x=(if b.2.2.1<0 then({H with live:=cO H.live x},some (.dF (x/256) b.2.2.2),0,0)
   else(Kr {H with live:=cO H.live x} t b.2.2.1.toNat [x],some (.put b.2.2.1.toNat x),0,0)):=by unfold HA;rw[hm]
  rw[hfd]at hR;have hgb:(bS H.live x).getD ((0,0,0,0):Bk)=b:=by rw[hm];rfl
  rw[hgb]at b5;refine cD rfl ?_;refine bL (K5.h.hd.rM rfl ?_);obtain⟨hF,aa⟩:=K5.h.tj;refine⟨_,K5.h.nk,λv6 o6 _ hm6=>?_⟩;obtain⟨e6,h6⟩:=aa v6 _ (o6 _ rfl) hm6;have K6:=K5.to e6 h6 λb _ hb=>.inl hb;have W:=K5.dA e6 z (.inl (.inr rfl));have m:=K5.dA e6 b5 (.inr rfl);refine m.rI rfl (cN (λZ=>?_) λhnn=>?_)
  .have C:b.2.2.1<0:=Z;rw[zC C]at hR;refine nz aB (ar (by rw[YU O];omega) (by rw[YU O];unfold iN at hx;omega) (m.rI rfl ?_));rw[YU O];exact gS (n:=U.size) K6 (.inl (.inr rfl)) W λE K'=>hR E L.ts K'.e (K'.fin h)
  .have X:¬b.2.2.1<0:=hnn;rw[zB X]at hR;refine m.rI rfl (nw (cs:=[.int .i64 x]) λv7 hz7 e7 hb7=>?_);have K7:=K6.box e7 hz7;have S:=e7.bV W id;have hc7:=e7.bV m id;have Q:b.2.2.1=((b.2.2.1.toNat:Nat):Int):=O
   have hs7:cV ⟨some ⟨v6.size,0,none⟩,1,1⟩ 1 (Wu [x]) v7 (· = v6.size):=hb7.fY (o:=0) rfl rfl λj hj=>by rw[zH];rfl
   have hz6:=K6.e.1;rw[Q];refine yP K7.h (t:=t) ht b.2.2.1.toNat hs7 (zD _) aA (λq _ u hp=>(K7.p q hp).2.1 (.inr u)) (K7.o.1.sub λq u=>O) (λu=>K7.o.2 O) hlen λv8 ts8 e8 h8=>?_;have K8:=(K6.fr e7).vn e8 h8 λq hql u=>by
    rcases u with u|u
    .exact u.imp id .inl
    .refine .inr (.inr ⟨.inr O,λhB=>?_⟩);have:=(K6.b q hB).2;omega
   have hb8:=K7.dA e8 S (.inl (.inl (.inr rfl)));have hc8:=K7.dA e8 hc7 (.inl (.inr rfl));refine hc8.rI (x:=((b.2.2.1.toNat:Nat):Int)) (by rw[←Q];rfl) ?_;exact gS (n:=U.size) K8 (.inl (.inr rfl)) hb8 λE K'=>hR E ts8 K'.e (K'.fin h)
end Go.Ar
namespace Go.Ar
open Go Go.Vc Go.Proofs
variable {U u u':Hp}{F B P Q:Rg}{L:dE}{H H':Hw}{t k n pb:Nat}{A:AR}{Y:Lay}{x:eU}{g:Th}{c:cA}{l:Li}{cs:List Value}
theorem tL {t' t:TypeId}{w:Value}{A B:Prop}(hne:t'≠t)(h:B):∃is:Bool,kC (.iface t' w) t [] [] is/\If is A B:=⟨false,⟨rfl,.inr ⟨_,_,rfl,hne⟩⟩,cD rfl h⟩
theorem ly {t' t:TypeId}{w:Value}{A B:Int->Prop}(hne:t'≠t)(h:B 0):∃x:Int,∃is:Bool,kC (.iface t' w) t [.int .i64 x] [.int .i64 0] is/\If is (A x) (B x):=⟨0,false,⟨rfl,.inr ⟨_,_,rfl,hne⟩⟩,cD rfl h⟩
theorem jm {t' t:TypeId}{w:Value}{A B:Int->Int->Prop}(hne:t'≠t)(h:B 0 0):∃x:Int,∃y:Int,∃is:Bool,kC (.iface t' w) t [.int .i64 x,.int .i64 y] [.int .i64 0,.int .i64 0] is/\If is (A x y) (B x y):=⟨0,0,false,⟨rfl,.inr ⟨_,_,rfl,hne⟩⟩,cD rfl h⟩
theorem DG {t:TypeId}{A B:Prop}(h:A):∃is:Bool,kC (.iface t (.agg #[])) t [] [] is/\If is A B:=⟨true,rfl,cF rfl h⟩
theorem Dz {t:TypeId}{a:Int}{A B:Int->Prop}(h:A a):∃x:Int,∃is:Bool,kC (.iface t (.agg #[.int .i64 a])) t [.int .i64 x] [.int .i64 0] is/\If is (A x) (B x):=⟨a,true,rfl,cF rfl h⟩
theorem xu {t:TypeId}{a b:Int}{A B:Int->Int->Prop}(h:A a b):∃x:Int,∃y:Int,∃is:Bool,kC (.iface t (.agg #[.int .i64 a,.int .i64 b])) t [.int .i64 x,.int .i64 y] [.int .i64 0,.int .i64 0] is/\If is (A x y) (B x y):=⟨a,b,true,rfl,cF rfl h⟩
theorem HH.tc (h:HH u P L H)(hx:L.ts[t]?=some x)(hg:H.bR[t]?=some g){b o:Nat}(ha:L.cS.a=some ⟨b,o,none⟩){d:Nat}(hd:d<3){v:Value}(hv:(jI (x,g))[d]?=some v):cell u (Addr.add ⟨b,o+3*t,none⟩ d)=some v:=by
 obtain⟨p,m,i,j⟩:=wO h.ng hx hg hd hv;rw[ha]at i;cases i;rw[add_lit,show o+3*t+d=o+(3*t+d) by omega];exact j
theorem HH.xO (h:HH u P L H)(hP:∀b,P b->b<u.size)(hx:L.ts[t]?=some x)(hg:H.bR[t]?=some g)(N:Rg)(hN:∀b,b<u.size->P b->¬N b)(oN:jh N)(oN2:¬N 1) :
 ∃G D:Rg,(∀b,G b->P b)/\(∀b,D b->P b)/\(∀b,G b->¬D b)/\iC x.h g.bQ u G/\(∀u1,Ext G u u1->cV L.cS 3 (ia L.ts H.bR) u1 D) ∧
 ∀(u1:Hp) (s:Sl) (bs:List Bt) (G':Rg),Ext G u u1->(∀b,G' b->G b\/N b)->iC s bs u1 G'->∀{b o:Nat} (ha:L.cS.a=some ⟨b,o,none⟩) {K:aP},
  (∀u2,Ext D u1 u2->HH u2 (λb=>P b/\¬G b\/G' b/\b<u1.size) {L with ts:=L.ts.set t {x with h:=s}} {H with bR:=H.bR.set t {g with bQ:=bs}}->K u2) →
  dG (Addr.add ⟨b,o+3*t,none⟩ 1) (.slice s.a s.len s.cap) u1 K:=by
 have W:=h.lW;have F:=GM h.s.ts;have J:=(cY.1 hg).1;obtain⟨G,D,A,y,hd,S,E,_,p⟩:=h.s8 hx hg N hN oN oN2;have r:∀u1,Ext G u u1->bU L.cS 3 (ia L.ts H.bR) u1 D:=λu1 e=>aI.bT E e λb _ d hx=>hd b hx d;refine⟨G,D,A,y,hd,S,λu1 e=>bU.fY (r u1 e),λu1 s bs G' e i B b o ha K Q=>?_⟩;have R:o=0:=by
  rcases E.2 with⟨h0,_⟩|⟨U,_,_,ha',_⟩
  .omega
  .rw[ha]at ha';cases ha';rfl
 subst R;have m:∀b,G' b->¬D b:=λb d hx=>by
  rcases i b d with h1|h1
  .exact hd b h1 hx
  .exact hN b (hP b (y b hx)) (y b hx) h1
 refine(r u1 e).st (j:=3*t+1) O (λU w=>by rw[ha]at w;cases w;rw[add_lit];congr 1;omega) λu2 e2 z=>?_;have C:=(iC.loc _ _).bT ((iC.loc _ _).cut B) e2 λb _ d hx=>m b d.1 hx;obtain⟨V,M⟩:=p u2 s bs (Cut G' u1) D ((e.sub λb d=>.inl d).trans (e2.sub λb d=>.inr d)) (λb d=>(i b d.1).imp .inl id) (λb d=>.inl (.inr d)) (λb d=>m b d.1) C z;refine Q u2 e2 (M.mono (λb _ d=>?_) (λb (d:P b/\¬G b\/G' b/\b<u1.size)=>?_) λ(d:P _/\¬G _\/G' _/\_<u1.size)=>?_)
 .rcases d with d|d|d
  .exact .inl ⟨d.1,λhx=>d.2.2 (.inl hx)⟩
  .exact .inr d
  .exact .inl ⟨y b d,λhx=>hd b hx d⟩
 .rcases d with d|d
  .exact h.o b d.1
  .exact(i b d.1).elim (λhx=>h.o b (A b hx)) (oN b)
 .rcases d with d|d
  .exact h.o2 d.1
  .exact(i _ d.1).elim (λhx=>h.o2 (A _ hx)) oN2
theorem iC.mO {s:Sl}{G:Rg}{xs:List Int}{r:List Bt}(h:iC s ((k,xs)::r) u G):∃(so:Sl) (ps:List (Nat×Sl)) (D:Rg),dN s 2 (fK ((k,so)::ps)) u (λb=>G b/\¬D b)/\cV so 1 (Wu xs) u (λb=>D b/\k9 so b)/\so.len<=so.cap/\kR ps r u (λb=>D b/\¬k9 so b)/\(∀b,D b->G b)/\vG ps/\(∀x∈r,x.2≠[])/\xs≠[]:=by
 obtain⟨ps,D,g,m,N,C,d⟩:=h;cases ps with
 | nil=>have:=m.1;simp at this
 | cons p ps=>
  obtain⟨E,so⟩:=p;obtain⟨e1,A,y⟩:=m.2 0 (E,so) (k,xs) rfl rfl;simp only at e1 A y;subst e1;have j:=tH.1 C;refine⟨so,ps,D,g,A.l3,y,⟨by have:=m.1;simpa using this,λi p x B w=>?_⟩,N,j.2,λx w=>d x (l7 _ w),d _ mL⟩;obtain⟨H,M,F⟩:=m.2 (i+1) p x (by simpa using B) (by simpa using w);refine⟨H,aH.mono M.l3 λb _ z=>⟨z.1,?_⟩,F⟩;rintro⟨a,h1,h2⟩;obtain⟨K,J,L⟩:=z.2;exact j.1 p (zG B) a K h1 J (h2.trans L.symm)
theorem iC.lX {s:Sl}{G:Rg}{b:Bt}{r:List Bt}(h:iC s (b::r) u G):iC ⟨if s.cap=1 then s.a else s.a.map (·.add (1*2)),s.len-1,s.cap-1⟩ r u G:=by
 have p:=h.len;obtain⟨k,A⟩:=b;obtain⟨y,j,D,d,C,z,w,x,i,g,B⟩:=h.mO;exact⟨j,D,d.from (lo:=1) (by simp at p;omega),(kR.loc _ _).mono w λb _ m=>m.1,x,i,g⟩
theorem LN {s so:Sl}{ps:List (Nat×Sl)}{G:Rg}(h:cV s 2 (fK ((k,so)::ps)) u G){K:Addr->Prop}(hK:∀a,cell u (Addr.add a 0)=some (.int .i64 (k:Int))->cell u (Addr.add a 1)=some (.slice so.a so.len so.cap)->K a):Ix s.a s.len 0 2 K:=by
 obtain⟨b,o,m,p⟩:=h.cell (j:=0) (v:=.int .i64 (k:Int)) rfl;obtain⟨w,r,d,g⟩:=h.cell (j:=1) (v:=.slice so.a so.len so.cap) rfl;have i:=h.1;rw[Vp]at i;simp only[zS]at i;rw[m]at d;cases d;rw[m];refine ix O O ?_;rw[add_lit];exact hK _ (by rw[add_lit];exact p) (by rw[add_lit];exact g)
theorem iC.app {s s2:Sl}{G Q:Rg}{bs bs2:List Bt}{e:Nat}(h:iC s bs u G)(h2:iC s2 bs2 u Q)(hd:∀b,G b->¬Q b)(hl:bs.length+bs2.length<=1000){K:Sl->Hp->Prop}
 (hK:∀s' u',Ext G u u'->iC s' (bs++bs2) u' (λb=>G b\/Q b\/u.size<=b)->K s' u'):App s 2 32 e [.int .i64 0,.slice none 0 0] s2 u K:=by
 have l1:=h.len;have l2:=h2.len;obtain⟨P,D,y,H,U,E,z⟩:=h;obtain⟨C,D2,A,m,r,S,w⟩:=h2;by_cases h0:s2.len=0
 .have M:bs2=[]:=vj O;subst M;refine y.Cw h0 (by
   have:s.len*32<=1000*32:=mC (by simp at hl;omega) O;omega) (by simp at hl;omega) λW=>hK _ u (Ext.refl _ _) ?_
  rw[kG];exact⟨P,D,(dN.loc _ _ _).mono W λb _ d=>⟨.inl d.1,d.2⟩,H,λb d=>.inl (U b d),E,z⟩
 .have e1:(s.len+s2.len)*32<=1000*32:=mC O O;refine((dN.loc _ _ _).cut y).app (ys:=fK C) rfl (by rw[Vp];have:=m.1;omega) A.fY.rd HT O O O λs' u' _ J W=>hK s' u' (J.sub λb d=>d.1.1) ?_;have hz:=J.1;have N:=H.1;refine⟨P++C,λb=>D b/\b<u.size\/D2 b/\b<u.size,?_,⟨by simp[H.1,m.1],λi p x B g=>?_⟩,λb d=>?_,qO.2 ⟨E,S,λp B q hq a a' X R e3=>?_⟩,λx g=>(zJ.1 g).elim (z x) (w x)⟩
  .rw[HC];refine(dN.loc _ _ _).mono W λb _ d=>?_;rcases d with d|d
   .exact⟨.inl d.1.1,λg=>g.elim (λg=>d.1.2 g.1) λg=>hd b d.1.1 (r b g.1)⟩
   .exact⟨.inr (.inr d),λg=>by rcases g with g|g<;>omega⟩
  .rcases kv i P.length with hi|hi
   .rw[zd hi]at B;rw[zd O]at g;obtain⟨L,Y,V⟩:=H.2 i p x B g;exact⟨L,aH.mono (aH.bT (aH.cut Y) J λb _ d g=>g.1.2 d.1) λb _ d=>.inl d,V⟩
   .rw[zp hi]at B;rw[zp O,←N]at g;obtain⟨L,Y,V⟩:=m.2 _ p x B g;exact⟨L,aH.mono (aH.bT (aH.cut Y) J λb _ d g=>hd b g.1.1 (r b d.1)) λb _ d=>.inr d,V⟩
  .rcases d with d|d
   .exact .inl (U b d.1)
   .exact .inr (.inl (r b d.1))
  .obtain⟨i,hi⟩:=zP B;obtain⟨j,E⟩:=zP hq;have hil:=(cY.1 hi).1;have hjl:=(cY.1 E).1;have hy:bs[i]?=some (bs[i]' O):=cW _;have F:bs2[j]?=some (bs2[j]'(by have:=m.1;omega)):=cW _;have Z:=(H.2 i p _ hi hy).2.1.bV (by simpa[Wu]using z _ (zG hy)) ⟨a,X,rfl⟩;have b2:=(m.2 j q _ E F).2.1.bV (by simpa[Wu]using w _ (zG F)) ⟨a',R,rfl⟩;rw[e3]at Z;exact hd _ (U _ Z.1) (r _ b2.1)
theorem HK.yE (K:HK F U B u P L H){B':Rg}(h1:∀b,B' b->U.size<=b/\b<u.size/\¬P b):HK F U (λb=>B b\/B' b) u P L H:=
 ⟨K.h,K.e,λb a=>⟨(K.p b a).1,λg=>g.elim (K.p b a).2.1 λd=>(h1 b d).2.2 a,(K.p b a).2.2⟩,λb a=>a.elim (K.b b) λd=>⟨(h1 b d).1,(h1 b d).2.1⟩,K.o⟩
theorem ZW (hg:H.bR[t]?=some g)(f:Th->Th):H.eB t f = {H with bR:=H.bR.set t (f g)}:=by
 unfold Hw.eB;rw[VE hg]
theorem tD (hg:H.bR[t]?=some g):H.jZ t=g:=by unfold Hw.jZ;rw[zQ,hg];rfl
theorem UG (hc:H.tb[k]?=some c):H.cls k=c:=by unfold Hw.cls;rw[zQ,hc];rfl
theorem Bc (hl:g.ls[k]?=some l):g.li k=l:=by unfold Th.li;rw[zQ,hl];rfl
theorem CT (ha:H.bZ[H.own t]?=some A):H.eL t=A:=by unfold Hw.eL;rw[zQ,ha];rfl
theorem j5 (h:HS L H)(t:Nat):H.own t<H.bZ.length:=vz _ (by have:=h.a1;omega)
theorem HH.CN (h:HH u P L H)(hx:L.ts[t]?=some x)(hg:H.bR[t]?=some g):g.ls.length=H.tb.length:=by
 obtain⟨G,_,a,_⟩:=h.pa hx hg;exact a.len
theorem LI (ha:H.bZ[k]?=some A):H.cE k A=H:=by unfold Hw.cE;rw[QN ha]
theorem TB (l:List Nat):ints l=Wu (l.map λ(x:Nat)=>(x:Int)):=by simp[ints,Wu]
theorem D6 (f:cA->Li->List Int×Li)(tb:List cA)(ls:List Li):(KN f tb ls).length<=tb.length:=by
 unfold KN;exact kD (List.length_filterMap_le _ _) aA
theorem HH.r6 (h:HH u P L H):H.tb.length<=40:=by
 obtain⟨x,g,b,d⟩:=h.th (t:=0) h.s.t1;obtain⟨G,_,a,_⟩:=h.pa b d;exact a.oe
theorem T2 {s:Sl}{b o:Nat}(ha:s.a=some ⟨b,o,none⟩)(hl:0<s.len){K:Addr->Prop}(hK:K ⟨b,o+0,none⟩):Ix s.a s.len 0 1 K:=by
 rw[ha];exact ix (xF _) O (by rw[add_lit];exact hK)
theorem R3 {s:Sl}{ps:List (Nat×Sl)}{G:Rg}(h:cV s 2 (fK ps) U G)(hl:s.len<=1000000){R:Sl->Hp->Prop}(hR:∀s' σ',s'.len=s.len->aF U σ'->bU s' 2 (fK ps) σ' (λb=>U.size<=b)->R s' σ'):Wz.c s U R:=by
 refine Wz.o ?_;unfold Wz.v;exact CY h O rfl HT O hl hR
def vL (H:Hw)(t:Nat):Ph->Prop
 | .take k=>k<H.tb.length/\∀y l,KM (H.cls k) ((H.jZ t).li k)=(some y,l)->iN y
 | .cJ k _=>k<H.tb.length/\(QD (H.eL t) (k:Int)=0->YR (H.eL t) (k:Int)≠[])
 | .cL _ _=>True
 | .grow _ _=>True
 | .fill=>∃k x xs r,(H.jZ t).bQ=(k,x::xs)::r/\k<H.tb.length/\iN x/\((H.jZ t).li k).os.length+xs.length<=256
 | .eT m=>QC (H.eL t) H.sp (m:Int) 1<=1000000
 | .find x=>iN x/\(bS H.live x=none->∀A∈H.bZ,iT A)/\∀b,bS H.live x=some b->0<=x
 | .put k _=>k<H.tb.length/\(H.jZ t).bQ≠[]
 | .back=>∃k xs r,(H.jZ t).bQ=(k,xs)::r/\(∀x∈xs,iN x/\0<=XS H.bZ x)/\xs.length<=1000000
 | .dF _ a=>0<=a/\a.toNat<H.bZ.length/\∀A∈H.bZ,∀r∈A.runs,r.1<=1000000
 | .drain=>True
def WoG (U:Hp)(F:Rg)(L:dE)(o:uW)(R:Value->Int->Int->Hp->Prop):Prop:=∀σ' ts',Ext F U σ'->HH σ' (Grow F U) {L with ts:=ts'} o.1->R (nr o.2.1) o.2.2.1 o.2.2.2 σ'
set_option maxRecDepth 8000 in
theorem Wjz (hso:ot)(h:HH U F L H)(ht:t<H.bR.length)(p:Ph)(hp:vL H t p)(hlen:∀g,H.bR[t]?=some g->g.bQ.length<=900){R:Value->Int->Int->Hp->Prop}(hR:WoG U F L (WH H t p) R) :
 ZQ.c (aW L.p) (t:Int) (nr (some p)) U R:=by
 refine ZQ.o ?_;unfold ZQ.v;have hlen':∀g,H.bR[t]?=some g->g.bQ.length<=1000:=λg hg=>by have:=hlen g hg;omega
 refine nw (cs:=[.int .i64 0,.int .i64 0]) λv hz e i=>?_;have K1:=(HK.start h).box e hz;obtain⟨x,g,E,hg⟩:=h.th ht;have hlen:=hlen g hg;have htg:=tD hg;have hol:=j5 h.s t;obtain⟨A,hA⟩:∃A,H.bZ[H.own t]?=some A:=⟨_,cW hol⟩;have hAe:=CT hA;obtain⟨Y,hY,_,_⟩:=h.ar hA;refine bL (K1.h.hd.rS rfl ?_);refine DO K1.h.ng K1.h.s.ts E hg (d:=0) O rfl λtb0 to0 ha _=>?_;have hS1:np (λu=>u=v) L H.tb:=λm hm=>by cases hm;exact⟨_,L.ts,H,K1.h,rfl⟩
 refine⟨λu=>u=v,rfl,bL (hS1.fT (Je K1.h t ⟨rfl,K1.h.rA hY ⟨rfl,?_⟩⟩))⟩;refine ui (λw=>∃P ts',HK F U (λb=>False\/b=U.size) w P {L with ts:=ts'} (WH H t p).1/\bY w U.size [.int .i64 0,.int .i64 0]/\(WH H t p).2=(none,0,0)) (λw ⟨P,ts',K,hbw,W⟩=>?_) λJ hJ=>?_
 .refine gS (n:=U.size) K (.inr rfl) hbw λw' K'=>?_;have:=hR w' ts' K'.e (K'.fin h);rw[W]at this;exact this
 cases p with
 | take k=>
  obtain⟨hk,hy9⟩:k<H.tb.length/\∀y l,KM (H.cls k) ((H.jZ t).li k)=(some y,l)->iN y:=hp;obtain⟨c,hc⟩:∃c,H.tb[k]?=some c:=⟨_,cW hk⟩;have hll:=h.CN E hg;obtain⟨l,hl⟩:∃l,g.ls[k]?=some l:=⟨_,cW (by rw[hll];exact hk)⟩;have hce:=UG hc;have hle:=Bc hl;rw[hce,htg,hle]at hy9;refine Dz (nw (cs:=[.int .i64 0]) λv5 M X N=>?_);have K5:=K1.box X M;refine N.s0 aA λv6 o6 hb6=>?_;have K6:=K5.own o6 (.inr rfl);have C:=WF o6 (X.bV i id) O;refine⟨λu=>u=v6,rfl,bL ⟨some ⟨x.c.p,0,none⟩,λu V=>by cases V;exact K6.h.tc E hg ha O rfl,⟨(k:Int),λu V=>by cases V;rw[add_lit,hb6.cell];rfl,?_⟩⟩⟩;refine ε K6.h E hg hc hl λv7 ts7 Z h7=>?_;have K7:=K6.to Z h7 λb _ i=>i;have hb7:=K6.dA Z hb6 (.inr rfl);have B:=K6.dA Z C (.inl (.inr rfl));cases htk:KM c l with
  | mk o l'=>
  rw[htk]at h7 K7;cases o with
  | some y=>
   have W:WH H t (.take k)=(V3 (H.dZ t g (g.ls.set k l')) y (c.size:Int) (k:Int),none,y,0):=by
    simp only[WH,hce,htg,hle,htk,ZW hg];rfl
   rw[W]at hR;have hS2:np (λu=>(∃P ts H',HH u P {L with ts:=ts} H'/\H'.tb=H.tb)/\bY u v.size [.int .i64 (k:Int)]) L H.tb:=λm hm=>hm.1;refine cF rfl ⟨λu=>(∃P ts H',HH u P {L with ts:=ts} H'/\H'.tb=H.tb)/\bY u v.size [.int .i64 (k:Int)],⟨⟨_,_,_,K7.h,rfl⟩,hb7⟩,bL (hS2.dI ⟨(k:Int),λu V=>by rw[add_lit,V.2.cell];rfl,?_⟩)⟩;refine np.rC (L:={L with ts:=ts7}) (H:=H.dZ t g (g.ls.set k l')) hS2 K7.h hc ⟨(k:Int),λu V=>by rw[add_lit,V.2.cell];rfl,?_⟩;refine DB K7.h y (c.size:Int) (k:Int) (hy9 y l' htk) λv8 e8 h8=>?_;have K8:=K7.to e8 h8 λb _ i=>.inl i;refine⟨⟨⟨_,_,_,h8,rfl⟩,K7.dA e8 hb7 (.inr rfl)⟩,?_⟩;exact gS (n:=U.size) K8 (.inl (.inr rfl)) (K7.dA e8 B (.inl (.inr rfl))) λw' K'=>hR w' ts7 K'.e (K'.fin h)
  | none=>
   have W:WH H t (.take k)=(H.dZ t g (g.ls.set k l'),some (.cJ k (qc c l')),0,0):=by
    simp only[WH,hce,htg,hle,htk,ZW hg];rfl
   rw[W]at hR;have htlt:=(cY.1 hg).1;have hklt:=(cY.1 hl).1;have hg7:(H.dZ t g (g.ls.set k l')).bR[t]?=some {g with ls:=g.ls.set k l'}:=by simp[Hw.dZ,htlt]
   obtain⟨x7,g7,hx7,_⟩:=K7.h.th (t:=t) (by simp[Hw.dZ,htlt]);have hl7:({g with ls:=g.ls.set k l'}:Th).ls[k]?=some l':=by simp[hklt]
   refine cD rfl ⟨λu=>u=v7,rfl,bL ⟨some ⟨x7.c.p,0,none⟩,λu V=>by cases V;exact K7.h.tc hx7 hg7 ha O rfl,⟨(k:Int),λu V=>by cases V;rw[add_lit,hb7.cell];rfl,?_⟩⟩⟩;refine TG K7.h hx7 hg7 hc hl7 λv8 ts8 e8 h8=>?_;have K8:=K7.to e8 h8 λb _ i=>i;refine(K7.dA e8 hb7 (.inr rfl)).rI rfl ?_;exact gS (n:=U.size) K8 (.inl (.inr rfl)) (K7.dA e8 B (.inl (.inr rfl))) λw' K'=>hR w' ts8 K'.e (K'.fin h)
 | cJ k w=>
  obtain⟨hk,hne0⟩:k<H.tb.length/\(QD (H.eL t) (k:Int)=0->YR (H.eL t) (k:Int)≠[]):=hp;rw[hAe]at hne0;obtain⟨c,hc⟩:∃c,H.tb[k]?=some c:=⟨_,cW hk⟩;have hce:=UG hc;refine ly aB (xu (nw (cs:=[.int .i64 0,.int .i64 0]) λv5 M X N=>?_));have K5:=K1.box X M;refine N.s1 aA λv5b o5 b5=>b5.s1 aA λv6 o6 b6=>?_;have K6:=(K5.own o5 (.inr rfl)).own o6 (.inr rfl);have S:U.size≠v.size:=O
  have C:=WF o6 (WF o5 (X.bV i id) S) S;refine ui (λu=>(∃P',HK F U (λb=>(False\/b=U.size)\/b=v.size) u P' L H)/\bY u U.size [.int .i64 0,.int .i64 0]/\bY u v.size [.int .i64 (k:Int),.int .i64 (w:Int)]/\WH H t (.cJ k w)=(H,some (.cL k w),0,0)) (λu ⟨⟨P',K⟩,hbw,hbx,W⟩=>?_) λJ1 hJ1=>?_
  .rw[W]at hR;exact hbx.rI rfl (hbx.rI rfl (gS (n:=U.size) K (.inl (.inr rfl)) hbw λw' K'=>hR w' L.ts K'.e (K'.fin h)))
  .refine b6.rI rfl (bL (K6.h.hd.rS rfl (b6.rI rfl (vo K6.h.jQ hc (d:=2) O ?_))));simp only[zB (show ¬(2=0) by omega),zB (show ¬(2=1) by omega)];refine cP (λheq=>b6.rI rfl ?_) λhne'=>hJ1 v6 ⟨⟨_,K6⟩,C,b6,?_⟩
   .have heq':w=c.batch:=by simp only[zU]at heq;omega
    refine Pw K6.h hA hY (k:Int) λs v7 Q Z hQ hs7 hcap h7=>?_;have K7:=K6.to Z h7 λb _ i=>i.1;have b7:=K6.dA Z b6 (.inr rfl);have B:=K6.dA Z C (.inl (.inr rfl));refine cP (λh0=>b7.rI rfl ?_) λhn0=>?_
    .have h0':QD A (k:Int)=0:=by simpa using h0
     have W:WH H t (.cJ k w)=(Kr (H.cE (H.own t) (Z0 A (k:Int))) t k (YR A (k:Int)),some .fill,0,0):=by
      simp only[WH,hce,hAe,heq',h0',zT]
     rw[W]at hR;refine yP K7.h (t:=t) ht k hs7 hcap (hne0 h0') (λb _ z E=>E.1.2 z) (K6.h.o.sub hQ) (λz=>K6.h.o2 (hQ _ z)) hlen' λv8 ts8 e8 h8=>?_;have K8:=K7.vn e8 h8 λb i z=>by
      rcases z with z|z
      .exact z.imp id .inl
      .exact .inr (.inr ⟨(K6.p b (hQ b z)).1,(K6.p b (hQ b z)).2.1⟩)
     exact gS (n:=U.size) K8 (.inl (.inr rfl)) (K7.dA e8 B (.inl (.inr rfl))) λw' K'=>hR w' ts8 K'.e (K'.fin h)
    .have hn0':QD A (k:Int)≠0:=by simpa using hn0
     have hsame:Z0 A (k:Int)=A:=by unfold Z0;rw[zB hn0']
     rw[hsame,LI hA]at K7;refine hJ1 v7 ⟨⟨_,K7⟩,B,b7,?_⟩;simp only[WH,hce,hAe,heq',zB hn0',zT]
   .have hne2:w≠c.batch:=λe=>by rw[e]at hne';simp at hne'
    simp only[WH,hce,zB hne2]
 | cL k w=>
  refine ly aB (jm aB (xu (nw (cs:=[.int .i64 0,.int .i64 0]) λv5 M X N=>?_)));have K5:=K1.box X M;refine N.s1 aA λv5b o5 b5=>b5.s1 aA λv6 o6 b6=>?_;have K6:=(K5.own o5 (.inr rfl)).own o6 (.inr rfl);have S:U.size≠v.size:=O
  have C:=WF o6 (WF o5 (X.bV i id) S) S;refine b6.rI rfl (b6.rI rfl (NU K6.h hA hY (k:Int) (w:Int) λs v7 Q Z hQ hs7 h7=>?_));have K7:=K6.to Z h7 λb _ i=>i.1;have b7:=K6.dA Z b6 (.inr rfl);have B:=K6.dA Z C (.inl (.inr rfl));have hsl:s.len=(YB A (k:Int) (w:Int)).length:=by have:=hs7.1;simp[ints]at this;omega
  by_cases hemp:YB A (k:Int) (w:Int)=[]
  .have W:WH H t (.cL k w)=(H.cE (H.own t) (YV A (k:Int) (w:Int)),some (.grow k w),0,0):=by
    simp only[WH,hAe,zC hemp]
   rw[W]at hR;refine gA (by rw[hsl,hemp];simp) (b7.rI rfl (b7.rI rfl ?_));exact gS (n:=U.size) K7 (.inl (.inr rfl)) B λw' K'=>hR w' L.ts K'.e (K'.fin h)
  .have W:WH H t (.cL k w)=(Kr (H.cE (H.own t) (YV A (k:Int) (w:Int))) t k ((YB A (k:Int) (w:Int)).map λ(x:Nat)=>(x:Int)),some .fill,0,0):=by
    simp only[WH,hAe,zB hemp]
   rw[W]at hR;have hpos:=pB.2 hemp;refine lV (by rw[hsl];omega) (b7.rI rfl ?_);have hs7':=bU.fY hs7;rw[TB]at hs7';have hz6:=K6.e.1;refine yP K7.h (t:=t) ht k hs7' (bU.pw hs7) (by simpa using hemp) (λb _ z E=>E.1.2 z) (K6.o.1.sub λb i=>by have:=hQ b i;omega) (λz=>K6.o.2 (by have:=hQ _ z;omega)) hlen' λv8 ts8 e8 h8=>?_;have K8:=K7.vn e8 h8 λb i z=>by
    rcases z with z|z
    .exact z.imp id .inl
    .have:=hQ b z;exact .inr (.inr ⟨.inr O,λhB=>by have:=(K6.b b hB).2;omega⟩)
   exact gS (n:=U.size) K8 (.inl (.inr rfl)) (K7.dA e8 B (.inl (.inr rfl))) λw' K'=>hR w' ts8 K'.e (K'.fin h)
 | grow k w=>
  refine ly aB (jm aB (jm aB (xu (nw (cs:=[.int .i64 0,.int .i64 0]) λv5 M X N=>?_))));have K5:=K1.box X M;refine N.s1 aA λv5b o5 b5=>b5.s1 aA λv6 o6 b6=>?_;have K6:=(K5.own o5 (.inr rfl)).own o6 (.inr rfl);have S:U.size≠v.size:=O
  have C:=WF o6 (WF o5 (X.bV i id) S) S;refine b6.rI rfl (PN K6.h hA hY (k:Int) λv7 Z h7=>?_);have K7:=K6.to Z h7 λb _ i=>i;have b7:=K6.dA Z b6 (.inr rfl);have B:=K6.dA Z C (.inl (.inr rfl));refine cP (λhn0=>?_) λh0=>?_
  .have hn0':Vy A H.sp (k:Int)≠0:=by simpa using hn0
   have W:WH H t (.grow k w)=({H.cE (H.own t) (cQ A H.sp (k:Int)).1 with sp:=(cQ A H.sp (k:Int)).2},none,0,Vy A H.sp (k:Int)):=by
    simp only[WH,hAe,zB hn0']
   rw[W]at hR;exact gS (n:=U.size) K7 (.inl (.inr rfl)) B λw' K'=>hR w' L.ts K'.e (K'.fin h)
  .have h0':Vy A H.sp (k:Int)=0:=by simpa using h0
   have W:WH H t (.grow k w)=({H.cE (H.own t) (cQ A H.sp (k:Int)).1 with sp:=(cQ A H.sp (k:Int)).2},some (.cL k w),0,0):=by
    simp only[WH,hAe,zC h0']
   rw[W]at hR;refine b7.rI rfl (b7.rI rfl ?_);exact gS (n:=U.size) K7 (.inl (.inr rfl)) B λw' K'=>hR w' L.ts K'.e (K'.fin h)
 | fill=>
  obtain⟨k,y,ys,r,hh,hk,hy9,hfit⟩:∃k x xs r,(H.jZ t).bQ=(k,x::xs)::r/\k<H.tb.length/\iN x/\((H.jZ t).li k).os.length+xs.length<=256:=hp;rw[htg]at hh hfit;obtain⟨c,hc⟩:∃c,H.tb[k]?=some c:=⟨_,cW hk⟩;have hll:=h.CN E hg;obtain⟨l,hl⟩:∃l,g.ls[k]?=some l:=⟨_,cW (by rw[hll];exact hk)⟩;have hce:=UG hc;have hle:=Bc hl;rw[hle]at hfit;refine ly aB (jm aB (jm aB (jm aB (DG (nw (cs:=[]) λv5 M X N=>?_)))));have K5:=K1.box X M;have hbv5:=X.bV i id;obtain⟨G,D,hG,hD,hd,aa,hr,hput⟩:=K5.h.xO (λb i=>(K5.p b i).2.2) E hg (λ_=>False) (λb _ _ z=>z) (K5.o.1.sub λb i=>i.elim) (λz=>z);rw[hh]at aa;obtain⟨so,ps,Dn,hrow,hso1,hcap,hBr,hDn,hj,S,hxne⟩:=aa.mO;have hz5':=K5.e.1;have hsol:so.len=ys.length+1:=by have:=hso1.1;simp[Wu]at this;omega
  refine bL (oL (K5.h.tc E hg ha (d:=1) O rfl) (LN (dN.fY hrow) λa ha0 ha1=>oI ha0 (oL ha1 ?_)));refine nw (cs:=[.int .i64 0,.slice none 0 0]) λv43 hz43 e43 hb43=>hb43.s1 aA λv44 o44 b44=>b44.s1 aA λv45 o45 b45=>?_;have e45:aF v5 v45:=(e43.only o44 (.inr (zD _))).only o45 (.inr (zD _));have hz45:v5.size<v45.size:=b45.lt;refine bL (hput v45 ⟨none,0,0⟩ [] (λ_=>False) (aF.to e45) (λb i=>i.elim) (iC.nil _ _ _) ha λv46 e46 h46=>?_);have hz46:=e46.1;have e546:Ext _ v5 v46:=(aF.to e45).trans (e46.sub hD);have K46:=K5.to e546 h46 λb _ z=>by
   rcases z with z|z
   .exact .inl z.1
   .exact z.1.elim
  have hbv46:=K5.dA e546 hbv5 (.inl (.inr rfl));have b46:bY v46 v5.size _:=e46.bV b45 λE=>by have:=(K5.p _ (hD _ E)).2.2;omega
  have K46b:=K46.yE (B':=λb=>b=v5.size) λb i=>⟨O,O,λE=>by
   subst i;rcases E.1 with h1|h1
   .have:=(K5.p _ h1.1).2.2;omega
   .exact h1.1⟩
  have hso46:=aH.bT (aH.bP (aH.cut hso1) e45) e46 λb _ i E=>hd b (hDn b i.1.1) E;have hXn:∀b,(Dn b/\k9 so b)/\b<v5.size->¬Cut (λb=>(Cut F U b/\¬G b)\/False/\b<v45.size) v46 b:=λb i E=>by
   rcases E.1 with h1|h1
   .exact h1.2 (hDn b i.1.1)
   .exact h1.1
  have hg46:({H with bR:=H.bR.set t {g with bQ:=[]}}:Hw).bR[t]?=some {g with bQ:=[]}:=by simp[ht]
  have hx46:(L.ts.set t {x with h:=⟨none,0,0⟩})[t]?=some {x with h:=⟨none,0,0⟩}:=zO (cY.1 E).1;refine bL (vN (K46b.h.tc hx46 hg46 ha (d:=0) O rfl) (b46.rI rfl (b46.rS (a:=so.a) (n:=so.len) (c:=so.cap) rfl (jv (lo:=1) (by show 1<=so.len;omega) hcap (zD _) ?_))));have hsub:=cV.sub hso46 (lo:=1) (hi:=so.len) (mx:=so.cap) O (zD _) hcap;have hsx:((Wu (y::ys)).drop (1*1)).take ((so.len-1)*1)=Wu ys:=by
   rw[lP (by simp[Wu];omega)];rfl
  rw[hsx]at hsub;have hl46:({g with bQ:=[]}:Th).ls[k]?=some l:=hl;refine TL K46b.h hx46 hg46 hc hl46 hsub hXn hfit λv47 ts47 e47 h47=>?_;have K47:=K46b.to e47 h47 λb _ i=>i;have hso47:=aH.bT hso46 e47 λb _ i E=>hXn b i E;have b47:=K46b.dA e47 b46 (.inr rfl);have hbv47:=K46b.dA e47 hbv46 (.inl (.inl (.inr rfl)));have W:WH H t .fill=(V3 {H with bR:=H.bR.set t {g with ls:=g.ls.set k (eM ys.reverse l),bQ:=[]}} y (c.size:Int) (k:Int),none,y,0):=by
   simp only[WH,htg,hh,ZW hg,hle,hce]
  rw[W]at hR;obtain⟨b0,o0,ha0',hc0⟩:=hso47.cell (j:=0) (v:=.int .i64 y) rfl;have hS4:np (λu=>((∃P ts H',HH u P {L with ts:=ts} H'/\H'.tb=H.tb)/\bY u v5.size [.int .i64 (k:Int),.slice so.a so.len so.cap])/\cell u ⟨b0,o0+0,none⟩=some (.int .i64 y)) L H.tb:=λm hm=>hm.1.1;refine⟨λu=>((∃P ts H',HH u P {L with ts:=ts} H'/\H'.tb=H.tb)/\bY u v5.size [.int .i64 (k:Int),.slice so.a so.len so.cap])/\cell u ⟨b0,o0+0,none⟩=some (.int .i64 y),⟨⟨⟨_,_,_,K47.h,rfl⟩,b47⟩,hc0⟩,⟨so,λu V=>by rw[add_lit,V.1.2.cell];rfl,?_⟩⟩;refine T2 ha0' O ⟨y,λu V=>V.2,bL (hS4.dI ⟨(k:Int),λu V=>by rw[add_lit,V.1.2.cell];rfl,?_⟩)⟩;refine np.rC (L:={L with ts:=ts47}) (H:=Hw.dZ {H with bR:=H.bR.set t {g with bQ:=[]}} t {g with bQ:=[]} (g.ls.set k (eM ys.reverse l))) hS4 K47.h hc ⟨(k:Int),λu V=>by rw[add_lit,V.1.2.cell];rfl,?_⟩;refine DB K47.h y (c.size:Int) (k:Int) hy9 λv48 e48 h48=>?_;have K48:=K47.to e48 h48 λb _ i=>.inl i;have hz4747:=e47.1;have hso48:=aH.bT hso47 e48 λb _ i E=>by
   rcases E.1 with h1|h1
   .exact hXn b i h1
   .have:=i.2;omega
  refine⟨⟨⟨⟨_,_,_,h48,rfl⟩,K47.dA e48 b47 (.inr rfl)⟩,?_⟩,?_⟩
  .obtain⟨b1,o1,ha1',hc1⟩:=hso48.cell (j:=0) (v:=.int .i64 y) rfl;rw[ha0']at ha1';cases ha1';exact hc1
  .have K49:=K48;simp only[Hw.dZ,nT]at K49;exact gS (n:=U.size) K49 (.inl (.inl (.inr rfl))) (K47.dA e48 hbv47 (.inl (.inl (.inr rfl)))) λw' K'=>hR w' ts47 K'.e (K'.fin h)
 | eT m=>
  have hp:QC (H.eL t) H.sp (m:Int) 1<=1000000:=hp;rw[hAe]at hp;refine ly aB (jm aB (jm aB (jm aB (tL aB (Dz (nw (cs:=[.int .i64 0]) λv5 M X N=>?_))))));have K5:=K1.box X M;refine N.s0 aA λv6 o6 b6=>?_;have K6:=K5.own o6 (.inr rfl);have C:=WF o6 (X.bV i id) O;refine b6.rI rfl (Rz K6.h hA hY (m:Int) 1 λv7 Z h7=>?_);have K7:=K6.to Z h7 λb _ i=>i;have b7:=K6.dA Z b6 (.inr rfl);have B:=K6.dA Z C (.inl (.inr rfl));refine cP (λhn0=>?_) λh0=>?_
  .have hn0':Q3 A H.sp (m:Int) 1≠0:=by simpa using hn0
   have W:WH H t (.eT m)=({H.cE (H.own t) (cC A H.sp (m:Int) 1).1 with sp:=(cC A H.sp (m:Int) 1).2},none,0,Q3 A H.sp (m:Int) 1):=by
    simp only[WH,hAe,zB hn0']
   rw[W]at hR;exact gS (n:=U.size) K7 (.inl (.inr rfl)) B λw' K'=>hR w' L.ts K'.e (K'.fin h)
  .have h0':Q3 A H.sp (m:Int) 1=0:=by simpa using h0
   have hm:m<=64:=by
    unfold Q3 at h0';split at h0'
    .rename_i hpo;simp only[KR,zF,zV]at hpo;omega
    .omega
   have W:WH H t (.eT m)=(V3 {H.cE (H.own t) (cC A H.sp (m:Int) 1).1 with sp:=(cC A H.sp (m:Int) 1).2} ((QC A H.sp (m:Int) 1*256:Nat):Int) ((m*256:Nat):Int) (-1),none,((QC A H.sp (m:Int) 1*256:Nat):Int),0):=by
    simp only[WH,hAe,zC h0']
   rw[W]at hR;refine cT (m:=QC A H.sp (m:Int) 1*256) O O (b7.rI rfl (cT (m:=m*256) O O ?_));refine DB K7.h _ _ _ O λv8 e8 h8=>?_;have K8:=K7.to e8 h8 λb _ i=>.inl i;exact gS (n:=U.size) K8 (.inl (.inr rfl)) (K7.dA e8 B (.inl (.inr rfl))) λw' K'=>hR w' L.ts K'.e (K'.fin h)
 | find x=>
  obtain⟨hx9,hro,hlv⟩:iN x/\(bS H.live x=none->∀A∈H.bZ,iT A)/\∀b,bS H.live x=some b->0<=x:=hp;refine ly aB (jm aB (jm aB (jm aB (tL aB (ly aB (Dz (nw (cs:=[.int .i64 0]) λv5 M X N=>?_)))))));have K5:=K1.box X M;refine N.s0 aA λv6 o6 b6=>?_;have K6:=K5.own o6 (.inr rfl);have C:=WF o6 (X.bV i id) O;refine b6.rI rfl (Sv K6.h ht x hx9 hro hlen' hlv λv7 ts7 Z h7=>?_);have K7:=K6.to Z h7 λb _ i=>i;have B:=K6.dA Z C (.inl (.inr rfl));exact gS (n:=U.size) K7 (.inl (.inr rfl)) B λw' K'=>hR w' ts7 K'.e (K'.fin h)
 | put k y=>
  obtain⟨hk,hne0⟩:k<H.tb.length/\(H.jZ t).bQ≠[]:=hp;rw[htg]at hne0;obtain⟨c,hc⟩:∃c,H.tb[k]?=some c:=⟨_,cW hk⟩;have hll:=h.CN E hg;obtain⟨l,hl⟩:∃l,g.ls[k]?=some l:=⟨_,cW (by rw[hll];exact hk)⟩;have hce:=UG hc;have hle:=Bc hl;refine ly aB (jm aB (jm aB (jm aB (tL aB (ly aB (ly aB (xu (nw (cs:=[.int .i64 0,.int .i64 0]) λv5 M X N=>?_))))))));have K5:=K1.box X M;refine N.s1 aA λv5b o5 b5=>b5.s1 aA λv6 o6 b6=>?_;have K6:=(K5.own o5 (.inr rfl)).own o6 (.inr rfl);have S:U.size≠v.size:=O
  have C:=WF o6 (WF o5 (X.bV i id) S) S;generalize hgg:(if(dO c y l).1=[]then({g with ls:=g.ls.set k (dO c y l).2}:Th)else{g with ls:=g.ls.set k (dO c y l).2,bQ:=g.bQ++[(k,(dO c y l).1)]})=g2
  have hg2n:g2.bQ≠[]/\g2.bQ.length<=901:=by
   rw[←hgg];split
   .exact⟨hne0,by simp;omega⟩
   .exact⟨by simp,by simp;omega⟩
  refine ui (λw=>∃P ts',HK F U (λb=>(False\/b=U.size)\/b=v.size) w P {L with ts:=ts'} {H with bR:=H.bR.set t g2}/\bY w U.size [.int .i64 0,.int .i64 0]) (λw ⟨P,ts2,K,hbw⟩=>?_) λJ2 hJ2=>?_
  .have hg3:({H with bR:=H.bR.set t g2}:Hw).bR[t]?=some g2:=by simp[ht]
   obtain⟨x2,_,hx2,_⟩:=K.h.th (t:=t) (by simpa using ht);obtain⟨G,D,hG,hD,hd,aa,hr,hput⟩:=K.h.xO (λb i=>(K.p b i).2.2) hx2 hg3 (λ_=>False) (λb _ _ z=>z) (K.o.1.sub λb i=>i.elim) (λz=>z);have hbl:=aa.len;have hbc:=aa.cap;obtain⟨b0,r0,hbr⟩:∃b r,g2.bQ=b::r:=by
    cases hh:g2.bQ with
    | nil=>exact absurd hh hg2n.1
    | cons b r=>exact⟨b,r,rfl⟩
   have sq:g2.bQ.drop 1=r0:=by rw[hbr];rfl
   rw[hbr]at aa;have hpos:1<=x2.h.len:=by rw[hbl,hbr];simp
   refine bL (oL (K.h.tc hx2 hg3 ha (d:=1) O rfl) ?_);refine jv (lo:=1) hpos hbc (zD _) ?_;refine bL (hput w _ _ G (Ext.refl _ _) (λb i=>.inl i) aa.lX ha λw1 e1 h1=>?_);have e1':=e1.sub hD;have K1b:=K.to e1' h1 λb _ z=>by
    rcases z with z|z
    .exact .inl z.1
    .exact .inl (hG b z.1)
   have hbw1:=K.dA e1' hbw (.inl (.inr rfl));have K3:=K1b;simp only[nT]at K3;generalize hg3':({g2 with bQ:=r0}:Th)=g3 at K3;have hl3:g3.bQ=r0/\g3.ls=g2.ls:=by rw[←hg3'];exact⟨rfl,rfl⟩
   have hr0:r0.length<=900:=by have:=hg2n.2;rw[hbr]at this;simp at this;omega
   have hg3e:({H with bR:=H.bR.set t g3}:Hw).bR[t]?=some g3:=by simp[ht]
   have hpe:iE H t k y=(if H.cf.dD<KB H.tb g3.ls then{H with bR:=H.bR.set t {g3 with ls:=KG Vz H.tb g3.ls,bQ:=g3.bQ++KN Vz H.tb g3.ls}}else{H with bR:=H.bR.set t g3}):=by
    have e2:(if(dO c y l).1=[]then H.eB t λh=>h.iw k (dO c y l).2 else Kr (H.eB t λh=>h.iw k (dO c y l).2) t k (dO c y l).1) = {H with bR:=H.bR.set t g2}:=by
     rw[←hgg];split
     .rw[ZW hg];rfl
     .rw[ZW hg];unfold Kr Hw.eB;simp only;rw[VE (t:=g.iw k (dO c y l).2) (by simp[ht]),nT];rfl
    have e3:({H with bR:=H.bR.set t g2}:Hw).eB t (λh=>{h with bQ:=h.bQ.drop 1}) = {H with bR:=H.bR.set t g3}:=by
     rw[ZW hg3];simp only[nT,sq,hg3']
    unfold iE;simp only[hce,htg,hle,e2,e3,tD hg3e,ZW hg3e,nT]
   have hx3:(ts2.set t {x2 with h:=⟨if x2.h.cap=1 then x2.h.a else x2.h.a.map (·.add (1*2)),x2.h.len-1,x2.h.cap-1⟩})[t]?=some {x2 with h:=⟨if x2.h.cap=1 then x2.h.a else x2.h.a.map (·.add (1*2)),x2.h.len-1,x2.h.cap-1⟩}:=zO (cY.1 hx2).1
   generalize hx3':({x2 with h:=⟨if x2.h.cap=1 then x2.h.a else x2.h.a.map (·.add (1*2)),x2.h.len-1,x2.h.cap-1⟩}:eU)=x3 at hx3 K3
   generalize ts2.set t x3=ts3 at hx3 K3;refine ui (λw=>∃P ts',HK F U (λb=>(False\/b=U.size)\/b=v.size) w P {L with ts:=ts'} (iE H t k y)/\bY w U.size [.int .i64 0,.int .i64 0]) (λw ⟨P,ts',K,hbw⟩=>?_) λJ3 hJ3=>?_
   .have W:WH H t (.put k y)=(iE H t k y,j6 (iE H t k y) t,0,0):=rfl;rw[W]at hR;refine Us K.h (t:=t) ?_ ?_
    .rw[hpe];split<;>simpa using ht
    .exact gS (n:=U.size) K (.inl (.inr rfl)) hbw λw' K'=>hR w' ts' K'.e (K'.fin h)
   .refine bL (vN (K3.h.tc hx3 hg3e ha (d:=0) O rfl) ?_);refine RK K3.h hx3 hg3e λv10 e10=>?_;have K10:=K3.fr e10;have hbw10:=e10.bV hbw1 id;refine cN (λhov=>?_) λhno=>hJ3 v10 ⟨_,ts3,by rw[hpe,zB hno];exact K10,hbw10⟩;refine⟨λu=>cell u (Addr.add ⟨tb0,to0+3*t,none⟩ 1)=some (.slice x3.h.a x3.h.len x3.h.cap)/\cell u (Addr.add ⟨tb0,to0+3*t,none⟩ 0)=some (.pointer (some ⟨x3.c.p,0,none⟩)),⟨K10.h.tc hx3 hg3e ha (d:=1) O rfl,K10.h.tc hx3 hg3e ha (d:=0) O rfl⟩,bL ⟨x3.h,λu V=>V.1,bL ⟨some ⟨x3.c.p,0,none⟩,λu V=>V.2,?_⟩⟩⟩;refine O8 hso K10.h hx3 hg3e λv11 s Q e11 hQ hB h11=>?_;have K11:=K10.to e11 h11 λb _ i=>i.1;have hbw11:=K10.dA e11 hbw10 (.inl (.inr rfl));have hg11:(Hw.dZ {H with bR:=H.bR.set t g3} t g3 (KG Vz H.tb g3.ls)).bR[t]?=some {g3 with ls:=KG Vz H.tb g3.ls}:=by simp[Hw.dZ,ht]
    refine⟨⟨K11.h.tc hx3 hg11 ha (d:=1) O rfl,K11.h.tc hx3 hg11 ha (d:=0) O rfl⟩,?_⟩;have hz0:=K10.e.1;obtain⟨G,D,hG,hD,hd,aa,hr,hput⟩:=K11.h.xO (λb i=>i.2) hx3 hg11 (λb=>Q b\/v11.size<=b) (λb i hP z=>z.elim (λz=>hP.1.2 z) λz=>O) (K10.o.1.sub λb i=>i.elim (λi=>by have:=hQ b i;omega) λi=>by have:=K11.e.1;omega) (λz=>K10.o.2 (z.elim (λi=>by have:=hQ _ i;omega) λi=>by have:=K11.e.1;omega));refine iC.app aa hB (λb hg z=>(hG b hg).1.2 z) ?_ λs' v12 e12 hB12=>?_
    .have:=D6 Vz H.tb g3.ls;have:H.tb.length<=40:=K3.h.r6;simp only[hl3.1];omega
    have hcell:∀{d:Nat} {w:Value},d<3->(jI (x3,({g3 with ls:=KG Vz H.tb g3.ls}:Th)))[d]?=some w->cell v12 (Addr.add ⟨tb0,to0+3*t,none⟩ d)=some w:=λhd3 hv=>by
     obtain⟨b',o',ha',hc'⟩:=wO (hr v12 e12) hx3 hg11 hd3 hv;rw[ha]at ha';cases ha';rw[add_lit,xR];exact hc'
    refine⟨⟨hcell (d:=1) O rfl,hcell (d:=0) O rfl⟩,bL (hput v12 s' _ _ e12 (λb i=>i.imp id id) hB12 ha λv13 e13 h13=>?_)⟩;have e13':=(e12.sub hG).trans (e13.sub hD);have K13:=K11.vn e13' h13 λb i z=>by
     rcases z with z|z
     .exact .inl z.1
     .rcases z.1 with h1|h1|h1
      .exact .inl (hG b h1)
      .have:=hQ b h1;exact .inr (.inr ⟨.inr O,λhB=>by have:=(K10.b b hB).2;omega⟩)
      .exact .inr (.inl h1)
    have hbw13:=K11.dA e13' hbw11 (.inl (.inr rfl));have K14:=K13;simp only[Hw.dZ,nT]at K14;have hpe':=hpe;rw[zC hov]at hpe';rw[hpe']at hJ3;exact hJ3 v13 ⟨_,_,K14,hbw13⟩
  .refine⟨λu=>u=v6,rfl,bL ⟨some ⟨x.c.p,0,none⟩,λu V=>by cases V;exact K6.h.tc E hg ha (d:=0) O rfl,⟨(k:Int),λu V=>by cases V;rw[add_lit,b6.cell];rfl,⟨y,λu V=>by cases V;rw[add_lit,b6.cell];rfl,?_⟩⟩⟩⟩;refine TV K6.h E hg hc hl y λv7 ts7 s ee Q Z hQ hs7 h7=>?_;have K7:=K6.to Z h7 λb _ i=>i.1;have b7:=K6.dA Z b6 (.inr rfl);have B:=K6.dA Z C (.inl (.inr rfl));have hsl:s.len=(dO c y l).1.length:=by have:=hs7.1;simp[Wu]at this;omega
   by_cases hemp:(dO c y l).1=[]
   .rw[zC hemp]at hgg;rw[←hgg]at hJ2;exact gA (by rw[hsl,hemp];simp) (hJ2 v7 ⟨_,ts7,K7,B⟩)
   .rw[zB hemp]at hgg;have hpos:=pB.2 hemp;have hz6:=K6.e.1;refine lV (by rw[hsl];omega) (b7.rI rfl ?_);refine yP K7.h (t:=t) (by simpa[Hw.dZ]using ht) k (bU.fY hs7) (bU.pw hs7) hemp (λb _ z E=>E.1.2 z) (K6.o.1.sub λb i=>by have:=hQ b i;omega) (λz=>K6.o.2 (by have:=hQ _ z;omega)) (λg' hg'=>?_) λv8 ts8 e8 h8=>?_
    .have:(H.dZ t g (g.ls.set k (dO c y l).2)).bR[t]?=some {g with ls:=g.ls.set k (dO c y l).2}:=by simp[Hw.dZ,ht]
     rw[this]at hg';cases hg';simp only;omega
    .have K8:=K7.vn e8 h8 λb i z=>by
      rcases z with z|z
      .exact z.imp id .inl
      .have:=hQ b z;exact .inr (.inr ⟨.inr O,λhB=>by have:=(K6.b b hB).2;omega⟩)
     have e9:Kr (H.dZ t g (g.ls.set k (dO c y l).2)) t k (dO c y l).1 = {H with bR:=H.bR.set t g2}:=by
      rw[←hgg];unfold Kr Hw.eB Hw.dZ;simp only;rw[VE (t:={g with ls:=g.ls.set k (dO c y l).2}) (by simp[ht]),nT]
     rw[e9]at K8;exact hJ2 v8 ⟨_,ts8,K8,K7.dA e8 B (.inl (.inr rfl))⟩
 | back=>
  obtain⟨k,xs,r,hh,hxs,hxl⟩:∃k xs r,(H.jZ t).bQ=(k,xs)::r/\(∀x∈xs,iN x/\0<=XS H.bZ x)/\xs.length<=1000000:=hp;rw[htg]at hh;refine ly aB (jm aB (jm aB (jm aB (tL aB (ly aB (ly aB (jm aB (DG (nw (cs:=[]) λv5 M X N=>?_)))))))));have K5:=K1.box X M;have hbv5:=X.bV i id;obtain⟨G,D,hG,hD,hd,aa,hr,hput⟩:=K5.h.xO (λb i=>(K5.p b i).2.2) E hg (λb=>v5.size<=b) (λb i _ z=>O) K5.h.mZ.1 K5.h.mZ.2;have hbl:=aa.len;have hbc:=aa.cap;rw[hh]at aa;obtain⟨so,ps,Dn,hrow,hso1,hcap,hBr,hDn,hj,S,hxne⟩:=aa.mO;have hz5':=K5.e.1;refine bL (oL (K5.h.tc E hg ha (d:=1) O rfl) (LN (dN.fY hrow) λa ha0 ha1=>oI ha0 (oL ha1 ?_)));refine nw (cs:=[.int .i64 0,.slice none 0 0]) λv81 hz81 e81 hb81=>hb81.s1 aA λv82 o82 b82=>b82.s1 aA λv83 o83 b83=>?_;have e83:aF v5 v83:=(e81.only o82 (.inr (zD _))).only o83 (.inr (zD _));have hz83:v5.size<v83.size:=b83.lt;have hcell:∀{u1:Hp},Ext G v5 u1->∀{d:Nat} {w:Value},d<3->(jI (x,g))[d]?=some w->cell u1 (Addr.add ⟨tb0,to0+3*t,none⟩ d)=some w:=λhe _ _ hd3 hv=>by
   obtain⟨b',o',ha',hc'⟩:=wO (hr _ he) E hg hd3 hv;rw[ha]at ha';cases ha';rw[add_lit,xR];exact hc'
  refine bL (oL (hcell (aF.to e83) (d:=1) (w:=.slice x.h.a x.h.len x.h.cap) O rfl) ?_);have hpos:1<=x.h.len:=by rw[hbl,hh];simp
  refine jv (lo:=1) hpos hbc (zD _) ?_;have hrow':=aH.bP (aH.cut (dN.fY (hrow.from (lo:=1) hpos))) e83;have sq:(fK ((k,so)::ps)).drop (1*2)=fK ps:=rfl;rw[sq]at hrow';refine R3 hrow' aC λs' v84 hs'l e84 hs'=>?_;have hBt':iC s' r v84 (λb=>Dn b/\¬k9 so b/\b<v5.size\/v83.size<=b):=by
   refine⟨ps,λb=>Dn b/\¬k9 so b/\b<v5.size,(dN.loc _ _ _).mono hs'.o λb _ i=>⟨.inr i,λE=>O⟩,(kR.loc _ _).bP ((kR.loc _ _).bP ((kR.loc _ _).mono ((kR.loc _ _).cut hBr) λb _ i=>⟨i.1.1,i.1.2,i.2⟩) e83) e84,λb i=>.inl i,hj,S⟩
  have e584:aF v5 v84:=e83.trans e84;refine bL (hput v84 s' r _ (aF.to e584) (λb i=>i.elim (λi=>.inl (hDn b i.1)) λi=>.inr O) hBt' ha λv85 e85 h85=>?_);have hz84:=e84.1;have hz85:=e85.1;have e585:Ext _ v5 v85:=(aF.to e584).trans (e85.sub hD);have K85:=K5.to e585 h85 λb _ z=>by
   rcases z with z|z
   .exact .inl z.1
   .rcases z.1 with h1|h1
    .exact .inl (hG b (hDn b h1.1))
    .exact .inr O
  have hbv85:=K5.dA e585 hbv5 (.inl (.inr rfl));have b85:bY v85 v5.size _:=e85.bV (e84.bV b83 id) λE=>by have:=(K5.p _ (hD _ E)).2.2;omega
  have K85b:=K85.yE (B':=λb=>b=v5.size) λb i=>⟨O,O,λE=>by
   subst i;rcases E.1 with h1|h1
   .have:=(K5.p _ h1.1).2.2;omega
   .rcases h1.1 with h2|h2<;>omega⟩
  have hso5:=aH.bT (aH.bP (aH.cut hso1) e584) e85 λb _ i E=>hd b (hDn b i.1.1) E;have W:WH H t .back=(GG {H with bR:=H.bR.set t {g with bQ:=r}} (H.own t) k xs,j6 (GG {H with bR:=H.bR.set t {g with bQ:=r}} (H.own t) k xs) t,0,0):=by
   simp only[WH,htg,hh,ZW hg]
  rw[W]at hR;refine⟨λu=>u=v85,rfl,⟨(k:Int),λu V=>by cases V;rw[add_lit,b85.cell];rfl,⟨so,λu V=>by cases V;rw[add_lit,b85.cell];rfl,?_⟩⟩⟩;refine Je K85b.h t ⟨rfl,Oa K85b.h hol k hso5 (λb _ i E=>?_) hcap hxs hxl λv87 e87 h87=>?_⟩
  .rcases E.1 with h1|h1
   .exact h1.2 (hDn b i.1.1)
   .rcases h1.1 with h2|h2
    .exact h2.2.1 i.1.2
    .have:=i.2;omega
  have K87:=K85b.to e87 h87 λb _ i=>i;have hbl7:(GG {H with bR:=H.bR.set t {g with bQ:=r}} (H.own t) k xs).bR.length=H.bR.length:=by
   rw[Dm];simp
  refine Us K87.h (t:=t) (by rw[hbl7];exact ht) ?_;exact gS (n:=U.size) K87 (.inl (.inl (.inr rfl))) (K85b.dA e87 hbv85 (.inl (.inl (.inr rfl)))) λw' K'=>hR w' _ K'.e (K'.fin h)
 | dF s a=>
  obtain⟨ha0,hal,hru⟩:0<=a/\a.toNat<H.bZ.length/\∀A∈H.bZ,∀r∈A.runs,r.1<=1000000:=hp;obtain⟨A2,hA2⟩:∃A,H.bZ[a.toNat]?=some A:=⟨_,cW hal⟩;have hae:a=((a.toNat:Nat):Int):=O
  refine ly aB (jm aB (jm aB (jm aB (tL aB (ly aB (ly aB (jm aB (tL aB (xu (nw (cs:=[.int .i64 0,.int .i64 0]) λv5 M X N=>?_))))))))));have K5:=K1.box X M;refine N.s1 aA λv5b o5 b5=>b5.s1 aA λv6 o6 b6=>?_;have K6:=(K5.own o5 (.inr rfl)).own o6 (.inr rfl);have S:U.size≠v.size:=O
  have C:=WF o6 (WF o5 (X.bV i id) S) S;obtain⟨Y2,hY2,_,_⟩:=K6.h.ar hA2;refine bL (K6.h.hd.rS rfl (b6.rI (x:=((a.toNat:Nat):Int)) (by rw[←hae];rfl) (K6.h.rA hY2 (b6.rI rfl ?_))));refine NJ K6.h hA2 hY2 s (hru A2 (zG hA2)) λv7 Z h7=>?_;have K7:=K6.to Z h7 λb _ i=>i;have B:=K6.dA Z C (.inl (.inr rfl));have W:WH H t (.dF s a)=(H.cE a.toNat (Kb A2 s),none,0,0):=by
   simp only[WH,hA2]
  refine hJ v7 ⟨_,L.ts,⟨?_,K7.e,λb i=>⟨(K7.p b i).1,λE=>(K7.p b i).2.1 (.inl E),(K7.p b i).2.2⟩,λb i=>K7.b b (.inl i),K7.o⟩,B,by rw[W]⟩;rw[W];exact K7.h
 | drain=>
  refine ly aB (jm aB (jm aB (jm aB (tL aB (ly aB (ly aB (jm aB (tL aB (jm aB (DG (nw (cs:=[]) λv5 M X N=>?_)))))))))));have K5:=K1.box X M;have hbv5:=X.bV i id;refine bL (vN (K5.h.tc E hg ha (d:=0) O rfl) ?_);refine T7 hso K5.h E hg λv7 s Q Z hQ hB h7=>?_;have K7:=K5.to Z h7 λb _ i=>i.1;have B:=K5.dA Z hbv5 (.inl (.inr rfl));have hz0:=K5.e.1;have hg7:(H.dZ t g (KG Z9 H.tb g.ls)).bR[t]?=some {g with ls:=KG Z9 H.tb g.ls}:=by simp[Hw.dZ,ht]
  obtain⟨G,D,hG,hD,hd,aa,hr,hput⟩:=K7.h.xO (λb i=>i.2) E hg7 Q (λb _ i z=>i.1.2 z) (K5.o.1.sub λb i=>by have:=hQ b i;omega) (λz=>K5.o.2 (by have:=hQ _ z;omega));refine bL (hput v7 s _ Q (Ext.refl _ _) (λb i=>.inr i) hB ha λv8 e8 h8=>?_);have e8':=e8.sub hD;have K8:=K7.vn e8' h8 λb _ z=>by
   rcases z with z|z
   .exact .inl z.1
   .have:=hQ b z.1;exact .inr (.inr ⟨.inr O,λhB=>by have:=(K5.b b hB).2;omega⟩)
  have hbv8:=K7.dA e8' B (.inl (.inr rfl));have W:WH H t .drain=({H with bR:=H.bR.set t {g with ls:=KG Z9 H.tb g.ls,bQ:=KN Z9 H.tb g.ls}},j6 {H with bR:=H.bR.set t {g with ls:=KG Z9 H.tb g.ls,bQ:=KN Z9 H.tb g.ls}} t,0,0):=by
   simp only[WH,ZW hg]
  have K9:=K8;simp only[Hw.dZ,nT]at K9;rw[W]at hR;refine Us K9.h (t:=t) (by simpa using ht) ?_;exact gS (n:=U.size) K9 (.inl (.inr rfl)) hbv8 λw' K'=>hR w' _ K'.e (K'.fin h)
def fo (H:Hw)(t:Nat)(p:Option Ph):Hw:=H.eB t λh=>{h with ph:=p}
theorem VX (H:Hw)(t:Nat)(f:Th->Th):(H.eB t f).bR.length=H.bR.length:=by simp[Hw.eB]
theorem O3 (H:Hw)(t k:Nat)(x:Int):(iE H t k x).bR.length=H.bR.length:=by
 unfold iE;simp only;split<;>split<;>simp[VX,Kr]
theorem JP (H:Hw)(t:Nat)(p:Ph):(WH H t p).1.bR.length=H.bR.length:=by
 cases p with
 | take k=>simp only[WH];split<;>simp[V3,VX]
 | cJ k w=>
  simp only[WH];split
  .split<;>simp[Kr,VX,Hw.cE]
  .rfl
 | cL k w=>simp only[WH];split<;>simp[Kr,VX,Hw.cE]
 | grow k w=>simp only[WH];split<;>simp[Hw.cE]
 | fill=>simp only[WH];split<;>simp[V3,VX]
 | eT m=>simp only[WH];split<;>simp[V3,Hw.cE]
 | find x=>
  simp only[WH,HA];split
  .rfl
  .split<;>simp[Kr,VX]
 | put k x=>exact O3 H t k x
 | back=>simp only[WH];split<;>simp[Dm,VX]
 | dF s a=>simp only[WH];split<;>simp[Hw.cE]
 | drain=>simp[WH,VX]
def wm (H:Hw)(t:Nat)(p:Ph):Prop:=vL H t p/\∀g,H.bR[t]?=some g->g.bQ.length<=900
def Kd (H:Hw)(t:Nat)(p:Ph):Hw:=fo (WH H t p).1 t (WH H t p).2.1
theorem MW (hso:ot)(h:HH U F L H)(hg:H.bR[t]?=some g){p:Ph}(hp:g.ph=some p)(hok:wm H t p){R:Bool->Int->Int->Int->Hp->Prop}
 (hR:∀σ' ts',Ext F U σ'->HH σ' (Grow F U) {L with ts:=ts'} (Kd H t p)->R (WH H t p).2.1.isNone (WH H t p).2.2.1 (WH H t p).2.2.2 0 σ'):ZA.c (aW L.p) (t:Int) U R:=by
 refine ZA.o ?_;unfold ZA.v;have E:=(cY.1 hg).1;refine nw (cs:=[.int .i64 0,.int .i64 0]) λv hz e y=>?_;have K1:=(HK.start h).box e hz;obtain⟨x,g',Q,z⟩:=h.th E;rw[hg]at z;cases z;refine Hc K1.h (cD rfl (DJ K1.h (t:Int) (cD (by rw[zI O];rfl) ?_)));refine bL (K1.h.hd.rS rfl (K1.h.tR Q hg ?_));rw[hp];refine⟨wg _,cD (by rw[yx];rfl) (bL (K1.h.hd.rS rfl (K1.h.tR Q hg ?_)))⟩;rw[hp];refine Wjz hso K1.h E p hok.1 hok.2 λS J P h9=>?_;have K9:=K1.to P h9 λb _ y=>y;have B:=K1.dA P y (.inr rfl);refine nw (cs:=[.int .i64 0,.int .i64 0]) λX u r A=>?_;have K10:=K9.box r u;refine A.s1 aA λZ j G=>G.s1 aA λv12 m C=>?_;have K12:=(K10.own j (.inr rfl)).own m (.inr rfl);have w:U.size≠S.size:=by have:=(K9.b U.size (.inr rfl)).2;omega
 have d:=WF m (WF j (r.bV B id) w) w;have K:t<(WH H t p).1.bR.length:=by rw[JP];exact E
 obtain⟨x9,Y,M,s⟩:=K12.h.th K;have D:Kd H t p = {(WH H t p).1 with bR:=(WH H t p).1.bR.set t {Y with ph:=(WH H t p).2.1}}:=ZW s _;refine bL (K12.h.hd.rS rfl (K12.h.tx M s (WH H t p).2.1 λV i N=>?_));have K13:=K12.to i N λb _ y=>.inl y;have a:=K12.dA i C (.inr rfl);rw[←D]at K13;refine⟨wg _,a.rI rfl (a.rI rfl ?_)⟩;refine gS (n:=U.size) K13 (.inl (.inr rfl)) (K12.dA i d (.inl (.inr rfl))) λW K'=>?_;rw[yx];exact hR W J K'.e (K'.fin h)
theorem De {p:Nat->Prop}(h:∃n,p n):∃n,p n/\∀m,p m->n<=m:=by
 obtain⟨n,d⟩:=h
 induction n using Nat.strongRecOn with
 | _ n ih=>
  by_cases hm:∃m,m<n/\p m
  .obtain⟨m,b,a⟩:=hm;exact ih m b a
  .exact⟨n,d,λm a=>Nat.le_of_not_lt λb=>hm ⟨m,b,a⟩⟩
theorem Dy {start:eR []->Prop}{round:eR []->eR []}(Inv:Nat->Hp->Prop)(h0:start λh=>∃n,Inv n h)(hr:∀n h,Inv n h->∀J:Hp->Prop,(∀m h',m<n->Inv m h'->J h')->round J h):X9 [] start round:=by
 classical
 refine Fz (λh=>∃n,Inv n h) (λh=>if hx:∃n,Inv n h then(De hx).choose else 0) h0 λh b=>?_
 have g:=(De b).choose_spec;refine hr _ h g.1 _ λm h' d hi=>⟨⟨m,hi⟩,?_⟩;have a:∃n,Inv n h':=⟨m,hi⟩;rw[dif_pos a,dif_pos b];exact Dh ((De a).choose_spec.2 m hi) d
inductive iJ:Nat->Hw->Nat->Ph->Hw->Int->Int->Prop
 | done {H:Hw} {t:Nat} {p:Ph}:wm H t p->(WH H t p).2.1=none->iJ 1 H t p (Kd H t p) (WH H t p).2.2.1 (WH H t p).2.2.2
 | next {n:Nat} {H:Hw} {t:Nat} {p p':Ph} {H':Hw} {a e:Int}:wm H t p->(WH H t p).2.1=some p'->iJ n (Kd H t p) t p' H' a e->iJ (n+1) H t p H' a e
theorem Jl {p:Ph}(ht:t<H.bR.length):∃g,(Kd H t p).bR[t]?=some g/\g.ph=(WH H t p).2.1:=by
 have a:t<(WH H t p).1.bR.length:=by rw[JP];exact ht
 exact⟨{(WH H t p).1.bR[t]with ph:=(WH H t p).2.1},by simp[Kd,fo,Hw.eB,uN,cW a],rfl⟩
end Go.Ar
namespace Go.Ar
open Go Go.Vc Go.Proofs
open Go.Bu (fB)
variable {U:Hp}{F:Rg}
def Hl (size align:Int):Bool:=decide (1<=size)&&(decide (1<=align)&&(decide (align<=256)&&fB align))
def gY (tb:List cA)(size align:Int):Option Nat:=tb.findIdx? λc=>decide (size<=(c.size:Int))&&((c.size:Int)%align==0)
theorem T8 (n:Int)(h1:1<=n)(h2:n<=256){R:aN}(hR:∀p:Int,(p != n) = !fB n->R p U):QM.c n U R:=by
 refine QM.o ?_;unfold QM.v;refine UJ (a:=bO) (bb:=bO) (λ(p q:Int) w=>w=U/\(p=0/\q=1\/∃k:Nat,k<=8/\p=((2^k:Nat):Int)/\q=((2^(k+1):Nat):Int)/\p<=n)) (λp q _=>1000-q.toNat) ⟨rfl,.inl ⟨rfl,rfl⟩⟩ ?_;rintro(p:Int) (q:Int) w ⟨rfl,hpq⟩;refine cN (λb=>?_) λr=>?_
 .rcases hpq with⟨rfl,rfl⟩|⟨k,hk,rfl,rfl,hp⟩
  .exact cT (m:=2) O O ⟨⟨rfl,.inr ⟨0,O,by simp,by simp,O⟩⟩,by simp⟩
  .have s:k<=7:=by
    apply Classical.byContradiction;intro hc;have:2^9<=2^(k+1):=pc aB O;omega
   have g:=lb (k+1);exact cT (m:=2^(k+1+1)) (by rw[mM 2 (k+1)];omega) (by rw[mM 2 (k+1)];omega) ⟨⟨rfl,.inr ⟨k+1,O,rfl,rfl,b⟩⟩,by rw[mM 2 (k+1)];omega⟩
 .rcases hpq with⟨rfl,rfl⟩|⟨k,hk,rfl,rfl,hp⟩
  .omega
  .refine hR _ ?_;by_cases e:((2^k:Nat):Int)=n
   .have:fB n=true:=by
     unfold fB;rw[zy];exact⟨k,zg.2 O,by simp[←e]⟩
    rw[this,e];simp
   .have:fB n=false:=by
     unfold fB;rw[mG];intro j hj he;have d:n=((2^j:Nat):Int):=by simpa using he
     rcases qQ j k with h3|h3|h3
     .have:2^(j+1)<=2^k:=pc aB h3;rw[mM]at this;have:=lb j;omega
     .subst h3;exact e d.symm
     .have:2^(k+1)<=2^j:=pc aB h3;omega
    rw[this];simpa using e
theorem Wkp {s:Sl}{xs:List (Int×Int×Int)}(ha:iu U s xs)(hv:QX xs=true)(size align:Int){R:Int->Int->Hp->Prop}
 (hR:∀σ',aF U σ'->R (if Hl size align then((gY (xs.map QG) size align).getD 0:Nat)else 0) (if Hl size align then(if(gY (xs.map QG) size align).isSome then 0 else 4)else 1) σ'):QK.c s size align U R:=by
 refine QK.o ?_;unfold QK.v;refine nw (cs:=[.int .i64 size]) λv hz e hb=>nw (cs:=[.int .i64 align]) λv1 N e1 Z=>?_;have P:=e1.bV hb id;refine A9 (Qv ha (e.trans e1)) λx e2=>?_;rw[hv];have K:=e2.bV P id;have y:=e2.bV Z id;have g:=(e.trans e1).trans e2;refine cD rfl ?_;have key:∀r,r = !Hl size align->(If r (R 0 1 x) (Ws.c s ⟨228,#[],#[.pointer (some ⟨U.size,0,none⟩),.pointer (some ⟨v.size,0,none⟩)]⟩ x λk v4=>If (decide (k<0)) (R 0 4 v4) (R k 0 v4))):=by
  intro r b;cases hok:Hl size align with
  | false=>
   rw[hok]at b;have:=hR x g;rw[hok]at this;exact cF (by rw[b];rfl) this
  | true=>
   rw[hok]at b;refine cD (by rw[b];rfl) ?_;have D:=hok;simp only[Hl,zF,zV]at D;refine Ws.o ?_;unfold Ws.v;have hlen:=ha.1;have hxl:=((QT xs).1 hv).2.1;refine Qg (a:=bO) (λ(z:Int) w=>∃i:Nat,z=(i:Int)/\i<=xs.length/\aF x w/\∀j c,j<i->(xs.map QG)[j]?=some c->(decide (size<=(c.size:Int))&&((c.size:Int)%align==0))=false) (λz _=>xs.length-z.toNat) ⟨0,rfl,O,Ext.refl _ _,λj c h=>O⟩ ?_;rintro(z:Int) w ⟨i,rfl,hi,ew,hno⟩;refine cN (λhlt=>?_) λM=>?_
   .have Y:i<xs.length:=O
    have B:(xs.map QG)[i]?=some (QG xs[i]):=by simp[Y]
    generalize QG xs[i]=c at B;have C:=Qv ha (g.trans ew);obtain⟨hx,hcok⟩:=Gj C hv B;refine Ax C hx ?_;refine Gn (all := #[.agg #[.int .i64 (c.size:Int),.int .i64 (c.aG:Int),.int .i64 (c.batch:Int)],.pointer (some ⟨U.size,0,none⟩),.pointer (some ⟨v.size,0,none⟩)]) (by kernel_rfl) aA ?_;refine Qp.o ?_;unfold Qp.v;refine nw (cs:=[.int .i64 (c.size:Int),.int .i64 (c.aG:Int),.int .i64 (c.batch:Int)]) λL N e1 F=>?_;have X:=e1.bV (ew.bV K id) id;have V:=e1.bV (ew.bV y id) id;have E:=ew.trans e1;have go:∀r,r=(decide (size<=(c.size:Int))&&((c.size:Int)%align==0))->If r (If (decide ((i:Int)<0)) (R 0 4 L) (R (i:Int) 0 L)) (Ar .i64 ((i:Int)+1) λH=>(∃i:Nat,H=(i:Int)/\i<=xs.length/\aF x L/\∀j c,j<i->(xs.map QG)[j]?=some c->(decide (size<=(c.size:Int))&&((c.size:Int)%align==0))=false)/\xs.length-H.toNat<xs.length-(i:Int).toNat):=by
     intro r b;refine cP (λS=>gA O ?_) λh0=>?_
     .have Q:gY (xs.map QG) size align=some i:=by
       obtain⟨aa,rfl⟩:=cY.1 B;exact nV.2 ⟨aa,by rw[←b];exact S,λj G=>by rw[hno j _ G (cW O)];simp⟩
      have:=hR L (g.trans E);rw[hok,Q]at this;exact this
     .exact cT (m:=i+1) O O ⟨⟨i+1,rfl,O,E,λj d G hd=>by
       by_cases e:j=i
       .subst e;rw[B]at hd;cases hd;rw[←b];exact h0
       .exact hno j d O hd⟩,O⟩
    refine F.rI rfl (X.uo rfl ?_);refine KC (λr w=>w=L/\r=(decide (size<=(c.size:Int))&&((c.size:Int)%align==0))) (λr w ⟨W,b⟩=>by subst W;exact go r b) λJ A=>?_;refine cN (λM=>F.rI rfl (V.uo rfl (nz O (A _ _ ⟨rfl,?_⟩)))) λhlt2=>A _ _ ⟨rfl,?_⟩
    .rw[Ki O,zI (by omega:size<=(c.size:Int)),r8]
    .rw[zL O,vQ]
   .have Q:gY (xs.map QG) size align=none:=by
     unfold gY;rw[vV];intro c B;obtain⟨j,G⟩:=zP B;have:=(cY.1 G).1;simp at this;exact hno j c O G
    have:=hR w (g.trans ew);rw[hok,Q]at this;exact lV aB this
 refine AY (λr w=>w=x/\r = !Hl size align) (λr w ⟨W,b⟩=>by subst W;exact key r b) λJ A=>?_;have rd1:∀m,m=x->cell m ⟨U.size,0,none⟩=some (.int .i64 size):=λm hm=>by rw[hm,K.cell];rfl
 have u:∀m,m=x->cell m ⟨v.size,0,none⟩=some (.int .i64 align):=λm hm=>by rw[hm,y.cell];rfl
 refine⟨λm=>m=x,rfl,⟨size,rd1,?_⟩⟩;refine cN (λS=>A _ _ ⟨rfl,?_⟩) λS=>⟨align,u,cN (λh2=>A _ _ ⟨rfl,?_⟩) λh2=>⟨align,u,cN (λh3=>A _ _ ⟨rfl,?_⟩) λh3=>⟨align,u,⟨align,u,?_⟩⟩⟩⟩
 .simp only[Hl,zL (by omega:¬1<=size),vQ,x8]
 .simp only[Hl,zL (by omega:¬1<=align),vQ,uu,x8]
 .simp only[Hl,zL (by omega:¬align<=256),vQ,uu,x8]
 .refine T8 align O O λp hp=>⟨rfl,A _ _ ⟨rfl,?_⟩⟩;rw[hp];simp only[Hl,zI (by omega:1<=size),zI (by omega:1<=align),zI (by omega:align<=256),r8]
end Go.Ar
namespace Go.Ar
open Go Go.Vc Go.Proofs
variable {U u u':Hp}{F B P Q:Rg}{L:dE}{H H':Hw}{t k n pb:Nat}{A:AR}{Y:Lay}{x:eU}{g:Th}{c:cA}{l:Li}{cs:List Value}
def mU (c:cA):Int×Int×Int:=((c.size:Int),(c.aG:Int),(c.batch:Int))
theorem OI (tb:List cA):(tb.map mU).map QG=tb:=by
 rw[lQ]
 conv=>rhs;rw[←vJ tb]
 apply kh;intro c _;rfl
theorem OJ {s:Sl}{tb:List cA}(h:cV s 3 (gK tb) U F):iu U s (tb.map mU):=by
 have E:=h.1;rw[Uv]at E;refine⟨by simp;omega,λi x y z m=>?_⟩;rw[zZ,oy]at m;obtain⟨c,w,g⟩:=m;obtain⟨r,D,A⟩:=Ap w;simp only[mU,Prod.mk.injEq]at g;obtain⟨rfl,rfl,rfl⟩:=g;obtain⟨b,o,d,j⟩:=h.cell r;obtain⟨B,u,a,p⟩:=h.cell D;rw[d]at a;cases a;obtain⟨B,u,a,C⟩:=h.cell A;rw[d]at a;cases a;exact⟨b,o,d,K0 j,by rw[show o+i*3=o+3*i by omega];exact j,by rw[show o+i*3+1=o+(3*i+1) by omega];exact p,by rw[show o+i*3+2=o+(3*i+2) by omega];exact C⟩
def m7 (tb:List cA):Prop:=QX (tb.map mU)=true
def iP (tb:List cA)(kind size align addr:Int):Option Ph:=
 if kind=0 then(if 1<=size/\size<=16384 then(if Hl size align then(match gY tb size align with
  | some k=>some (.take k)
  | none=>some (.eT ((size+255).toNat/256)))else none)else none)
 else if kind=1 then some (.find addr)else if kind=2 then some .drain else none
theorem RP (h:HH U F L H)(hv:m7 H.tb)(kind size align addr:Int){R:Value->Hp->Prop}(hR:∀σ',aF U σ'->R (nr (iP H.tb kind size align addr)) σ'):YL.c (aW L.p) kind size align addr U R:=by
 refine YL.o ?_;unfold YL.v;refine nw (cs:=[.int .i64 kind,.int .i64 size,.int .i64 align,.int .i64 addr]) λv M e s=>s.rI rfl ?_;have B:=h.bP e;have a:=hR v e;refine cP (λA=>?_) λA=>?_
 .have i:kind=0:=by simpa using A
  have K:iP H.tb kind size align addr=(if 1<=size/\size<=16384 then(if Hl size align then(match gY H.tb size align with
   | some k=>some (.take k)
   | none=>some (.eT ((size+255).toNat/256)))else none)else none):=by unfold iP;rw[zC i]
  rw[K]at hR a;refine s.rI rfl (KC (λr w=>w=v/\r = !decide (1<=size/\size<=16384)) (λr w ⟨G,y⟩=>?_) λJ C=>?_)
  .subst G;by_cases hs:1<=size/\size<=16384
   .rw[zC hs]at hR;rw[zI hs]at y;refine cD (by rw[y];rfl) ⟨λm=>m=w,rfl,bL ⟨L.dI,λm x=>by rw[x,add_lit,B.hd.cell];rfl,⟨size,λm x=>by rw[x,add_lit,s.cell];rfl,⟨align,λm x=>by rw[x,add_lit,s.cell];rfl,?_⟩⟩⟩⟩;refine Wkp (OJ B.jQ) hv size align λE e2=>?_;rw[OI];have z:=e2.bV s id;have b:=hR E (e.trans e2);cases hok:Hl size align with
    | false=>
     rw[hok]at b;exact cD rfl (cD rfl b)
    | true=>
     rw[hok]at b;simp only[zT]at b ⊢;cases hcl:gY H.tb size align with
     | some k=>rw[hcl]at b;exact cF rfl b
     | none=>
      rw[hcl]at b;refine cD rfl (cF rfl (z.rI rfl (ar O O (ar O O (nz aB (ar (by rw[YU O];omega) (by rw[YU O];omega) ?_))))));rw[YU O];have:(size+256-1)/256=(((size+255).toNat/256:Nat):Int):=O
      rw[this];exact b
   .rw[zB hs]at a;rw[zL hs]at y;exact cF (by rw[y];rfl) a
  .refine cN (λD=>C _ _ ⟨rfl,?_⟩) λD=>s.rI rfl (C _ _ ⟨rfl,?_⟩)
   .rw[zL O];rfl
   .by_cases h2:size>16384
    .rw[zI h2,zL O];rfl
    .rw[zL h2,zI O];rfl
 .have i:kind≠0:=by simpa using A
  refine cP (λj=>s.rI rfl ?_) λj=>?_
  .have d:kind=1:=by simpa using j
   unfold iP at a;rw[zB i,zC d]at a;exact a
  .have d:kind≠1:=by simpa using j
   refine cP (λu=>?_) λu=>?_
   .have g:kind=2:=by simpa using u
    unfold iP at a;rw[zB i,zB d,zC g]at a;exact a
   .have g:kind≠2:=by simpa using u
    unfold iP at a;rw[zB i,zB d,zB g]at a;exact a
def Vb (H:Hw)(thread kind size align addr:Int):Int ⊕ (Nat×Ph):=
 if 0<=thread/\thread<(H.bR.length:Int)then(match H.bR[thread.toNat]? with
  | some g=>(if g.ph=none then(match iP H.tb kind size align addr with
   | some p=>.inr (thread.toNat,p)
   | none=>.inl 1)else .inl 5)
  | none=>.inl 1)else .inl 1
theorem TJ (h:HH U F L H)(hv:m7 H.tb)(thread kind size align addr:Int){R:aN}(h0:∀e,Vb H thread kind size align addr=.inl e->e≠0->∀σ',Ext F U σ'->HH σ' (Grow F U) L H->R e σ')
 (h1:∀t p,Vb H thread kind size align addr=.inr (t,p)->thread=(t:Int)->t<H.bR.length->∀σ',Ext F U σ'->HH σ' (Grow F U) L (fo H t (some p))->R 0 σ'):Zo.c (aW L.p) thread kind size align addr U R:=by
 refine Zo.o ?_;unfold Zo.v;refine nw (cs:=[.int .i64 kind,.int .i64 size,.int .i64 align,.int .i64 addr]) λv y e d=>?_;have K1:=(HK.start h).box e y;refine Hc K1.h (cD rfl (DJ K1.h thread ?_));by_cases hth:0<=thread/\thread<(H.bR.length:Int)
 .obtain⟨t,rfl⟩:∃t:Nat,thread=(t:Int):=⟨thread.toNat,O⟩;have m:t<H.bR.length:=O
  obtain⟨x,g,j,i⟩:=h.th m;have a:Vb H (t:Int) kind size align addr=(if g.ph=none then(match iP H.tb kind size align addr with
   | some p=>.inr (t,p)
   | none=>.inl 1)else .inl 5):=by
   unfold Vb;rw[zC hth,dH,i]
  refine cD (by rw[zI hth];rfl) (bL (K1.h.hd.rS rfl (K1.h.tR j i ⟨wg _,?_⟩)));cases hp:g.ph with
  | some p=>
   rw[hp,zB aA]at a;exact cF (by rw[yx];rfl) (h0 5 a aB v K1.e (K1.fin h))
  | none=>
   rw[hp,zC rfl]at a;refine cD rfl (d.rI rfl (d.rI rfl (d.rI rfl (d.rI rfl (RP K1.h hv kind size align addr λv3 r=>⟨wg _,?_⟩)))));have K3:=K1.fr r;rw[yx];cases hq:iP H.tb kind size align addr with
   | none=>
    rw[hq]at a;exact cF rfl (h0 1 a aB v3 K3.e (K3.fin h))
   | some p=>
    rw[hq]at a;refine cD rfl (bL (K3.h.hd.rS rfl (K3.h.tx j i (some p) λu s z=>?_)));have K4:=K3.to s z λb _ d=>.inl d;have w:fo H t (some p) = {H with bR:=H.bR.set t {g with ph:=some p}}:=ZW i _;rw[←w]at K4;exact h1 t p a rfl m u K4.e (K4.fin h)
 .have a:Vb H thread kind size align addr=.inl 1:=by unfold Vb;rw[zB hth]
  exact cF (by rw[zL hth];rfl) (h0 1 a aB v K1.e (K1.fin h))
theorem Rc {p:Option Ph}(ht:t<H.bR.length):∃g,(fo H t p).bR[t]?=some g/\g.ph=p:=
 ⟨{H.bR[t]with ph:=p},by simp[fo,Hw.eB,uN,cW ht],rfl⟩
theorem Ip (hso:ot)(h:HH U F L H)(hv:m7 H.tb)(thread kind size align addr:Int){R:Int->Int->Hp->Prop}(h0:∀e,Vb H thread kind size align addr=.inl e->e≠0->∀σ',Ext F U σ'->HH σ' (Grow F U) L H->R 0 e σ')
 (h1:∀t p,Vb H thread kind size align addr=.inr (t,p)->∃n H' a e,iJ n (fo H t (some p)) t p H' a e/\∀σ' ts',Ext F U σ'->HH σ' (Grow F U) {L with ts:=ts'} H'->R a e σ'):Yw.c (aW L.p) thread kind size align addr U R:=by
 refine Yw.o ?_;unfold Yw.v;refine nw (cs:=[.int .i64 kind,.int .i64 size,.int .i64 align,.int .i64 addr]) λv hz e i=>i.rI rfl (i.rI rfl (i.rI rfl (i.rI rfl ?_)));have K1:=(HK.start h).box e hz;refine TJ K1.h hv thread kind size align addr (λD he x v1 e1 u=>?_) λt p W af ht v1 e1 u=>?_
 .have K2:=K1.to e1 u λb _ i=>i;exact cF (by simpa using x) (h0 D he x v1 K2.e (K2.fin h))
 .subst af;have K2:=K1.to e1 u λb _ i=>i;obtain⟨n,Hf,a,D,d,z⟩:=h1 t p W;refine cD rfl (Dy (λn w=>∃(B P:Rg) (ts:List eU) (H:Hw) (p:Ph),HK F U B w P {L with ts:=ts} H/\(∃g,H.bR[t]?=some g/\g.ph=some p)/\iJ n H t p Hf a D) ⟨n,_,_,L.ts,_,p,K2,Rc ht,d⟩ ?_);rintro n w ⟨B,P,ts,H2,r,K,⟨g,hg,ac⟩,d⟩ J hJ;have go:wm H2 t r->((WH H2 t r).2.1.isNone=true->(WH H2 t r).2.2.1=a/\(WH H2 t r).2.2.2=D/\Kd H2 t r=Hf)->((WH H2 t r).2.1.isNone=false->∃m M,m<n/\(WH H2 t r).2.1=some M/\iJ m (Kd H2 t r) t M Hf a D)->ZA.c (aW L.p) (t:Int) w λQ y G t223 v3=>Nw (.cells #[.int .i64 0,.int .i64 0] 137 (0,0)) v3 λj v4=>dG (j.add 0) (.int .i64 y) v4 λv5=>dG (j.add 1) (.int .i64 G) v5 λs=>If Q (gL .i64 (j.add 0) s λad=>gL .i64 (j.add 1) s λZ=>R ad Z s) (J s):=by
   intro hok hd hn;refine MW hso K.h hg ac hok λv3 E e3 V=>?_;have K3:=K.to e3 V λb _ i=>i;refine nw (cs:=[.int .i64 0,.int .i64 0]) λv4 ae e4 X=>?_;have K4:=K3.box e4 ae;refine X.s1 aA λv5 o5 b5=>b5.s1 aA λs o6 b6=>?_;have K6:=(K4.own o5 (.inr rfl)).own o6 (.inr rfl);refine cP (λS=>?_) λag=>?_
   .obtain⟨q1,q2,q3⟩:=hd S;rw[q3]at K6;refine b6.rI rfl (b6.rI rfl ?_);rw[q1,q2];exact z s E K6.e (K6.fin h)
   .obtain⟨m,M,hm,aa,ab⟩:=hn ag;have N:t<H2.bR.length:=(cY.1 hg).1;obtain⟨g',Y,A⟩:=Jl (p:=r) N;exact hJ m s hm ⟨_,_,E,_,M,K6,⟨g',Y,by rw[A,aa]⟩,ab⟩
  cases d with
  | done hok hnone=>exact go hok (λ_=>⟨rfl,rfl,rfl⟩) λC=>by rw[hnone]at C;cases C
  | next hok hsome hrun'=>exact go hok (λC=>by rw[hsome]at C;cases C) λ_=>⟨_,_,Nat.lt_succ_self _,hsome,hrun'⟩
end Go.Ar
namespace Go.Ar
open Go Go.Vc Go.Proofs
variable {U u w w':Hp}{F B P Q:Rg}{n:Nat}{cs:List Value}{tb:List cA}{cf:Cf}
def Ux (tb:List cA)(cf:Cf):Hw:=⟨tb,cf,V7 cf.aG,List.replicate cf.ig (fH cf.aG cf.room tb),List.replicate cf.threads ⟨List.replicate tb.length im,[],none⟩,[]⟩
def tB (p a t b r:Int):Bool:=decide (32<=p)&&decide (p<=1024)&&(p%16==0)&&decide (1<=a)&&decide (a<=4)&&decide (1<=t)&&decide (t<=4)&&decide (0<=b)&&decide (b<=65536)&&decide (0<=r)&&decide (r<=8)
theorem lvl {K:aO}{r:Bool}{a:Addr}{x:Int}{k:IntKind}{f:Int->Bool}(hl:∀{K':Int->Prop},K' x->gL k a w K')(h:K (r&&f x) w):bX K λJ=>If r (gL k a w λt=>J (f t) w) (J false w):=
 bX.intro (cP (λb=>hl (by rw[b]at h;exact h)) λb=>by rw[b]at h;exact h)
theorem Χ (p a t b r:Int){R:aO}(hR:∀σ',aF U σ'->R (tB p a t b r) σ'):Q9.c p a t b r U R:=by
 refine Q9.o ?_;unfold Q9.v;refine nw (cs:=[.int .i64 p,.int .i64 a,.int .i64 t,.int .i64 b,.int .i64 r]) λv A e g=>g.rI rfl ?_;have i:=hR v e;unfold tB at i;refine KC (λj w=>w=v/\j=(decide (32<=p)&&decide (p<=1024))) (λj w ⟨u,x⟩=>?_) λJ m=>?_
 .subst u;subst x;refine KC (λj y=>y=w/\j=(decide (32<=p)&&decide (p<=1024)&&(p%16==0))) (λj y ⟨u,x⟩=>?_) λJ m=>?_
  .rw[u];subst x;exact lvl (λd=>g.rI rfl d) (lvl (λd=>g.rI rfl d) (lvl (λd=>g.rI rfl d) (lvl (λd=>g.rI rfl d) (lvl (λd=>g.rI rfl d) (lvl (λd=>g.rI rfl d) (lvl (λd=>g.rI rfl d) (lvl (λd=>g.rI rfl d) i)))))))
  .refine cP (λs=>g.rI rfl (nz aB (m _ _ ⟨rfl,?_⟩))) λz=>m _ _ ⟨rfl,?_⟩
   .simp only[zF,zV]at s;rw[Ki O,zI s.1,zI s.2];rfl
   .rw[z];rfl
 .refine cN (λs=>g.rI rfl (m _ _ ⟨rfl,?_⟩)) λz=>m _ _ ⟨rfl,?_⟩
  .rw[zI (by omega:32<=p)];rfl
  .rw[zL O];rfl
structure pK where
 p:Nat
 dI:Sl
 lm:Nat
 hs:Option Nat
 hp:Option Nat
 aw:Sl
 al:List Nat
 ha:Sl
 tw:Sl
 tl:List Value
 ht:Sl
 ys:List Lay
 cs:List hO
def q8 (cf:Cf)(N:pK):List Value:=[.slice N.dI.a N.dI.len N.dI.cap,.int .i64 (cf.aG:Int),.int .i64 (cf.ig:Int),.int .i64 (cf.threads:Int),.int .i64 (cf.dD:Int),.int .i64 (cf.room:Int),
 .pointer (N.hp.map λq=>⟨q,0,none⟩),.slice N.ha.a N.ha.len N.ha.cap,.slice N.ht.a N.ht.len N.ht.cap,.map (some N.lm)]
def sL (n room:Nat)(tb:List cA)(y:Option Lay):Hp->Rg->Prop:=λU F=>match y with
 | some Y=>dL U F Y (fH n room tb) (cM (fH n room tb) Y)
 | none=>True
def sB (tb:List cA)(bud:Nat)(y:Option hO):Hp->Rg->Prop:=λU F=>match y with
 | some Y=>eO U F Y tb bud (List.replicate tb.length im)
 | none=>True
def Ay (n:Nat)(q:Option Nat):Hp->Rg->Prop:=λU F=>match q with
 | some q=>dR U F q (V7 n)
 | none=>True
def iZ (tb:List cA)(cf:Cf)(N:pK):kW->Hp->Rg->Prop
 | .hd=>iB N.p (q8 cf N)
 | .dI=>cV N.dI 3 (gK tb)
 | .sp=>Ay cf.aG N.hs
 | .fT=>bU N.aw 1 (fR N.al)
 | .cS=>bU N.tw 3 N.tl
 | .live=>jR N.lm .i64 (.ag 4) []
 | .ar k=>sL cf.aG cf.room tb N.ys[k]?
 | .ca k=>sB tb cf.dD N.cs[k]?
 | .hn _=>λ_ _=>True
theorem sL.loc (n room:Nat)(tb:List cA)(y:Option Lay):dP (sL n room tb y):=by
 intro U σ' F G h hz hs;cases y with
 | some Y=>exact dL.loc _ _ _ _ h hz hs
 | none=>trivial
theorem sB.loc (tb:List cA)(bud:Nat)(y:Option hO):dP (sB tb bud y):=by
 intro U σ' F G h hz hs;cases y with
 | some Y=>exact eO.loc _ _ _ _ h hz hs
 | none=>trivial
theorem Ay.loc (n:Nat)(q:Option Nat):dP (Ay n q):=by
 intro U σ' F G h hz hs;cases q with
 | some q=>exact dR.loc _ _ _ _ h hz hs
 | none=>trivial
theorem iZ.loc {N:pK}:∀i,dP (iZ tb cf N i)
 | .hd=>iB.loc _ _
 | .dI=>cV.loc _ _ _
 | .sp=>Ay.loc _ _
 | .fT=>bU.loc _ _ _
 | .cS=>bU.loc _ _ _
 | .live=>jR.loc _ _ _ _
 | .ar k=>sL.loc _ _ _ _
 | .ca k=>sB.loc _ _ _
 | .hn _=>λ_ _ _ _ _ _ _=>trivial
structure NK (U:Hp) (B:Rg) (w:Hp) (P:Rg) (tb:List cA) (cf:Cf) (N:pK):Prop where
 sep:Sep (iZ tb cf N) w P
 e:aF U w
 p:∀b,P b->U.size<=b/\¬B b/\b<w.size
 b:∀b,B b->U.size<=b/\b<w.size
variable {N N':pK}
theorem NK.fr (K:NK U B w P tb cf N)(e:aF w w'):NK U B w' P tb cf N:=
 ⟨(Sep.loc iZ.loc).bP K.sep e,K.e.trans e,λb a=>⟨(K.p b a).1,(K.p b a).2.1,by have:=(K.p b a).2.2;have:=e.1;omega⟩,λb a=>by have:=K.b b a;have:=e.1;omega⟩
theorem NK.box (K:NK U B w P tb cf N)(e:aF w w')(hz:w'.size=w.size+1):NK U (λb=>B b\/b=w.size) w' P tb cf N:=by
 have h:=K.fr e;have i:=K.e.1;exact⟨h.sep,h.e,λb a=>⟨(K.p b a).1,λg=>g.elim (K.p b a).2.1 λd=>by have:=(K.p b a).2.2;omega,(h.p b a).2.2⟩,λb a=>a.elim (h.b b) λd=>O⟩
theorem NK.drop (K:NK U B w P tb cf N){B':Rg}(hb:∀b,B' b->B b):NK U B' w P tb cf N:=⟨K.sep,K.e,λb h=>⟨(K.p b h).1,λa=>(K.p b h).2.1 (hb b a),(K.p b h).2.2⟩,λb h=>K.b b (hb b h)⟩
theorem NK.put (K:NK U B w P tb cf N)(e:aF w w')(i:kW)(hj:∀j,j≠i->iZ tb cf N' j=iZ tb cf N j)(hi:iZ tb cf N' i w' (λb=>w.size<=b)):NK U B w' (λb=>P b\/w.size<=b/\b<w'.size) tb cf N':=by
 have h:=K.fr e;have m:=K.e.1;refine⟨h.sep.put iZ.loc i (G:=λb=>w.size<=b/\b<w'.size) (λb a g=>by have:=(K.p b g).2.2;omega) hj ((iZ.loc i).mono hi λb a d=>⟨d,a⟩) (iZ.loc i),h.e,λb a=>?_,h.b⟩;rcases a with a|a
 .exact h.p b a
 .exact⟨O,λd=>by have:=(K.b b d).2;omega,a.2⟩
theorem NK.step (K:NK U B w P tb cf N)(i:kW):∃G:Rg,(∀b,G b->P b)/\iZ tb cf N i w G/\∀(w':Hp) (N':pK) (G':Rg),(∀j,j≠i->iZ tb cf N' j=iZ tb cf N j)->Ext G w w'->(∀b,G' b->G b\/w.size<=b/\¬B b)->iZ tb cf N' i w' G'->(∀b,B b->b<w'.size) →
 NK U B w' (λb=>(P b/\¬G b\/G' b)/\b<w'.size) tb cf N':=by
 obtain⟨G,m,hi,_,g⟩:=K.sep.ka iZ.loc i;refine⟨G,m,hi,λw' N' G' s e r u x=>⟨?_,?_,λb a=>?_,λb a=>⟨(K.b b a).1,x b a⟩⟩⟩
 .have:=g w' (iZ tb cf N') G' s e (λb a=>(r b a).imp id λd=>d.1) u (iZ.loc _);refine(Sep.loc iZ.loc).mono this λb a d=>⟨?_,a⟩;exact d.imp (λd=>⟨d.1,d.2.2⟩) id
 .exact Ext.dX K.e e λb a=>.inr (K.p b (m b a)).1
 .have y:=K.e.1;rcases a.1 with h1|h1
  .exact⟨(K.p b h1.1).1,(K.p b h1.1).2.1,a.2⟩
  .rcases r b h1 with h2|h2
   .exact⟨(K.p b (m b h2)).1,(K.p b (m b h2)).2.1,a.2⟩
   .exact⟨O,h2.2,a.2⟩
theorem Cv {K:eR [.p]}{body:eR [.p]->Prop}(P:Option Addr->Hp->Prop)(h1:∀r w,P r w->K r w)(h2:∀J:eR [.p],(∀r w,P r w->J r w)->body J):Jn [.p] K body:=Jn.intro (h2 K h1)
def gR:Sl:=⟨none,0,0⟩
def qH (cs:List hO):List Value:=cs.flatMap λc=>[.pointer (some ⟨c.p,0,none⟩),.slice none 0 0,.nilIface]
def N0 (p:Nat)(dI:Sl)(lm:Nat):pK:=⟨p,dI,lm,none,none,gR,[],gR,gR,[],gR,[],[]⟩
def NB (p:Nat)(dI:Sl)(lm q:Nat)(aw:Sl)(ys:List Lay)(tw:Sl)(cs:List hO):pK:=⟨p,dI,lm,some q,some q,aw,ys.map (·.p),aw,tw,qH cs,tw,ys,cs⟩
theorem FI {p lm:Nat}{dI:Sl}{D:Rg}(e:aF U w)(hz:U.size<w.size)(hp:bY w p (q8 cf (N0 p dI lm)))(hm:dM w lm .i64 (.ag 4) [])(ht:cV dI 3 (gK tb) w D)(hD:∀b,D b->U.size<b/\b<w.size/\b≠p/\b≠lm)(hpl:p≠lm)(h1:U.size<p)(h2:U.size<lm) :
 NK U (· = U.size) w (λb=>D b\/b=p\/b=lm) tb cf (N0 p dI lm):=by
 have g:=hp.lt;have d:=hm.lt;refine⟨⟨λb=>if b=p then .hd else if b=lm then .live else .dI,λi=>?_⟩,e,λb a=>?_,λb a=>O⟩
 .cases i with
  | hd=>exact⟨⟨.inr (.inl rfl),zC rfl⟩,hp⟩
  | live=>exact⟨⟨.inr (.inr rfl),by show(if lm=p then kW.hd else if lm=lm then kW.live else kW.dI)=.live;rw[zB (Ne.symm hpl),zC rfl]⟩,hm⟩
  | dI=>exact aH.mono ht λb _ a=>⟨.inl a,by show(if b=p then kW.hd else if b=lm then kW.live else kW.dI)=.dI;rw[zB (hD b a).2.2.1,zB (hD b a).2.2.2]⟩
  | sp=>trivial
  | fT=>exact bU.nil _ _ _ _
  | cS=>exact bU.nil _ _ _ _
  | ar k=>trivial
  | ca k=>trivial
  | hn k=>trivial
 .rcases a with a|a|a
  .have:=hD b a;omega
  .omega
  .omega
theorem NK.yY (K:NK U B w P tb cf N):P N.p/\bY w N.p (q8 cf N):=by
 obtain⟨G,b,a⟩:=K.sep.get .hd;exact⟨b _ a.1,a.2⟩
theorem NK.sq (K:NK U B w P tb cf N)(N':pK)(hN':∀j,j≠.hd->iZ tb cf N' j=iZ tb cf N j)(hp:N'.p=N.p){i:Nat}{v:Value}(hs:(q8 cf N).set i v=q8 cf N')(hi:i<10){Kk:aP}(hK:∀w' P',NK U B w' P' tb cf N'->Ka w w' N.p->Kk w'):dG (Addr.add ⟨N.p,0,none⟩ i) v w Kk:=by
 obtain⟨G,r,d,a⟩:=K.step .hd;have d:iB N.p (q8 cf N) w G:=d;refine d.2.s1 (by simpa[q8]using hi) λw' o m=>hK w' _ (a w' N' G hN' (o.ext.sub λx g=>by rw[g];exact d.1) (λx g=>.inl g) ?_ λx g=>by have:=(K.b x g).2;have:=o.1;omega) o;show iB N'.p (q8 cf N') w' G;rw[zH,hs]at m;rw[hp];exact⟨d.1,m⟩
theorem S8 {Y:Lay}(h:N'.ys=N.ys++[Y])(hr:∀j,(∀k,j≠.ar k)->iZ tb cf N' j=iZ tb cf N j):∀j,j≠kW.ar N.ys.length->iZ tb cf N' j=iZ tb cf N j:=by
 intro j hj;cases j with
 | ar k=>
  have a:k≠N.ys.length:=λe=>hj (by rw[e]);show sL _ _ _ N'.ys[k]?=sL _ _ _ N.ys[k]?;rw[h]
  congr 1
  rcases Nat.lt_or_gt_of_ne a with h1|h1
  .rw[zd h1]
  .rw[zX aE,zX O]
 | _=>exact hr _ (λk e=>by cases e)
theorem My {Y:hO}(h:N'.cs=N.cs++[Y])(hr:∀j,(∀k,j≠.ca k)->iZ tb cf N' j=iZ tb cf N j):∀j,j≠kW.ca N.cs.length->iZ tb cf N' j=iZ tb cf N j:=by
 intro j hj;cases j with
 | ca k=>
  have a:k≠N.cs.length:=λe=>hj (by rw[e]);show sB _ _ N'.cs[k]?=sB _ _ N.cs[k]?;rw[h]
  congr 1
  rcases Nat.lt_or_gt_of_ne a with h1|h1
  .rw[zd h1]
  .rw[zX aE,zX O]
 | _=>exact hr _ (λk e=>by cases e)
end Go.Ar
namespace Go.Ar
open Go Go.Vc Go.Proofs
variable {U u w w':Hp}{F B P Q:Rg}{n:Nat}{cs:List Value}{tb:List cA}{cf:Cf}{N:pK}
theorem ET (p a t b r:Int):tB p a t b r=true↔(32<=p/\p<=1024/\p%16=0)/\(1<=a/\a<=4)/\(1<=t/\t<=4)/\(0<=b/\b<=65536)/\0<=r/\r<=8:=by
 simp only[tB,zF,zV,zU];omega
theorem CE (g:Gl U)(gd:Gd U):jh (λb=>U.size<=b)/\¬(U.size<=1):=by
 refine⟨?_,λh=>by have:=D8 gd;omega⟩;have d:jh (λ_=>False):=λb a=>a.elim;exact(d.grow g).sub λb a=>.inr a
theorem WmQ (cs:List hO)(ls:List Li):ia (cs.map λc=>⟨c,gR⟩) (List.replicate cs.length ⟨ls,[],none⟩)=qH cs:=by
 induction cs with
 | nil=>rfl
 | cons c cs ih=>
  have e1:ia ((c::cs).map λc=>(⟨c,gR⟩:eU)) (List.replicate (c::cs).length ⟨ls,[],none⟩)=jI (⟨c,gR⟩,⟨ls,[],none⟩)++ia (cs.map λc=>(⟨c,gR⟩:eU)) (List.replicate cs.length ⟨ls,[],none⟩):=rfl;rw[e1,ih];rfl
theorem Sf (cs:List hO):(qH cs).length=cs.length*3:=by
 induction cs with
 | nil=>rfl
 | cons c cs ih=>simp only[qH,pT,zM,zS,lh]at *;omega
set_option maxRecDepth 8000 in
theorem En {s:Sl}{xs:List (Int×Int×Int)}(ha:iu U s xs)(g:Gl U)(gd:Gd U)(p a t b r:Int){R:Option Addr->Int->Hp->Prop}
 (h2:QX xs=false->∀σ',aF U σ'->R none 2 σ')
 (h1:QX xs=true->tB p a t b r=false->∀σ',aF U σ'->R none 1 σ')
 (h0:QX xs=true->tB p a t b r=true->∀σ' L,aF U σ'->HH σ' (λq=>U.size<=q) L (Ux (xs.map QG) ⟨p.toNat,a.toNat,t.toNat,b.toNat,r.toNat⟩)->R (some ⟨L.p,0,none⟩) 0 σ') :
 Vi.c s p a t b r U R:=by
 refine Vi.o ?_;unfold Vi.v;refine nw (cs:=[.int .i64 p,.int .i64 a,.int .i64 t,.int .i64 b,.int .i64 r]) λv hz e y=>?_;refine A9 (Qv ha e) λv1 e1=>?_;cases hv:QX xs with
 | false=>exact cF rfl (h2 hv v1 (e.trans e1))
 | true=>
 have ab:=e1.bV y id;refine cD rfl (ab.rI rfl (ab.rI rfl (ab.rI rfl (ab.rI rfl (ab.rI rfl (Χ p a t b r λv2 e2=>?_))))));have V:=(e.trans e1).trans e2;cases hc:tB p a t b r with
 | false=>exact cF rfl (h1 hv hc v2 V)
 | true=>
 have hcf:=(ET p a t b r).1 hc;obtain⟨p,rfl⟩:∃n:Nat,p=(n:Int):=⟨p.toNat,O⟩;obtain⟨a,rfl⟩:∃n:Nat,a=(n:Int):=⟨a.toNat,O⟩;obtain⟨t,rfl⟩:∃n:Nat,t=(n:Int):=⟨t.toNat,O⟩;obtain⟨b,rfl⟩:∃n:Nat,b=(n:Int):=⟨b.toNat,O⟩;obtain⟨r,rfl⟩:∃n:Nat,r=(n:Int):=⟨r.toNat,O⟩;simp only[dH]at h0;have h0:=h0 hv hc;have A:=e2.bV ab id;have hxl:=(QT xs).1 hv;have hz2:=V.1;have hz02:U.size<v2.size:=A.lt;generalize hcfd:(⟨p,a,t,b,r⟩:Cf)=cf at h0;generalize htbd:xs.map QG=tb at h0;have hdE:∀(q:Nat) (dI:Sl) (C:Nat),q8 cf (N0 q dI C)=[.slice dI.a dI.len dI.cap,.int .i64 (p:Int),.int .i64 (a:Int),.int .i64 (t:Int),.int .i64 (b:Int),.int .i64 (r:Int),.pointer none,.slice none 0 0,.slice none 0 0,.map (some C)]:=λq dI C=>by rw[←hcfd];rfl
 refine cD rfl (Cv (λvh w=>∃P q dI C,vh=some ⟨q,0,none⟩/\NK U (· = U.size) w P tb cf (N0 q dI C)/\bY w U.size [.int .i64 (p:Int),.int .i64 (a:Int),.int .i64 (t:Int),.int .i64 (b:Int),.int .i64 (r:Int)]) (λvh w ⟨P,q,dI,C,hvh,K,hbw⟩=>?_) λJ hJ=>?_)
 .subst hvh;refine hbw.rI rfl (OK (n:=p) O O λv4 sp e4 _ hS=>?_);have hp:cf.aG=p:=by rw[←hcfd]
  have hroom:cf.room=r:=by rw[←hcfd]
  have hbud:cf.dD=b:=by rw[←hcfd]
  have K1:NK U (· = U.size) v4 _ tb cf {N0 q dI C with hs:=some sp}:=K.put e4 .sp (λj M=>by cases j<;>first|rfl|exact absurd rfl M) (by
   show dR v4 _ sp (V7 cf.aG);rw[hp];exact hS)
  have hbw4:=e4.bV hbw id;refine bL (K1.sq (NB q dI C sp gR [] gR []) (λj M=>by cases j<;>first|rfl|exact absurd rfl M) rfl (i:=6) rfl O λv5 P5 K5 o5=>?_)
  have ah:∀{w:Hp} {P:Rg} {N:pK},NK U (· = U.size) w P tb cf N->U.size≠N.p:=λK e=>(K.p _ K.yY.1).2.1 e.symm;have hbw5:=WF o5 hbw4 (ah K1);refine hbw5.rI rfl ?_;refine Qg (a:=bO) (λ(z:Int) w=>∃(P:Rg) (aw:Sl) (ys:List Lay),z=(ys.length:Int)/\ys.length<=a/\(∀Y∈ys,Y.hs=sp)/\NK U (· = U.size) w P tb cf (NB q dI C sp aw ys gR [])/\bY w U.size [.int .i64 (p:Int),.int .i64 (a:Int),.int .i64 (t:Int),.int .i64 (b:Int),.int .i64 (r:Int)]) (λz _=>a-z.toNat) ⟨P5,gR,[],rfl,by simp,by simp,K5,hbw5⟩ ?_;rintro(z:Int) w6 ⟨P6,aw,ys,rfl,hyl,hys,K6,hbw6⟩;refine cN (λhlt=>?_) λhge=>?_
  .refine⟨λu=>u=w6,rfl,bL ⟨some ⟨sp,0,none⟩,λu hu=>by cases hu;rw[add_lit];exact(bY.cell (b:=q) K6.yY.2).trans rfl,⟨(r:Int),λu hu=>by cases hu;rw[add_lit,hbw6.cell];rfl,?_⟩⟩⟩;obtain⟨GS,hGS,hSp⟩:=K6.sep.get .sp;have hSp:dR w6 GS sp (V7 cf.aG):=hSp;have hnl:(V7 cf.aG).st.length=p:=by rw[hp];simp[V7]
   have hnE:lr xs (V7 cf.aG).st.length (r:Int)=0:=by
    unfold lr;rw[zC hv,hnl,zC O]
   refine κ (Qv ha K6.e) hSp (r:Int) (λhne=>absurd hnE hne) λ_ v7 Y e7 hYh hA=>?_;rw[hnl,dH,htbd]at hA;have K7:NK U (· = U.size) v7 _ tb cf {NB q dI C sp aw ys gR []with ys:=ys++[Y]}:=K6.put e7 (.ar ys.length) (S8 (N:=NB q dI C sp aw ys gR []) rfl (λj M=>by
    cases j with
    | ar k=>exact absurd rfl (M k)
    | _=>rfl)) (by
    show sL cf.aG cf.room tb (ys++[Y])[ys.length]? v7 _;rw[zp (zD _),pY,hp,hroom];exact hA)
   have S:=e7.bV hbw6 id;refine bL (K7.yY.2.rS (a:=aw.a) (n:=aw.len) (c:=aw.cap) rfl (nw (cs:=[.pointer (some ⟨Y.p,0,none⟩)]) λv8 hz8 e8 hb8=>?_));have K8:=K7.box e8 hz8;obtain⟨G,hG,d,ad⟩:=K8.step .fT;have d:bU aw 1 (fR (ys.map (·.p))) v8 G:=d;have hal:aw.len=ys.length:=by have:=d.1;simp[fR]at this;omega
   refine d.app (ys:=[.pointer (some ⟨Y.p,0,none⟩)]) rfl rfl ?_ (by simp[dY]) ?_ ?_ nc λs' v9 _ e9 hr9=>?_
   .intro j u hu;rw[add_lit,zH,hb8.cell];exact hu
   .simp only;omega
   .simp only;omega
   have hz9:=e9.1;have hbw9:bY v9 U.size _:=e9.bV (e8.bV S id) λF=>(K8.p _ (hG _ F)).2.1 (.inl rfl);have K9:=(ad v9 {NB q dI C sp aw ys gR []with ys:=ys++[Y],aw:=s',al:=(ys++[Y]).map (·.p)} (λb=>Grow G v8 b/\b<v9.size) (λj M=>by cases j<;>first|rfl|exact absurd rfl M) e9 (λb y=>y.1.imp id λF=>⟨F,λhB=>by have:=(K8.b b hB).2;omega⟩) (by
    show bU s' 1 (fR ((ys++[Y]).map (·.p))) v9 _;have:fR ((ys++[Y]).map (·.p))=fR (ys.map (·.p))++[.pointer (some ⟨Y.p,0,none⟩)]:=by simp[fR]
    rw[this];exact aI.mono hr9 λb y F=>⟨F,y⟩) λb hB=>by have:=(K8.b b hB).2;omega).drop (B':=(· = U.size)) λb y=>.inl y
   refine bL (K9.sq (NB q dI C sp s' (ys++[Y]) gR []) (λj M=>by cases j<;>first|rfl|exact absurd rfl M) rfl (i:=7) rfl O λac P10 K10 gE=>?_)
   have H:=WF gE hbw9 (ah K9);exact cT (m:=ys.length+1) O O ⟨⟨P10,s',ys++[Y],by simp,by simp;omega,λZ hZ=>(zJ.1 hZ).elim (hys Z) λh=>by
    rw[zN]at h;rw[h];exact hYh,K10,H⟩,O⟩
  .have hya:ys.length=a:=O
   refine hbw6.rI rfl ?_;refine Qg (a:=bO) (λ(z:Int) w=>∃(P:Rg) (tw:Sl) (cs:List hO),z=(cs.length:Int)/\cs.length<=t/\NK U (· = U.size) w P tb cf (NB q dI C sp aw ys tw cs)/\bY w U.size [.int .i64 (p:Int),.int .i64 (a:Int),.int .i64 (t:Int),.int .i64 (b:Int),.int .i64 (r:Int)]) (λz _=>t-z.toNat) ⟨P6,gR,[],rfl,by simp,K6,hbw6⟩ ?_;rintro(z:Int) w7 ⟨P7,tw,cs,rfl,hcsl,K7,S⟩;refine cN (λhlt=>?_) λhge2=>?_
   .refine S.rI rfl (NI (Qv ha K7.e) (b:Int) (λhvf=>by rw[hv]at hvf;cases hvf) (λ_ hn=>absurd ⟨O,O⟩ hn) λ_ _ _ v8 Y e8 hC=>?_);rw[dH,htbd]at hC;have K8:NK U (· = U.size) v8 _ tb cf {NB q dI C sp aw ys tw cs with cs:=cs++[Y]}:=K7.put e8 (.ca cs.length) (My (N:=NB q dI C sp aw ys tw cs) rfl (λj M=>by
     cases j with
     | ca k=>exact absurd rfl (M k)
     | _=>rfl)) (by
     show sB tb cf.dD (cs++[Y])[cs.length]? v8 _;rw[zp (zD _),pY,hbud];exact hC)
    have hbw8:=e8.bV S id;refine bL (K8.yY.2.rS (a:=tw.a) (n:=tw.len) (c:=tw.cap) rfl (nw (cs:=[.pointer (some ⟨Y.p,0,none⟩),.slice none 0 0,.nilIface]) λv9 hz9 e9 hb9=>?_));have K9:=K8.box e9 hz9;obtain⟨G,hG,d,ad⟩:=K9.step .cS;have d:bU tw 3 (qH cs) v9 G:=d;have hal:tw.len=cs.length:=by have:=d.1;rw[Sf]at this;omega
    refine d.app (ys:=[.pointer (some ⟨Y.p,0,none⟩),.slice none 0 0,.nilIface]) rfl rfl ?_ (by simp[dY]) ?_ ?_ nc λs' ac _ e10 hr10=>?_
    .intro j u hu;rw[add_lit,zH,hb9.cell];exact hu
    .simp only;omega
    .simp only;omega
    have hz10:=e10.1;have H:bY ac U.size _:=e10.bV (e9.bV hbw8 id) λF=>(K9.p _ (hG _ F)).2.1 (.inl rfl);have K10:=(ad ac {NB q dI C sp aw ys tw cs with cs:=cs++[Y],tw:=s',tl:=qH (cs++[Y])} (λb=>Grow G v9 b/\b<ac.size) (λj M=>by cases j<;>first|rfl|exact absurd rfl M) e10 (λb y=>y.1.imp id λF=>⟨F,λhB=>by have:=(K9.b b hB).2;omega⟩) (by
     show bU s' 3 (qH (cs++[Y])) ac _;have:qH (cs++[Y])=qH cs++[.pointer (some ⟨Y.p,0,none⟩),.slice none 0 0,.nilIface]:=by simp[qH]
     rw[this];exact aI.mono hr10 λb y F=>⟨F,y⟩) λb hB=>by have:=(K9.b b hB).2;omega).drop (B':=(· = U.size)) λb y=>.inl y
    refine bL (K10.sq (NB q dI C sp aw ys s' (cs++[Y])) (λj M=>by cases j<;>first|rfl|exact absurd rfl M) rfl (i:=8) rfl O λv11 P11 K11 o11=>?_)
    have hbw11:=WF o11 H (ah K10);exact cT (m:=cs.length+1) O O ⟨⟨P11,s',cs++[Y],by simp,by simp;omega,K11,hbw11⟩,O⟩
   .have hct:cs.length=t:=O
    have Q:cf.threads=cs.length:=by rw[←hcfd,hct]
    have af:cf.ig=ys.length:=by rw[←hcfd,hya]
    have hN:=CE g gd;refine h0 w7 ⟨q,sp,C,dI,aw,tw,ys,cs.map λc=>⟨c,gR⟩⟩ K7.e ⟨⟨?_,hys,?_,?_,?_,?_,?_,?_⟩,?_,g.bP K7.e,gd.bP K7.e,hN.1,hN.2⟩
    .simp[Ux,af]
    .simp[Ux,Q]
    .simp[Ux,af];omega
    .simp[Ux,af];omega
    .simp[Ux,Q];omega
    .simp[Ux,Q];omega
    .intro B hB;have:=Da hB;rw[this];rfl
    .refine(Sep.loc CH.loc).mono (G:=λq=>U.size<=q) ?_ λb _ y=>y;obtain⟨ρ,hs⟩:=(Sep.loc iZ.loc).mono K7.sep (G:=λq=>U.size<=q) λb _ y=>(K7.p b y).1;refine⟨ρ,λi=>?_⟩;have hi:=hs i;cases i with
     | hd=>exact hi
     | dI=>exact hi
     | sp=>exact hi
     | fT=>exact bU.fY hi
     | cS=>
      show bU tw 3 (ia (cs.map λc=>⟨c,gR⟩) (List.replicate cf.threads ⟨List.replicate tb.length im,[],none⟩)) w7 _;rw[Q,WmQ];exact hi
     | live=>exact hi
     | ar k=>
      show oO ys[k]? (List.replicate cf.ig (fH cf.aG cf.room tb))[k]? w7 _;have hi:sL cf.aG cf.room tb ys[k]? w7 _:=hi;unfold oO;by_cases hk:k<ys.length
      .rw[mY,zC O,cW hk];rw[cW hk]at hi;exact hi
      .rw[zX O];trivial
     | ca k=>
      show rZ (cs.map λc=>(⟨c,gR⟩:eU))[k]? (List.replicate cf.threads (⟨List.replicate tb.length im,[],none⟩:Th))[k]? tb cf.dD w7 _;have hi:sB tb cf.dD cs[k]? w7 _:=hi;unfold rZ;by_cases hk:k<cs.length
      .rw[mY,zC O,zZ,cW hk];rw[cW hk]at hi;exact hi
      .rw[zZ,zX O];trivial
     | hn k=>
      show qB (cs.map λc=>(⟨c,gR⟩:eU))[k]? (List.replicate cf.threads (⟨List.replicate tb.length im,[],none⟩:Th))[k]? w7 _;unfold qB;by_cases hk:k<cs.length
      .rw[mY,zC O,zZ,cW hk];exact iC.nil _ _ _
      .rw[zZ,zX O];trivial
 .have rd:∀(i:Nat) (x:Int),[Value.int .i64 (p:Int),.int .i64 (a:Int),.int .i64 (t:Int),.int .i64 (b:Int),.int .i64 (r:Int)][i]?=some (.int .i64 x)->∀m,bY m U.size [.int .i64 (p:Int),.int .i64 (a:Int),.int .i64 (t:Int),.int .i64 (b:Int),.int .i64 (r:Int)]->cell m (Addr.add ⟨U.size,0,none⟩ i)=some (.int .i64 x):=λi x F m hm=>by
   rw[add_lit,hm.cell,zH];exact F
  refine⟨λm=>bY m U.size [.int .i64 (p:Int),.int .i64 (a:Int),.int .i64 (t:Int),.int .i64 (b:Int),.int .i64 (r:Int)],A,⟨(p:Int),rd 0 _ rfl,⟨(a:Int),rd 1 _ rfl,⟨(t:Int),rd 2 _ rfl,⟨(b:Int),rd 3 _ rfl,⟨(r:Int),rd 4 _ rfl,⟨?_,?_⟩⟩⟩⟩⟩⟩⟩
  .refine Uo (Qv ha V) hv λdI v16 X E=>⟨X.bV A id,ub λv17 z17 ae hm=>⟨ae.bV (X.bV A id) id,?_⟩⟩;rw[htbd]at E;have hz16:=X.1;refine nw (cs:=[.slice dI.a dI.len dI.cap,.int .i64 (p:Int),.int .i64 (a:Int),.int .i64 (t:Int),.int .i64 (b:Int),.int .i64 (r:Int),.pointer none,.slice none 0 0,.slice none 0 0,.map (some v16.size)]) λv18 z18 aj hb18=>⟨aj.bV (ae.bV (X.bV A id) id) id,hJ _ _ ⟨_,v17.size,dI,v16.size,rfl,FI (D:=λq=>v2.size<=q/\q<v16.size) (((V.trans X).trans ae).trans aj) O (by rw[hdE];exact hb18) (aj.fX (hm .i64 (.ag 4)) id) ?_ (λb y=>O) O O O,aj.bV (ae.bV (X.bV A id) id) id⟩⟩;exact aH.bP (aH.bP (aH.mono E (G:=λq=>v2.size<=q/\q<v16.size) λb y F=>⟨F,y⟩) ae) aj
  .refine ub λv19 z19 W hm=>⟨W.bV A id,Uo (Qv ha (V.trans W)) hv λdI v20 aa E=>⟨aa.bV (W.bV A id) id,?_⟩⟩;rw[htbd]at E;have hz20:=aa.1;refine nw (cs:=[.slice dI.a dI.len dI.cap,.int .i64 (p:Int),.int .i64 (a:Int),.int .i64 (t:Int),.int .i64 (b:Int),.int .i64 (r:Int),.pointer none,.slice none 0 0,.slice none 0 0,.map (some v2.size)]) λv21 z21 ai hb21=>⟨ai.bV (aa.bV (W.bV A id) id) id,hJ _ _ ⟨_,v20.size,dI,v2.size,rfl,FI (D:=λq=>v19.size<=q/\q<v20.size) (((V.trans W).trans aa).trans ai) O (by rw[hdE];exact hb21) (ai.fX (aa.fX (hm .i64 (.ag 4)) id) id) ?_ (λb y=>O) O O O,ai.bV (aa.bV (W.bV A id) id) id⟩⟩;exact aH.bP (aH.mono E (G:=λq=>v19.size<=q/\q<v20.size) λb y F=>⟨F,y⟩) ai
end Go.Ar
namespace Go.Ar
open Go Go.Vc Go.Proofs
variable {U u w w':Hp}{F B P Q:Rg}{L:dE}{H:Hw}{t:Nat}{g:Th}
theorem Wkg (u:Value){R:ByteArray->Hp->Prop}(h:Wg Tryz.prog 379 #[u] [.one .str] U R):je Tryz.prog (.iface 235 u) "freehold/heap.name" [] [.one .str] U R :=
 ⟨235,u,379,rfl,λw=>by kernel_rfl,λxs w=>by kernel_rfl,h⟩
theorem NF (u:Value){R:ByteArray->Hp->Prop}(h:Wg Tryz.prog 383 #[u] [.one .str] U R):je Tryz.prog (.iface 245 u) "freehold/heap.name" [] [.one .str] U R :=
 ⟨245,u,383,rfl,λw=>by kernel_rfl,λxs w=>by kernel_rfl,h⟩
theorem RE (u:Value){R:ByteArray->Hp->Prop}(h:Wg Tryz.prog 385 #[u] [.one .str] U R):je Tryz.prog (.iface 248 u) "freehold/heap.name" [] [.one .str] U R :=
 ⟨248,u,385,rfl,λw=>by kernel_rfl,λxs w=>by kernel_rfl,h⟩
theorem Wk4 (u:Value){R:ByteArray->Hp->Prop}(h:Wg Tryz.prog 386 #[u] [.one .str] U R):je Tryz.prog (.iface 250 u) "freehold/heap.name" [] [.one .str] U R :=
 ⟨250,u,386,rfl,λw=>by kernel_rfl,λxs w=>by kernel_rfl,h⟩
theorem O4 (u:Value){R:ByteArray->Hp->Prop}(h:Wg Tryz.prog 384 #[u] [.one .str] U R):je Tryz.prog (.iface 247 u) "freehold/heap.name" [] [.one .str] U R :=
 ⟨247,u,384,rfl,λw=>by kernel_rfl,λxs w=>by kernel_rfl,h⟩
theorem MU (u:Value){R:ByteArray->Hp->Prop}(h:Wg Tryz.prog 380 #[u] [.one .str] U R):je Tryz.prog (.iface 237 u) "freehold/heap.name" [] [.one .str] U R :=
 ⟨237,u,380,rfl,λw=>by kernel_rfl,λxs w=>by kernel_rfl,h⟩
theorem Κ (u:Value){R:ByteArray->Hp->Prop}(h:Wg Tryz.prog 381 #[u] [.one .str] U R):je Tryz.prog (.iface 239 u) "freehold/heap.name" [] [.one .str] U R :=
 ⟨239,u,381,rfl,λw=>by kernel_rfl,λxs w=>by kernel_rfl,h⟩
theorem MB (u:Value){R:ByteArray->Hp->Prop}(h:Wg Tryz.prog 387 #[u] [.one .str] U R):je Tryz.prog (.iface 255 u) "freehold/heap.name" [] [.one .str] U R :=
 ⟨255,u,387,rfl,λw=>by kernel_rfl,λxs w=>by kernel_rfl,h⟩
theorem PE (u:Value){R:ByteArray->Hp->Prop}(h:Wg Tryz.prog 388 #[u] [.one .str] U R):je Tryz.prog (.iface 258 u) "freehold/heap.name" [] [.one .str] U R :=
 ⟨258,u,388,rfl,λw=>by kernel_rfl,λxs w=>by kernel_rfl,h⟩
theorem NO (u:Value){R:ByteArray->Hp->Prop}(h:Wg Tryz.prog 389 #[u] [.one .str] U R):je Tryz.prog (.iface 262 u) "freehold/heap.name" [] [.one .str] U R :=
 ⟨262,u,389,rfl,λw=>by kernel_rfl,λxs w=>by kernel_rfl,h⟩
theorem OH (u:Value){R:ByteArray->Hp->Prop}(h:Wg Tryz.prog 382 #[u] [.one .str] U R):je Tryz.prog (.iface 241 u) "freehold/heap.name" [] [.one .str] U R :=
 ⟨241,u,382,rfl,λw=>by kernel_rfl,λxs w=>by kernel_rfl,h⟩
def oJ (s:ByteArray):Prop:=(s.toList==(ByteArray.mk #[]).toList)=false
theorem Mv (p:Ph){R:ByteArray->Hp->Prop}(hR:∀s σ',aF U σ'->oJ s->R s σ'):je Tryz.prog (nr (some p)) "freehold/heap.name" [] [.one .str] U R := by
 cases p with
 | take k=>
  refine Wkg _ (Qh.o ?_);unfold Qh.v;exact nw (cs:=[.int .i64 (k:Int)]) λv hz e hb=>hR _ v e (by unfold oJ;decide +kernel)
 | cJ k w=>
  refine NF _ (Zn.o ?_);unfold Zn.v;exact nw (cs:=[.int .i64 (k:Int),.int .i64 (w:Int)]) λv hz e hb=>hR _ v e (by unfold oJ;decide +kernel)
 | cL k w=>
  refine RE _ (ZH.o ?_);unfold ZH.v;exact nw (cs:=[.int .i64 (k:Int),.int .i64 (w:Int)]) λv hz e hb=>hR _ v e (by unfold oJ;decide +kernel)
 | grow k w=>
  refine Wk4 _ (Qo.o ?_);unfold Qo.v;exact nw (cs:=[.int .i64 (k:Int),.int .i64 (w:Int)]) λv hz e hb=>hR _ v e (by unfold oJ;decide +kernel)
 | fill=>
  refine O4 _ (Qt.o ?_);unfold Qt.v;exact nw (cs:=[]) λv hz e hb=>hR _ v e (by unfold oJ;decide +kernel)
 | eT m=>
  refine MU _ (Z7.o ?_);unfold Z7.v;exact nw (cs:=[.int .i64 (m:Int)]) λv hz e hb=>hR _ v e (by unfold oJ;decide +kernel)
 | find x=>
  refine Κ _ (Qk.o ?_);unfold Qk.v;exact nw (cs:=[.int .i64 x]) λv hz e hb=>hR _ v e (by unfold oJ;decide +kernel)
 | put k x=>
  refine MB _ (QF.o ?_);unfold QF.v;exact nw (cs:=[.int .i64 (k:Int),.int .i64 x]) λv hz e hb=>hR _ v e (by unfold oJ;decide +kernel)
 | back=>
  refine PE _ (Qi.o ?_);unfold Qi.v;exact nw (cs:=[]) λv hz e hb=>hR _ v e (by unfold oJ;decide +kernel)
 | dF s a=>
  refine NO _ (Qm.o ?_);unfold Qm.v;exact nw (cs:=[.int .i64 s,.int .i64 a]) λv hz e hb=>hR _ v e (by unfold oJ;decide +kernel)
 | drain=>
  refine OH _ (Z5.o ?_);unfold Z5.v;exact nw (cs:=[]) λv hz e hb=>hR _ v e (by unfold oJ;decide +kernel)
def UH (H:Hw)(thread:Int):Option Ph:=if 0<=thread/\thread<(H.bR.length:Int)then(match H.bR[thread.toNat]? with
 | some g=>g.ph
 | none=>none)else none
theorem Iy (h:HH U F L H)(thread:Int){R:ByteArray->Hp->Prop}(hR:∀s σ',aF U σ'->(s.toList==(ByteArray.mk #[]).toList)=(UH H thread).isNone->R s σ'):YX.c (aW L.p) thread U R:=by
 refine YX.o ?_;unfold YX.v;have d:UH H thread=none->R (ByteArray.mk #[]) U:=λi=>hR _ U (Ext.refl _ _) (by rw[i];decide +kernel);refine Hc h (KC (λr w=>w=U/\r = !decide (0<=thread/\thread<(H.bR.length:Int))) (λr w ⟨y,A⟩=>?_) λJ C=>cD rfl (DJ h thread (C _ _ ⟨rfl,rfl⟩)));subst y;refine KC (λr B=>B=w/\r=(UH H thread).isNone) (λr B ⟨y,b⟩=>?_) λJ1 u=>?_
 .rw[y];cases i:UH H thread with
  | none=>rw[i]at b;exact cF (by rw[b];rfl) (d i)
  | some p=>
   rw[i]at b;have a:=i;unfold UH at a;split at a
   .rename_i hth;obtain⟨t,rfl⟩:∃t:Nat,thread=(t:Int):=⟨thread.toNat,O⟩;have j:t<H.bR.length:=O
    obtain⟨x,g,z,m⟩:=h.th j;rw[dH,m]at a;simp only at a;refine cD (by rw[b];rfl) (bL (h.hd.rS rfl (h.tR z m ?_)));rw[a];exact Mv p λs σ' e j=>hR s σ' e (by rw[i];exact j)
   .cases a
 .by_cases hth:0<=thread/\thread<(H.bR.length:Int)
  .obtain⟨t,rfl⟩:∃t:Nat,thread=(t:Int):=⟨thread.toNat,O⟩;have j:t<H.bR.length:=O
   obtain⟨x,g,z,m⟩:=h.th j;refine cD (by rw[A,zI hth];rfl) (bL (h.hd.rS rfl (h.tR z m ⟨wg _,u _ _ ⟨rfl,?_⟩⟩)));rw[yx];unfold UH;rw[zC hth,dH,m]
  .refine cF (by rw[A,zL hth];rfl) (u _ _ ⟨rfl,?_⟩);unfold UH;rw[zB hth];rfl
def iQ (H:Hw):Prop:=1<=H.cf.aG/\H.cf.threads=H.bR.length/\m7 H.tb
end Go.Ar
namespace Go.Ar
open Go Go.Vc Go.Proofs
open Go.Bu (fB)
variable {U u w w':Hp}{F B P Q:Rg}{L:dE}{H H':Hw}{t:Nat}{g:Th}
def SL:List Value:=[.slice none 0 0,.int .i64 0,.int .i64 0,.int .i64 0,.int .i64 0,.int .i64 0,.pointer none,.slice none 0 0,.slice none 0 0,.map none]
def Em (vh:Option Addr)(U:Hp):Prop:=vh=none\/∃n,vh=some ⟨n,0,none⟩/\bY U n SL
theorem Em.bP {vh:Option Addr}(h:Em vh U)(e:aF U w):Em vh w:=h.imp id λ⟨n,a,b⟩=>⟨n,a,e.bV b id⟩
def KO (H:Hw)(thread kind size align addr:Int)(H':Hw)(a e:Int):Prop:=
 (Vb H thread kind size align addr=.inl e/\e≠0/\H'=H/\a=0)\/∃t p n,Vb H thread kind size align addr=.inr (t,p)/\iJ n (fo H t (some p)) t p H' a e
theorem IV (hso:ot)(h:HH U F L H)(hv:m7 H.tb){thread kind size align addr:Int}{a e:Int}(hw:KO H thread kind size align addr H' a e){R:Int->Int->Hp->Prop}
 (hR:∀σ' ts',Ext F U σ'->HH σ' (Grow F U) {L with ts:=ts'} H'->R a e σ'):Yw.c (aW L.p) thread kind size align addr U R:=by
 rcases hw with⟨hs,hne,rfl,rfl⟩|⟨t,p,n,hs,hr⟩
 .exact Ip hso h hv thread kind size align addr (λi b _ σ' g d=>by
   rw[hs]at b;cases b;exact hR σ' L.ts g d) λt p b=>by rw[hs]at b;cases b
 .exact Ip hso h hv thread kind size align addr (λi b=>by rw[hs]at b;cases b) λm j b=>by
   rw[hs]at b;cases b;exact⟨n,H',a,e,hr,hR⟩
theorem I5 (hso:ot)(h:HH U F L H)(hv:m7 H.tb){thread size align:Int}{a e:Int}(hw:KO H thread 0 size align 0 H' a e){R:Int->Int->Hp->Prop}
 (hR:∀σ' ts',Ext F U σ'->HH σ' (Grow F U) {L with ts:=ts'} H'->R a e σ'):Yn.c (aW L.p) thread size align U R:=by
 refine Yn.o ?_;unfold Yn.v;exact IV hso h hv hw hR
theorem Pq (hso:ot)(h:HH U F L H)(hv:m7 H.tb){thread addr:Int}{a e:Int}(hw:KO H thread 1 0 0 addr H' a e){R:aN}
 (hR:∀σ' ts',Ext F U σ'->HH σ' (Grow F U) {L with ts:=ts'} H'->R e σ'):ZR.c (aW L.p) thread addr U R:=by
 refine ZR.o ?_;unfold ZR.v;exact IV hso h hv hw hR
def QY (H' H:Hw):Prop:=H'.tb=H.tb/\H'.cf=H.cf/\H'.bR.length=H.bR.length/\H'.bZ.length=H.bZ.length
theorem QY.refl (H:Hw):QY H H:=⟨rfl,rfl,rfl,rfl⟩
theorem QY.trans {H1 H2 H3:Hw}(a:QY H2 H1)(b:QY H3 H2):QY H3 H1:=⟨b.1.trans a.1,b.2.1.trans a.2.1,b.2.2.1.trans a.2.2.1,b.2.2.2.trans a.2.2.2⟩
theorem Vw (H:Hw)(t:Nat)(f:Th->Th):QY (H.eB t f) H:=⟨rfl,rfl,by simp[Hw.eB],rfl⟩
theorem Vt (H:Hw)(k:Nat)(A:AR)(sp:Sp):QY {H.cE k A with sp:=sp} H:=⟨rfl,rfl,rfl,by simp[Hw.cE]⟩
theorem Tw (H:Hw)(k:Nat)(part:Nat->List Int)(j:Nat):QY (VQ H k part (List.range j)) H:=by
 induction j with
 | zero=>exact QY.refl H
 | succ j ih=>
  rw[VN];split
  .split
   .exact ih
   .exact ih.trans (Vt _ _ _ _)
  .exact ih
theorem RO (H:Hw)(own k:Nat)(xs:List Int):QY (GG H own k xs) H:=by
 unfold GG;split
 .split
  .exact Vt _ _ _ H.sp
  .refine QY.trans ?_ (Tw _ _ _ _);split
   .exact Vt _ _ _ H.sp
   .exact QY.refl H
 .exact QY.refl H
theorem Pv (H:Hw)(t k:Nat)(x:Int):QY (iE H t k x) H:=by
 unfold iE;simp only;split<;>split<;>exact⟨rfl,rfl,by simp[Hw.eB,Kr],rfl⟩
theorem Tz (H:Hw)(t:Nat)(p:Ph):QY (WH H t p).1 H:=by
 cases p with
 | take k=>simp only[WH];split<;>exact⟨rfl,rfl,by simp[V3,Kr,Hw.eB,Hw.cE],by simp[V3,Kr,Hw.eB,Hw.cE]⟩
 | cJ k w=>
  simp only[WH];split
  .split
   .exact(Vt _ _ _ H.sp).trans (Vw _ _ _)
   .exact QY.refl H
  .exact QY.refl H
 | cL k w=>
  simp only[WH];split
  .exact Vt _ _ _ H.sp
  .exact(Vt _ _ _ H.sp).trans (Vw _ _ _)
 | grow k w=>simp only[WH];split<;>exact Vt _ _ _ _
 | fill=>
  simp only[WH];split
  .exact⟨rfl,rfl,by simp[V3,Kr,Hw.eB,Hw.cE],by simp[V3,Kr,Hw.eB,Hw.cE]⟩
  .exact QY.refl H
 | eT m=>simp only[WH];split<;>exact⟨rfl,rfl,by simp[V3,Kr,Hw.eB,Hw.cE],by simp[V3,Kr,Hw.eB,Hw.cE]⟩
 | find x=>
  simp only[WH,HA];split
  .exact QY.refl H
  .split
   .exact⟨rfl,rfl,rfl,rfl⟩
   .exact QY.trans (H2:={H with live:=Go.Vc.cO H.live x}) ⟨rfl,rfl,rfl,rfl⟩ (Vw _ _ _)
 | put k x=>exact Pv H t k x
 | back=>
  simp only[WH];split
  .exact(Vw _ _ _).trans (RO _ _ _ _)
  .exact QY.refl H
 | dF s a=>
  simp only[WH];split
  .exact Vt _ _ _ H.sp
  .exact QY.refl H
 | drain=>exact Vw _ _ _
theorem Ha (H:Hw)(t:Nat)(p:Ph):QY (Kd H t p) H:=(Tz H t p).trans (Vw _ _ _)
theorem FC {n:Nat}{H H':Hw}{t:Nat}{p:Ph}{a e:Int}(h:iJ n H t p H' a e):QY H' H:=by
 induction h with
 | done=>exact Ha _ _ _
 | next _ _ _ ih=>exact(Ha _ _ _).trans ih
theorem iQ.bT (h:iQ H)(k:QY H' H):iQ H':=⟨by rw[k.2.1];exact h.1,by rw[k.2.1,k.2.2.1];exact h.2.1,by rw[k.1];exact h.2.2⟩
end Go.Ar