/- Texts joined. -/
import Derived.Test.YtoeidadjhkkioaaGreatDoorU4
set_option linter.unusedVariables false
set_option linter.unusedSimpArgs false
namespace Go.Proofs
open Go.Vc
set_option maxRecDepth 100000
def Y4.h:Hn:=.q .o2 (.q .gA .l)
def Y4.v (a:R2)(b c d:Int)(e:Hp)(f:Int->Int->Hp->Prop):Prop:=Yp.c a b 0 c d 0 e λg h i=>f g h i
theorem Y4.o {a b c d e f}(g:Y4.v a b c d e f):Y4.c a b c d e f:=Wa Tryz.func22 (x:=Y4.h) (R0 g)
def Xr.h:Hn:=.q .o1 (.q .o6 .l)
def Xr.v (a:R2)(b c:Int)(d:Hp)(e:aN):Prop:=YV.c a d λf g=>YJ.c f b c g λh i=>e h i
theorem Xr.o {a b c d e}(f:Xr.v a b c d e):Xr.c a b c d e:=Wa Tryz.func29 (x:=Xr.h) (R0 f)
def YC.h:Hn:=.q .o2 (.q .o8 .l)
def YC.v (a:R2)(b:Int)(c:Hp)(d:Int->Int->Hp->Prop):Prop:=YV.c a c λe f=>Zj.c e b f λg h i=>d g h i
theorem YC.o {a b c d}(e:YC.v a b c d):YC.c a b c d:=Wa Tryz.func32 (x:=YC.h) (R0 e)
def Yp.h:Hn:=.q .o3 (.q (.q .o5 (.q .o2 (.c (.q .o3 .l) .l))) (.k (.loop [] (.k (.q (.o 11) (.q .o1 (.c (.q (.oq 6) .l) .l)))))))
def Yp.v (a:R2)(b c d e f:Int)(g:Hp)(h:Int->Int->Hp->Prop):Prop:=aV #[.I c,.I d,.I e,.I f] 104 g λi j=>aQ i 0 j λk=>aQ i 1 j λl=>aQ i 2 j λm=>aQ i 3 j λn=>Zp.c a b k l m n j λo p=>If (o != 0) (h 0 o p) (Yf [] (λq=>q p) λr s=>Zu.c a b s λt u v w x=>aV #[.I 0,.I 0] 137 x λy z=>aR y 0 (.I u) z λaa=>aR y 1 (.I v) aa λab=>If t (aQ y 0 ab λac=>aQ y 1 ab λad=>h ac ad ab) (r ab))
theorem Yp.o {a b c d e f g h}(i:Yp.v a b c d e f g h):Yp.c a b c d e f g h:=Wa Tryz.func57 (x:=Yp.h) (R0 i)
def YV.h:Hn:=.q .o1 (.q (.q .o3 .aK) (.q .o5 .l))
def YV.v (a:R2)(b:Hp)(c:Option Addr->Hp->Prop):Prop:=XP.c a b λd e=>If (!d) (c none e) (bG a 6 e λg=>c g e)
theorem YV.o {a b c}(d:YV.v a b c):YV.c a b c:=Wa Tryz.func61 (x:=YV.h) (R0 d)
def XP.h:Hn:=.q .o1 (.q (.cU (.seq [.op,.op,.op,.cX true 6 (RI.ops 6),.op])) .l)
def XP.v (a:R2)(b:Hp)(c:aO):Prop:=bX (λd e=>c d e) λf=>If (!a.isNone) (bF a 8 b λh=>f (decide (((h.len:Nat):Int)>0)) b) (f false b)
theorem XP.o {a b c}(d:XP.v a b c):XP.c a b c:=Wa Tryz.func73 (x:=XP.h) (R0 d)
def ZP.h:Hn:=.q .o1 (.q .gA .aL)
def ZP.v (a:R2)(b c:Int)(d:Hp)(e:aN):Prop:=Yp.c a b 1 0 0 c d λf g h=>e g h
theorem ZP.o {a b c d e}(f:ZP.v a b c d e):ZP.c a b c d e:=Wa Tryz.func81 (x:=ZP.h) (R0 f)
def Zp.h:Hn:=.q .o2 (.q (.k (.q .o4 (.c .aM (.q .o5 (.c .aM (.q .gA .aK)))))) (.q .o4 (.q (.q .o2 .aK) (.q .o9 .aM))))
def Zp.v (a:R2)(b c d e f:Int)(g:Hp)(h:aN):Prop:=aV #[.I c,.I d,.I e,.I f] 104 g λi j=>XP.c a j λk l=>If (!k) (h 5 l) (Yk.c a b l λm n=>If (!m) (h 1 n) (bF a 8 n λp=>Ix p.a p.len b 3 λq=>bA q 2 n λr=>And (jg r) <| If (!(kF r)) (h 5 n) (aQ i 0 n λs=>aQ i 1 n λt=>aQ i 2 n λu=>aQ i 3 n λv=>YI.c a s t u v n λw x=>And (jg w) <| If (kF w) (h 1 x) (bF a 8 x λz=>Ix z.a z.len b 3 λaa=>And (jg w) <| aR aa 2 (w) x λab=>h 0 ab))))
theorem Zp.o {a b c d e f g h}(i:Zp.v a b c d e f g h):Zp.c a b c d e f g h:=Wa Tryz.func83 (x:=Zp.h) (R0 i)
def Zu.h:Hn:=.q .o3 (.q (.k (.q .o4 (.c (.q .o4 .l) (.q .o5 (.c (.q .o4 .l) (.q .gA (.c (.q .o4 .l) .l))))))) (.q (.o 17) (.q .o9 (.q (.cU (.tail 4 (RI.ops 4) [.op,.op])) .l))))
def Zu.v (a:R2)(b:Int)(c:Hp)(d:Bool->Int->Int->Int->Hp->Prop):Prop:=aV #[.I 0,.I 0] 137 c λe f=>XP.c a f λg h=>If (!g) (aR e 0 (.I 0) h λi=>aR e 1 (.I 0) i λj=>aQ e 0 j λk=>aQ e 1 j λl=>d false k l 5 j) (Yk.c a b h λm n=>If (!m) (aR e 0 (.I 0) n λo=>aR e 1 (.I 0) o λp=>aQ e 0 p λq=>aQ e 1 p λr=>d false q r 1 p) (bF a 8 n λt=>Ix t.a t.len b 3 λu=>bA u 2 n λv=>And (jg v) <| If (kF v) (aR e 0 (.I 0) n λw=>aR e 1 (.I 0) w λx=>aQ e 0 x λy=>aQ e 1 x λz=>d false y z 5 x) (bF a 8 n λab=>Ix ab.a ab.len b 3 λac=>bA ac 2 n λad=>ZS.c a b (ad) n λae af ag ah=>aV #[.I 0,.I 0] 137 ah λai aj=>aR ai 0 (.I af) aj λak=>aR ai 1 (.I ag) ak λal=>bF a 8 al λan=>Ix an.a an.len b 3 λao=>And (jg ae) <| aR ao 2 (ae) al λap=>And (jg ae) <| aQ ai 0 ap λaq=>aQ ai 1 ap λar=>aR e 0 (.I aq) ap λau=>aR e 1 (.I ar) au λav=>aQ e 0 av λaw=>aQ e 1 av λax=>d (kF ae) aw ax 0 av)))
theorem Zu.o {a b c d}(e:Zu.v a b c d):Zu.c a b c d:=Wa Tryz.func84 (x:=Zu.h) (R0 e)
def Vj.h:Hn:=.q .o3 (.q (.k (.q .o4 (.c .aL (.q .o4 .aJ)))) (.q (.cU (.gN true [] [(6,.one .p)] (.take 0 (.take 2 (.all [(1,.all [(3,.take 4 (.all [(5,.take 6 (.done))]))]),(3,.all [(1,.take 4 (.all [(5,.take 6 (.done))]))])]))))) (.q .gA (.q (.q .o3 (.k (.loop [(36,.I)] (.q .o1 (.q (.c .l .l) (.q (.k (.q (.cU (.held true [7] (.take 0 (.take 1 (.take 2 (.take 3 (.take 4 (.take 5 (.take 6 (.all [(7,.take 8 (.take 9 (.take 10 (.take 11 (.take 12 (.done))))))])))))))))) (.o 11))) .o2)))))) (.q (.q .o3 (.k (.loop [(62,.I)] (.q .o1 (.q (.c .l .l) (.q (.k (.q .o9 (.o 12))) .o2)))))) (.q .o3 .l))))))
def Vj.v (a:Sl)(b c d e f:Int)(g:Hp)(h:Option Addr->Int->Hp->Prop):Prop:=aV #[.I b,.I c,.I d,.I e,.I f] 23 g λi j=>Z0.c a j λk l=>If (!k) (h none 2 l) (aQ i 0 l λm=>aQ i 1 l λn=>aQ i 2 l λo=>aQ i 3 l λp=>aQ i 4 l λq=>Ka.c m n o p q l λr s=>If (!r) (h none 1 s) (Jn [.p] (λ(t:R2) u=>aQ i 0 u λv=>KA.c v u λw x y=>bW t λz=>aR z 6 (.pointer w) y λaa=>aQ i 1 aa λab=>Yf [bO] (λac=>ac 0 aa) λad (ae:Int) af=>If (ae<ab) (dY af λag=>bW t λah=>aU ag ah 6 λai=>aS ag i 4 λaj=>Kz.c a ai aj af λak al am=>bF t 7 am λao=>aV #[.pointer ak] 150 am λap aq=>App ao 1 8 150 [.pointer none] ⟨some ap,1,1⟩ aq λar au=>bW t λav=>aR av 7 (.slice ar.a ar.len ar.cap) au λaw=>bM (ae+1) λax=>ad ax aw) (aQ i 2 af λay=>Yf [bO] (λaz=>az 0 af) λa0 (a1:Int) a2=>If (a1<ay) (aQ i 3 a2 λa3=>Ky.c a a3 a2 λa4 a5 a6=>bF t 8 a6 λa8=>aV #[.pointer a4,.slice none 0 0,.nilIface] 145 a6 λa9 ba=>App a8 3 48 145 [.pointer none,.slice none 0 0,.nilIface] ⟨some a9,1,1⟩ ba λbb bc=>bW t λbd=>aR bd 8 (.slice bb.a bb.len bb.cap) bc λbe=>bM (a1+1) λbf=>a0 bf be) (h t 0 a2))) λbg=>dY s λbh=>aS bh i 0 λbi=>aS bh i 1 λbj=>
 aS bh i 2 λbk=>aS bh i 3 λbl=>aS bh i 4 λbm=>(Wo.c a s λbn bo=>And (bh bo) <| Nw (.map #[] 0) bo λbp bq=>And (bh bq) <| aV #[.slice bn.a bn.len bn.cap,.I bi,.I bj,.I bk,.I bl,.I bm,.pointer none,.slice none 0 0,.slice none 0 0,.map (some bp.block)] 131 bq λbr bs=>And (bh bs) <| bg (some br) bs) ∧ (Nw (.map #[] 0) s λbt bu=>And (bh bu) <| Wo.c a bu λbv bw=>And (bh bw) <| aV #[.slice bv.a bv.len bv.cap,.I bi,.I bj,.I bk,.I bl,.I bm,.pointer none,.slice none 0 0,.slice none 0 0,.map (some bt.block)] 131 bw λbx bz=>And (bh bz) <| bg (some bx) bz)))
theorem Vj.o {a b c d e f g h}(i:Vj.v a b c d e f g h):Vj.c a b c d e f g h:=Wa Tryz.func97 (x:=Vj.h) (R0 i)
def XU.h:Hn:=.q .o2 (.q (.q .o3 .aJ) (.q (.o 12) (.q (.q .o2 .aJ) (.q .o4 .l))))
def XU.v (a:R2)(b:Int)(c:Hp)(d:Int->Int->Hp->Prop):Prop:=XP.c a c λe f=>If (!e) (d 0 5 f) (bJ a 9 f λh=>Lk .i64 (.ag 4) h b f λi=>aV #[.I 0,.I 0,.I 0,.I 0] 126 f λj k=>aR j 0 (.I ((i.getD (0,0,0,0)).1)) k λl=>aR j 1 (.I ((i.getD (0,0,0,0)).2.1)) l λm=>aR j 2 (.I ((i.getD (0,0,0,0)).2.2.1)) m λn=>aR j 3 (.I ((i.getD (0,0,0,0)).2.2.2)) n λo=>If (!i.isSome) (d 0 8 o) (aQ j 1 o λp=>d p 0 o))
theorem XU.o {a b c d}(e:XU.v a b c d):XU.c a b c d:=Wa Tryz.func99 (x:=XU.h) (R0 e)
def XS.h:Hn:=.q .o1 (.q (.q .o3 .aJ) (.q .o5 .l))
def XS.v (a:R2)(b:Hp)(c:Int->Int->Int->Int->Int->Hp->Prop):Prop:=aV #[.I 0,.I 0,.I 0,.I 0,.I 0] 23 b λd e=>XP.c a e λf g=>If (!f) (aR d 0 (.I 0) g λh=>aR d 1 (.I 0) h λi=>aR d 2 (.I 0) i λj=>aR d 3 (.I 0) j λk=>aR d 4 (.I 0) k λl=>aQ d 0 l λm=>aQ d 1 l λn=>aQ d 2 l λo=>aQ d 3 l λp=>aQ d 4 l λq=>c m n o p q l) (bW a λr=>bN ((r.add 1).add 0) g λs=>bN ((r.add 1).add 1) g λt=>bN ((r.add 1).add 2) g λu=>bN ((r.add 1).add 3) g λv=>bN ((r.add 1).add 4) g λw=>aR d 0 (.I s) g λx=>aR d 1 (.I t) x λy=>aR d 2 (.I u) y λz=>aR d 3 (.I v) z λaa=>aR d 4 (.I w) aa λab=>aQ d 0 ab λac=>aQ d 1 ab λad=>aQ d 2 ab λae=>aQ d 3 ab λaf=>aQ d 4 ab λag=>c ac ad ae af ag ab)
theorem XS.o {a b c}(d:XS.v a b c):XS.c a b c:=Wa Tryz.func106 (x:=XS.h) (R0 d)
def YZ.h:Hn:=.q .o1 (.q (.q (.cU (.seq [.op,.op,.op,.op,.cX false 4 (RI.ops 4),.op,.cX false 9 (RI.ops 9)])) .aK) (.q .gA .l))
def YZ.v (a:R2)(b:Int)(c:Hp)(d:ByteArray->Hp->Prop):Prop:=XP.c a c λe f=>bX (λg h=>bX (λi j=>If i (d (ByteArray.mk #[]) j) (bF a 8 j λl=>Ix l.a l.len b 3 λm=>bA m 2 j λn=>jh Tryz.prog n "freehold/heap.name" [] [.one .str] j fun t33 v3 =>d t33 v3)) λo=>If g (o true h) (bF a 8 h λq=>Ix q.a q.len b 3 λr=>bA r 2 h λs=>And (jg s) <| o (kF s) h)) λt=>If (!e) (t true f) (Yk.c a b f λu v=>t (!u) v)
theorem YZ.o {a b c d}(e:YZ.v a b c d):YZ.c a b c d:=Wa Tryz.func107 (x:=YZ.h) (R0 e)
def Yk.h:Hn:=.q .o1 (.q (.cU (.seq [.op,.op,.op,.cX true 7 (RI.ops 7),.op])) .l)
def Yk.v (a:R2)(b:Int)(c:Hp)(d:aO):Prop:=bX (λe f=>d e f) λg=>If (b≥0) (bF a 8 c λi=>g (decide (b<((i.len:Nat):Int))) c) (g false c)
theorem Yk.o {a b c d}(e:Yk.v a b c d):Yk.c a b c d:=Wa Tryz.func124 (x:=Yk.h) (R0 e)
def YI.h:Hn:=.q .o2 (.q (.q .o2 (.k (.q .o2 (.c (.q (.q (.cU (.seq [.op,.op,.op,.op,.cX false 3 (RI.ops 3)])) .aK) (.q (.cU (.held true [8] (.tk [0,1,2,3,4,5,6,7] (.all [(8,.tk [9,10,11,12,13] (.done))])))) (.q .o1 (.k (.q .o2 (.c (.q .o4 .l) (.q .o2 (.c (.q .o8 .l) .l)))))))) (.q .o2 (.c (.q .o5 .l) (.q .o2 (.c (.q .o3 .l) .l)))))))) .aM)
def YI.v (a:R2)(b c d e:Int)(f:Hp)(g:Value->Hp->Prop):Prop:=aV #[.I b,.I c,.I d,.I e] 104 f λh i=>aQ h 0 i λj=>If (j==0) (aQ h 1 i λk=>bX (λl m=>If l (g (.nilIface) m) (dY m λn=>bW a λo=>aT n o 0 λp=>aS n h 1 λq=>aS n h 2 λr=>QL.c p q r m λs t u=>If (t==0) (g (.iface 235 (.agg #[.I s])) u) (If (t==4) (aQ h 1 u λv=>bM (v+256) λw=>bM (w-1) λx=>Nz 256<|bM (x.tdiv 256) λy=>g (.iface 237 (.agg #[.I y])) u) (g (.nilIface) u)))) λz=>If (k<1) (z true i) (aQ h 1 i λaa=>z (decide (aa>16384)) i)) (If (j==1) (aQ h 3 i λab=>g (.iface 239 (.agg #[.I ab])) i) (If (j==2) (g (.iface 241 (.agg #[])) i) (g (.nilIface) i)))
theorem YI.o {a b c d e f g}(h:YI.v a b c d e f g):YI.c a b c d e f g:=Wa Tryz.func125 (x:=YI.h) (R0 h)
def ZS.h:Hn:=.q .o2 (.q .o7 (.q (.cU (.held true [] (.tk [0,1,2,3,4,5] (.all [(6,.take 7 (.all [(8,.take 9 (.done))]))])))) (.kO [] (.q .o1 (.k (.q .o3 (.c (.q .o2 (.q (.q (.cU (.held true [6] (.tk [0,1,2,3,4,5] (.all [(6,.tk [7,8,9,10,11] (.done))])))) (.q .o2 (.c (.q (.cU (.held true [17] (.tk [0,1,2,3,4,5,6,7,8,9,10,11,12] (.all [(13,.tk [14,15,16] (.all [(17,.done)]))])))) .l) .l))) (.q (.cU (.held true [6] (.tk [0,1,2,3,4,5] (.all [(6,.tk [7,8,9,10,11] (.done))])))) (.q .o8 .l)))) (.q .o3 (.c (.q .o2 (.kO [] (.q (.oq 12) (.c (.q .o9 (.q .o2 (.c (.q .o6 (.q .o5 .l)) .l))) .l)) (.q .o5 .l))) (.q .o3 (.c (.q .o2 (.q (.q (.o 11) (.q .o3 (.c (.q .o6 (.q .o5 .l)) .l))) (.q .o5 .l))) (.q .o3 (.c (.q .o2 (.q (.q .o5 (.q .o2 (.c (.q .o4 .l) .l))) (.q .o5 .l))) (.q .o3 (.c (.q .o2 (.q .o8 (.q .o4 (.q (.cU (.tail 9 (RI.ops 9) [.op])) (.q (.cU (.held true [20] (.tk [0,1,2,3,4,5,6,7,8,9,10,11,12,13,14,15] (.all [(16,.tk [17,18,19] (.all [(20,.done)]))])))) .l))))) (.q .o3 (.c (.q .o2 (.q .o9 (.q (.q .o2 (.c (.q .o4 .l) .l)) (.q (.o 11) .l)))) (.q .o3 (.c (.q .o2 (.q .o9 .l)) (.q .o3 (.c (.q .o2 (.kO [] (.q (.cU (.held true [8] (.tk [0,1,2,3,4,5,6,7] (.all [(8,.tk [9,10,11,12,13] (.done))])))) (.q .o3 (.c .o6 .l))) (.q .o9 (.kO [] (.q .o5 (.c (.cU (.held true [13] (.tk [0,1,2,3,4,5,6,7,8] (.all [(9,.all [(10,.take 11 (.take 12 (.all [(13,.done)])))])])))) .l)) (.q .o6 .l))))) (.q .o3 (.c (.q .o2 (.q .o8 (.q .gA (.q (.cU (.held true [5] (.take 0 (.take 1 (.take 2 (.take 4 (.all [(3,.all [(5,.done)])]))))))) (.q .o6 .l))))) (.q .o3 (.c (.q .o2 (.cU (.tail 10 (RI.ops 10) [.op]))) (.q .o3 (.c (.q .o2 (.q .o9 (.q .o6 .l))) .l)))))))))))))))))))))))) (.q .o3 .l))))
def ZS.v (a:R2)(b:Int)(c:Value)(d:Hp)(e:Value->Int->Int->Hp->Prop):Prop:=aV #[.I 0,.I 0] 137 d λf g=>bF a 8 g λi=>Ix i.a i.len b 3 λj=>dY g λk=>bW a λl=>aT k l 7 λm=>ZU.c a b g λn o=>And (k o) <| Ix m.a m.len n 1 λp=>fX p o λq=>And (k o) <| Jn [] (λr=>aR f 0 (.I 0) r λs=>aR f 1 (.I 0) s λt=>aQ f 0 t λu=>aQ f 1 t λv=>e (.nilIface) u v t) λw=>∃t52:Int,∃is:Bool,ko c 235 [.I t52] [.I 0] is ∧ (If is (aV #[.I 0] 235 o λx y=>dQ x (.I t52) y λz=>dY z λaa=>bW (some j) λab=>aU aa ab 0 λac=>aS aa x 0 λad=>Ym.c ac ad z λae af ag=>If (af==0) (dY ag λah=>bW a λai=>aT ah ai 0 λaj=>aS ah x 0 λak=>Ix aj.a aj.len ak 3 λal=>aS ah al 0 λam=>aS ah x 0 λan=>Zh.c a ae am an ag λao ap aq ar=>And (ah ar) <| aR f 0 (.I ap) ar λau=>aR f 1 (.I aq) au λav=>aQ f 0 av λaw=>aQ f 1 av λax=>e (ao) aw ax av) (dY ag λay=>bW (some j) λaz=>aU ay az 0 λa0=>aS ay x 0 λa1=>Yj.c a0 a1 ag λa2 a3 a4=>aQ x 0 a4 λa5=>aR f 0 (.I 0) a4 λa6=>aR f 1 (.I 0) a6 λa7=>aQ f 0 a7 λa8=>aQ f 1 a7 λa9=>e (.iface 245 (.agg #[.I a5,.I a2])) a8 a9 a7)) (∃t99:Int,∃t991:Int,∃is1:Bool,ko c 245 [.I t99,.I t991] [.I 0,.I 0] is1 ∧
 (If is1 (aV #[.I 0,.I 0] 245 o λba bb=>aR ba 0 (.I t99) bb λbc=>aR ba 1 (.I t991) bc λbd=>Jn [] (λbe=>aQ ba 0 be λbf=>aQ ba 1 be λbg=>aR f 0 (.I 0) be λbh=>aR f 1 (.I 0) bh λbi=>aQ f 0 bi λbj=>aQ f 1 bi λbk=>e (.iface 248 (.agg #[.I bf,.I bg])) bj bk bi) λbl=>aQ ba 1 bd λbm=>bF a 0 bd λbo=>aQ ba 0 bd λbp=>Ix bo.a bo.len bp 3 λbq=>aQ bq 2 bd λbr=>If (bm==br) (aQ ba 0 bd λbs=>WT.c q bs bd λbt bu bv=>If (bu==0) (aQ ba 0 bv λbw=>YK.c a b bw bt bv λbx=>aR f 0 (.I 0) bx λbz=>aR f 1 (.I 0) bz λb0=>aQ f 0 b0 λb1=>aQ f 1 b0 λb2=>e (.iface 247 (.agg #[])) b1 b2 b0) (bl bv)) (bl bd)) (∃t135:Int,∃t1351:Int,∃is2:Bool,ko c 248 [.I t135,.I t1351] [.I 0,.I 0] is2 ∧ (If is2 (aV #[.I 0,.I 0] 248 o λb3 b4=>aR b3 0 (.I t135) b4 λb5=>aR b3 1 (.I t1351) b5 λb6=>aQ b3 0 b6 λb7=>aQ b3 1 b6 λb8=>WZ.c q b7 b8 b6 λb9 ca cb=>If (((b9.len:Nat):Int)>0) (aQ b3 0 cb λcc=>YK.c a b cc b9 cb λcd=>aR f 0 (.I 0) cd λce=>aR f 1 (.I 0) ce λcf=>aQ f 0 cf λcg=>aQ f 1 cf λch=>e (.iface 247 (.agg #[])) cg ch cf) (aQ b3 0 cb λci=>aQ b3 1 cb λcj=>aR f 0 (.I 0) cb λck=>aR f 1 (.I 0) ck λcl=>aQ f 0 cl λcm=>aQ f 1 cl λcn=>
 e (.iface 250 (.agg #[.I ci,.I cj])) cm cn cl)) (∃t162:Int,∃t1621:Int,∃is3:Bool,ko c 250 [.I t162,.I t1621] [.I 0,.I 0] is3 ∧ (If is3 (aV #[.I 0,.I 0] 250 o λco cp=>aR co 0 (.I t162) cp λcq=>aR co 1 (.I t1621) cq λcr=>aQ co 0 cr λcs=>Yi.c q cs cr λct cu=>If (ct != 0) (aR f 0 (.I 0) cu λcv=>aR f 1 (.I ct) cv λcw=>aQ f 0 cw λcx=>aQ f 1 cw λcy=>e (.nilIface) cx cy cw) (aQ co 0 cu λcz=>aQ co 1 cu λc0=>aR f 0 (.I 0) cu λc1=>aR f 1 (.I 0) c1 λc2=>aQ f 0 c2 λc3=>aQ f 1 c2 λc4=>e (.iface 248 (.agg #[.I cz,.I c0])) c3 c4 c2)) (∃is4:Bool,ko c 247 [] [] is4 ∧ (If is4 (aV #[] 247 o λc5 c6=>bF (some j) 1 c6 λc8=>Ix c8.a c8.len 0 2 λc9=>aQ c9 0 c6 λda=>aX c9 1 c6 λdb=>aV #[.I 0,.slice none 0 0] 147 c6 λdc dd=>aR dc 0 (.I da) dd λde=>aR dc 1 (.slice db.a db.len db.cap) de λdf=>bW (some j) λdg=>aR dg 1 (.slice none 0 0) df λdh=>bG (some j) 0 dh λdj=>aQ dc 0 dh λdk=>aX dc 1 dh λdl=>fH dl 1 1 (dl.len:Nat) (dl.cap:Nat) λdm=>Yu.c dj dk dm dh λdn dp=>dY dp λdq=>aT dq dc 1 λdr=>Ix dr.a dr.len 0 1 λds=>gJ dq bO ds λ(dt:Int)=>bW a λdu=>aT dq du 0 λdv=>aS dq dc 0 λdw=>Ix dv.a dv.len dw 3 λdx=>aS dq dx 0 λdy=>
 aS dq dc 0 λdz=>Zh.c a dt dy dz dp λd0 d1 d2 d3=>And (dq d3) <| aR f 0 (.I d1) d3 λd4=>aR f 1 (.I d2) d4 λd5=>aQ f 0 d5 λd6=>aQ f 1 d5 λd7=>e (d0) d6 d7 d5) (∃t217:Int,∃is5:Bool,ko c 237 [.I t217] [.I 0] is5 ∧ (If is5 (aV #[.I 0] 237 o λd8 d9=>dQ d8 (.I t217) d9 λea=>aQ d8 0 ea λeb=>Xe.c q eb 1 ea λec ed ee=>If (ed != 0) (aR f 0 (.I 0) ee λef=>aR f 1 (.I ed) ef λeg=>aQ f 0 eg λeh=>aQ f 1 eg λei=>e (.nilIface) eh ei eg) (bM (ec*256) λej=>aQ d8 0 ee λek=>bM (ek*256) λel=>Zh.c a ej el (-1) ee λem en eo ep=>aR f 0 (.I en) ep λeq=>aR f 1 (.I eo) eq λer=>aQ f 0 er λes=>aQ f 1 er λet=>e (em) es et er)) (∃t240:Int,∃is6:Bool,ko c 239 [.I t240] [.I 0] is6 ∧ (If is6 (aV #[.I 0] 239 o λeu ev=>dQ eu (.I t240) ev λew=>aQ eu 0 ew λex=>ZQ.c a b ex ew λey ez e0 e1=>aR f 0 (.I ez) e1 λe2=>aR f 1 (.I e0) e2 λe3=>aQ f 0 e3 λe4=>aQ f 1 e3 λe5=>e (ey) e4 e5 e3) (∃t250:Int,∃t2501:Int,∃is7:Bool,ko c 255 [.I t250,.I t2501] [.I 0,.I 0] is7 ∧ (If is7 (aV #[.I 0,.I 0] 255 o λe6 e7=>aR e6 0 (.I t250) e7 λe8=>aR e6 1 (.I t2501) e8 λe9=>Jn [] (λfa=>bF (some j) 1 fa λfc=>fH fc 2 1 (fc.len:Nat) (fc.cap:Nat) λfd=>bW (some j) λfe=>aR fe 1 (.slice fd.a fd.len fd.cap) fa λff=>Jn [] (λfg=>
 Xl.c a b fg λfh fi=>aR f 0 (.I 0) fi λfj=>aR f 1 (.I 0) fj λfk=>aQ f 0 fk λfl=>aQ f 1 fk λfm=>e (fh) fl fm fk) λfn=>bG (some j) 0 ff λfp=>Yv.c fp ff λfq fr=>If fq (dY fr λfs=>bW (some j) λft=>aT fs ft 1 λfu=>bW (some j) λfv=>aU fs fv 0 λfw=>Xo.c fw fr λfx fy=>And (fs fy) <| App fu 2 32 147 [.I 0,.slice none 0 0] fx fy λfz f0=>And (fs f0) <| bW (some j) λf1=>aR f1 1 (.slice fz.a fz.len fz.cap) f0 λf2=>fn f2) (fn fr)) λf3=>dY e9 λf4=>bW (some j) λf5=>aU f4 f5 0 λf6=>aS f4 e6 0 λf7=>aS f4 e6 1 λf8=>YY.c f6 f7 f8 e9 λf9 ga gb=>If (((f9.len:Nat):Int)>0) (aQ e6 0 gb λgc=>YK.c a b gc f9 gb λgd=>f3 gd) (f3 gb)) (∃is8:Bool,ko c 258 [] [] is8 ∧ (If is8 (aV #[] 258 o λge gf=>bF (some j) 1 gf λgh=>Ix gh.a gh.len 0 2 λgi=>aQ gi 0 gf λgj=>aX gi 1 gf λgk=>aV #[.I 0,.slice none 0 0] 147 gf λgl gm=>aR gl 0 (.I gj) gm λgn=>aR gl 1 (.slice gk.a gk.len gk.cap) gn λgo=>bF (some j) 1 go λgq=>fH gq 2 1 (gq.len:Nat) (gq.cap:Nat) λgr=>WA.c gr go λgs gt=>bW (some j) λgu=>aR gu 1 (.slice gs.a gs.len gs.cap) gt λgv=>dY gv λgw=>aS gw gl 0 λgx=>aT gw gl 1 λgy=>ZU.c a b gv λgz g0=>And (gw g0) <| ZN.c a gz gx gy g0 λg1=>
 Xl.c a b g1 λg2 g3=>aR f 0 (.I 0) g3 λg4=>aR f 1 (.I 0) g4 λg5=>aQ f 0 g5 λg6=>aQ f 1 g5 λg7=>e (g2) g6 g7 g5) (∃t332:Int,∃t3321:Int,∃is9:Bool,ko c 262 [.I t332,.I t3321] [.I 0,.I 0] is9 ∧ (If is9 (aV #[.I 0,.I 0] 262 o λg8 g9=>aR g8 0 (.I t332) g9 λha=>aR g8 1 (.I t3321) ha λhb=>bF a 7 hb λhd=>aQ g8 1 hb λhe=>Ix hd.a hd.len he 1 λhf=>fX hf hb λhg=>aQ g8 0 hb λhh=>Xd.c hg hh hb λhi hj=>w hj) (∃is10:Bool,ko c 241 [] [] is10 ∧ (If is10 (aV #[] 241 o λhk hl=>bG (some j) 0 hl λhn=>X2.c hn hl λho hp=>bW (some j) λhq=>aR hq 1 (.slice ho.a ho.len ho.cap) hp λhr=>Xl.c a b hr λhs ht=>aR f 0 (.I 0) ht λhu=>aR f 1 (.I 0) hu λhv=>aQ f 0 hv λhw=>aQ f 1 hv λhx=>e (hs) hw hx hv) (w o))))))))))))))))))))))
theorem ZS.o {a b c d e}(f:ZS.v a b c d e):ZS.c a b c d e:=Wa Tryz.func126 (x:=ZS.h) (R0 f)
def Ka.h:Hn:=.q .o2 (.q (.cU (.seq [.op,.op,.op,.op,.cX true 3 (RI.ops 3),.op,.cX true 4 (RI.ops 4),.op,.cX true 3 (RI.ops 3),.op,.cX true 3 (RI.ops 3),.op,.cX true 3 (RI.ops 3),.op,.cX true 3 (RI.ops 3),.op,.cX true 3 (RI.ops 3),.op,.cX true 3 (RI.ops 3),.op,.cX true 3 (RI.ops 3),.op,.cX true 3 (RI.ops 3),.op])) .l)
def Ka.v (a b c d e:Int)(f:Hp)(g:aO):Prop:=aV #[.I a,.I b,.I c,.I d,.I e] 23 f λh i=>aQ h 0 i λj=>bX (λk l=>bX (λm n=>bX (λo p=>bX (λq r=>bX (λs t=>bX (λu v=>bX (λw x=>bX (λy z=>bX (λaa ab=>bX (λac ad=>g ac ad) λae=>If aa (aQ h 4 ab λaf=>ae (decide (af<=8)) ab) (ae false ab)) λag=>If y (aQ h 4 z λah=>ag (decide (ah≥0)) z) (ag false z)) λai=>If w (aQ h 3 x λaj=>ai (decide (aj<=65536)) x) (ai false x)) λak=>If u (aQ h 3 v λal=>ak (decide (al≥0)) v) (ak false v)) λam=>If s (aQ h 2 t λan=>am (decide (an<=4)) t) (am false t)) λao=>If q (aQ h 2 r λap=>ao (decide (ap≥1)) r) (ao false r)) λaq=>If o (aQ h 1 p λar=>aq (decide (ar<=4)) p) (aq false p)) λau=>If m (aQ h 1 n λav=>au (decide (av≥1)) n) (au false n)) λaw=>If k (aQ h 0 l λax=>Nz 16 <| aw ((ax.tmod 16)==0) l) (aw false l)) λay=>If (j≥32) (aQ h 0 i λaz=>ay (decide (az<=1024)) i) (ay false i)
theorem Ka.o {a b c d e f g}(h:Ka.v a b c d e f g):Ka.c a b c d e f g:=Wa Tryz.func152 (x:=Ka.h) (R0 h)
def ZU.h:Hn:=.q .o1 (.q .o8 .l)
def ZU.v (a:R2)(b:Int)(c:Hp)(d:aN):Prop:=bF a 7 c λf=>Nz ((f.len:Nat):Int) <| d (b.tmod ((f.len:Nat):Int)) c
theorem ZU.o {a b c d}(e:ZU.v a b c d):ZU.c a b c d:=Wa Tryz.func165 (x:=ZU.h) (R0 e)
def Zh.h:Hn:=.q .o2 (.q (.cU (.held true [12] (.tk [0,1,2,3,4,5,6,7,8,9] (.all [(10,.take 11 (.all [(12,.done)]))])))) (.q .o4 .l))
def Zh.v (a:R2)(b c d:Int)(e:Hp)(f:Value->Int->Int->Hp->Prop):Prop:=aV #[.I 0,.I 0] 137 e λg h=>dY h λi=>bW a λj=>gJ i .m (j.add 9) λ(k:Option Nat)=>Yx.c a b h λl m=>And (i m) <| kQ .i64 (.ag 4) k b (b,c,d,l) m λn=>aR g 0 (.I b) n λo=>aR g 1 (.I 0) o λp=>aQ g 0 p λq=>aQ g 1 p λr=>f (.nilIface) q r p
theorem Zh.o {a b c d e f}(g:Zh.v a b c d e f):Zh.c a b c d e f:=Wa Tryz.func167 (x:=Zh.h) (R0 g)
def YK.h:Hn:=.cU (.held true [20] (.tk [0,1,2,3,4,5,6,7,8,9,10,11,12,13,14,15] (.all [(16,.all [(17,.take 18 (.take 19 (.all [(20,.done)])))])])))
def YK.v (a:R2)(b c:Int)(d:Sl)(e:Hp)(f:aP):Prop:=dY e λg=>bW a λh=>aT g h 8 λi=>bW a λj=>aT g j 8 λk=>Ix k.a k.len b 3 λl=>aT g l 1 λm=>aV #[.I c,.slice d.a d.len d.cap] 147 e λn o=>And (g o) <| App m 2 32 147 [.I 0,.slice none 0 0] ⟨some n,1,1⟩ o λp q=>And (g q) <| Ix i.a i.len b 3 λr=>aR r 1 (.slice p.a p.len p.cap) q λs=>f s
theorem YK.o {a b c d e f}(g:YK.v a b c d e f):YK.c a b c d e f:=Wa Tryz.func170 (x:=YK.h) (R0 g)
def ZQ.h:Hn:=.q .o2 (.q (.o 12) (.q (.q .o2 (.c (.kO [] (.q .o4 (.q .o2 (.c (.q (.o 16) (.q (.cU (.seq [.op,.op,.op,.cX true 2 [.op,.op],.op,.cX true 3 (RI.ops 3)])) (.c (.q .o3 .l) .l))) .l))) (.q .o3 .l)) .l)) (.q .o6 (.q (.q .o3 (.c (.q .o9 .l) .l)) (.q .o7 (.q .o8 .l))))))
def ZQ.v (a:R2)(b c:Int)(d:Hp)(e:Value->Int->Int->Hp->Prop):Prop:=aV #[.I 0,.I 0] 137 d λf g=>bJ a 9 g λi=>Lk .i64 (.ag 4) i c g λj=>aV #[.I 0,.I 0,.I 0,.I 0] 126 g λk l=>aR k 0 (.I ((j.getD (0,0,0,0)).1)) l λm=>aR k 1 (.I ((j.getD (0,0,0,0)).2.1)) m λn=>aR k 2 (.I ((j.getD (0,0,0,0)).2.2.1)) n λo=>aR k 3 (.I ((j.getD (0,0,0,0)).2.2.2)) o λp=>If (!j.isSome) (Jn [] (λq=>aR f 0 (.I 0) q λr=>aR f 1 (.I 8) r λs=>aQ f 0 s λt=>aQ f 1 s λu=>e (.nilIface) t u s) λv=>Yx.c a c p λw x=>If (w≥0) (bF a 7 x λz=>Ix z.a z.len w 1 λaa=>fX aa x λab=>Za.c ab c x λac ad ae af=>bX (λag ah=>bX (λai aj=>If ai (aR f 0 (.I 0) aj λak=>aR f 1 (.I 9) ak λal=>aQ f 0 al λam=>aQ f 1 al λan=>e (.nilIface) am an al) (v aj)) λao=>If ag (ao (ad==c) ah) (ao false ah)) λap=>If (ae==0) (ap (decide (ac≥0)) af) (ap false af)) (v x)) (bJ a 9 p λar=>mj .i64 (.ag 4) ar c p λau=>aQ k 2 au λav=>If (av<0) (Nz 256<|bM (c.tdiv 256) λaw=>aQ k 3 au λax=>aR f 0 (.I 0) au λay=>aR f 1 (.I 0) ay λaz=>aQ f 0 az λa0=>aQ f 1 az λa1=>e (.iface 262 (.agg #[.I aw,.I ax])) a0 a1 az) (aQ k 2 au λa2=>aV #[.I c] 3 au λa3 a4=>YK.c a b a2 ⟨some a3,1,1⟩ a4 λa5=>aQ k 2 a5 λa6=>aR f 0 (.I 0) a5 λa7=>
 aR f 1 (.I 0) a7 λa8=>aQ f 0 a8 λa9=>aQ f 1 a8 λba=>e (.iface 255 (.agg #[.I a6,.I c])) a9 ba a8))
theorem ZQ.o {a b c d e}(f:ZQ.v a b c d e):ZQ.c a b c d e:=Wa Tryz.func175 (x:=ZQ.h) (R0 f)
def Xl.h:Hn:=.q .o1 (.q (.q .gA .aK) (.q .o3 .l))
def Xl.v (a:R2)(b:Int)(c:Hp)(d:Value->Hp->Prop):Prop:=bF a 8 c λf=>Ix f.a f.len b 3 λg=>aX g 1 c λh=>If (((h.len:Nat):Int)==0) (d (.nilIface) c) (d (.iface 258 (.agg #[])) c)
theorem Xl.o {a b c d}(e:Xl.v a b c d):Xl.c a b c d:=Wa Tryz.func179 (x:=Xl.h) (R0 e)
def ZN.h:Hn:=.q .o1 (.q .o7 (.q (.q .o4 (.k (.loop [(23,.I)] (.q .o1 (.q (.c .l .l) (.q (.k (.q .o3 (.q .o4 (.o 11)))) .o2)))))) (.kO [] (.q (.oq 9) (.c (.q (.cU (.held true [] (.tk [0,1,2,3,4,5,6,7,8,9,10] (.all [(11,.tk [12,13,14,15,16] (.done))])))) (.q (.cU (.seq [.op,.op,.cX true 2 [.op,.op]])) (.c .l .l))) .l)) (.q .o3 (.k (.loop [(72,.I)] (.q .o1 (.q (.c .l .l) (.q (.k (.q .o5 (.q .o3 (.c (.cU (.tail 10 (RI.ops 10) [.op])) .l)))) .o2)))))))))
def ZN.v (a:R2)(b c:Int)(d:Sl)(e:Hp)(f:aP):Prop:=aV #[.I c,.slice d.a d.len d.cap] 147 e λg h=>bW a λi=>aX i 7 h λj=>Mk ((j.len:Nat):Int) ((j.len:Nat):Int) 24 31 [.slice none 0 0] h λk l=>aX g 1 l λm=>Yf [bO] (λn=>n 0 l) λo (p:Int) q=>If (p<((m.len:Nat):Int)) (Ix m.a m.len p 1 λr=>bN r q λs=>Yx.c a s q λt u=>Ix k.a k.len t 1 λv=>jH v u λw=>aV #[.I s] 3 u λx y=>App w 1 8 3 [.I 0] ⟨some x,1,1⟩ y λz aa=>Ix k.a k.len t 1 λab=>dQ ab (.slice z.a z.len z.cap) aa λac=>bM (p+1) λad=>o ad ac) (Jn [] (λae=>Yf [bO] (λaf=>af 0 ae) λag (ah:Int) ai=>If (ah<((k.len:Nat):Int)) (Ix k.a k.len ah 1 λaj=>jH aj ai λak=>If (((ak.len:Nat):Int)>0) (bF a 7 ai λam=>Ix am.a am.len ah 1 λan=>fX an ai λao=>aQ g 0 ai λap=>Xc.c ao ap ak ai λaq ar=>bM (ah+1) λau=>ag au ar) (bM (ah+1) λav=>ag av ai)) (f ai)) λaw=>Ix k.a k.len b 1 λax=>jH ax q λay=>aX g 1 q λaz=>If (((ay.len:Nat):Int)==((az.len:Nat):Int)) (dY q λa0=>bW a λa1=>aT a0 a1 7 λa2=>Ix a2.a a2.len b 1 λa3=>gJ a0 .p a3 λ(a4:R2)=>aS a0 g 0 λa5=>aT a0 g 1 λa6=>W6.c a4 a5 a6 q λa7 a8 a9=>And (a0 a9) <| bX (λba bb=>If ba (f bb) (aw bb)) λbc=>If a7 (bc (a8==0) a9) (bc false a9)) (aw q))
theorem ZN.o {a b c d e f}(g:ZN.v a b c d e f):ZN.c a b c d e f:=Wa Tryz.func181 (x:=ZN.h) (R0 g)
def Yx.h:Hn:=.q .o2 (.q (.q .o2 .aK) (.q .o7 .l))
def Yx.v (a:R2)(b:Int)(c:Hp)(d:aN):Prop:=aV #[.I b] 3 c λe f=>bN e f λg=>If (g<0) (d (-1) f) (bF a 7 f λi=>Wr.c i ⟨283,#[],#[.pointer (some e)]⟩ f λj k=>d j k)
theorem Yx.o {a b c d}(e:Yx.v a b c d):Yx.c a b c d:=Wa Tryz.func230 (x:=Yx.h) (R0 e)
def Zo.h:Hn:=.q .o1 (.q .o5 .l)
def Zo.v (a:R2)(b:Addr)(c:Hp)(d:aO):Prop:=bN b c λe=>Nz 256<|bM (e.tdiv 256) λf=>Y5.c a f c λg h=>d g h
theorem Zo.o {a b c d}(e:Zo.v a b c d):Zo.c a b c d:=Wa Tryz.func283 (x:=Zo.h) (R0 e)
def Qk.h:Hn:=.q .o2 .aM
def Qk.v (a:Int)(b:Hp)(c:ByteArray->Hp->Prop):Prop:=aV #[.I a] 235 b λd e=>c (ByteArray.mk #[116,97,107,101]) e
theorem Qk.o {a b c}(d:Qk.v a b c):Qk.c a b c:=Wa Tryz.func379 (x:=Qk.h) (R0 d)
def Z6.h:Hn:=.q .o2 .aM
def Z6.v (a:Int)(b:Hp)(c:ByteArray->Hp->Prop):Prop:=aV #[.I a] 237 b λd e=>c (ByteArray.mk #[108,97,114,103,101]) e
theorem Z6.o {a b c}(d:Z6.v a b c):Z6.c a b c:=Wa Tryz.func380 (x:=Z6.h) (R0 d)
def Qt.h:Hn:=.q .o2 .aM
def Qt.v (a:Int)(b:Hp)(c:ByteArray->Hp->Prop):Prop:=aV #[.I a] 239 b λd e=>c (ByteArray.mk #[102,105,110,100]) e
theorem Qt.o {a b c}(d:Qt.v a b c):Qt.c a b c:=Wa Tryz.func381 (x:=Qt.h) (R0 d)
def Z7.h:Hn:=.q .o2 .aM
def Z7.v (a:Hp)(b:ByteArray->Hp->Prop):Prop:=aV #[] 241 a λc d=>b (ByteArray.mk #[100,114,97,105,110]) d
theorem Z7.o {a b}(c:Z7.v a b):Z7.c a b:=Wa Tryz.func382 (x:=Z7.h) (R0 c)
def Zn.h:Hn:=.q .o2 .aM
def Zn.v (a b:Int)(c:Hp)(d:ByteArray->Hp->Prop):Prop:=aV #[.I a,.I b] 245 c λe f=>d (ByteArray.mk #[116,114,97,110,115,102,101,114]) f
theorem Zn.o {a b c d}(e:Zn.v a b c d):Zn.c a b c d:=Wa Tryz.func383 (x:=Zn.h) (R0 e)
def Qi.h:Hn:=.q .o2 .aM
def Qi.v (a:Hp)(b:ByteArray->Hp->Prop):Prop:=aV #[] 247 a λc d=>b (ByteArray.mk #[102,105,108,108]) d
theorem Qi.o {a b}(c:Qi.v a b):Qi.c a b:=Wa Tryz.func384 (x:=Qi.h) (R0 c)
def ZI.h:Hn:=.q .o2 .aM
def ZI.v (a b:Int)(c:Hp)(d:ByteArray->Hp->Prop):Prop:=aV #[.I a,.I b] 248 c λe f=>d (ByteArray.mk #[99,101,110,116,114,97,108]) f
theorem ZI.o {a b c d}(e:ZI.v a b c d):ZI.c a b c d:=Wa Tryz.func385 (x:=ZI.h) (R0 e)
def Qo.h:Hn:=.q .o2 .aM
def Qo.v (a b:Int)(c:Hp)(d:ByteArray->Hp->Prop):Prop:=aV #[.I a,.I b] 250 c λe f=>d (ByteArray.mk #[103,114,111,119]) f
theorem Qo.o {a b c d}(e:Qo.v a b c d):Qo.c a b c d:=Wa Tryz.func386 (x:=Qo.h) (R0 e)
def QH.h:Hn:=.q .o2 .aM
def QH.v (a b:Int)(c:Hp)(d:ByteArray->Hp->Prop):Prop:=aV #[.I a,.I b] 255 c λe f=>d (ByteArray.mk #[112,117,116]) f
theorem QH.o {a b c d}(e:QH.v a b c d):QH.c a b c d:=Wa Tryz.func387 (x:=QH.h) (R0 e)
def Qm.h:Hn:=.q .o2 .aM
def Qm.v (a:Hp)(b:ByteArray->Hp->Prop):Prop:=aV #[] 258 a λc d=>b (ByteArray.mk #[98,97,99,107]) d
theorem Qm.o {a b}(c:Qm.v a b):Qm.c a b:=Wa Tryz.func388 (x:=Qm.h) (R0 c)
def Qh.h:Hn:=.q .o2 .aM
def Qh.v (a b:Int)(c:Hp)(d:ByteArray->Hp->Prop):Prop:=aV #[.I a,.I b] 262 c λe f=>d (ByteArray.mk #[103,105,118,101]) f
theorem Qh.o {a b c d}(e:Qh.v a b c d):Qh.c a b c d:=Wa Tryz.func389 (x:=Qh.h) (R0 e)
end Go.Proofs
namespace Go.Ar
open Go Go.Vc Go.Proofs
def nr:Option Ph->Value
 | none=>.nilIface
 | some (.take k)=>.iface 235 (.agg #[.int .i64 (k:Int)])
 | some (.cJ k w)=>.iface 245 (.agg #[.int .i64 (k:Int),.int .i64 (w:Int)])
 | some (.cL k w)=>.iface 248 (.agg #[.int .i64 (k:Int),.int .i64 (w:Int)])
 | some (.grow k w)=>.iface 250 (.agg #[.int .i64 (k:Int),.int .i64 (w:Int)])
 | some .fill=>.iface 247 (.agg #[])
 | some (.eP m)=>.iface 237 (.agg #[.int .i64 (m:Int)])
 | some (.find x)=>.iface 239 (.agg #[.int .i64 x])
 | some (.put k x)=>.iface 255 (.agg #[.int .i64 (k:Int),.int .i64 x])
 | some .back=>.iface 258 (.agg #[])
 | some (.dG s a)=>.iface 262 (.agg #[.int .i64 s,.int .i64 a])
 | some .drain=>.iface 241 (.agg #[])
theorem vH (p:Option Ph):jg (nr p):=by
 cases p with
 | none=>exact .inl rfl
 | some p=>cases p<;>exact .inr ⟨_,_,rfl⟩
theorem xS (p:Option Ph):kF (nr p)=p.isNone:=by
 cases p with
 | none=>rfl
 | some p=>cases p<;>rfl
inductive kZ where
 | hd|dF|sp|fU|cS|live
 | ar (k:Nat)
 | ca (k:Nat)
 | hn (k:Nat)
 deriving DecidableEq
structure eR where
 c:hU
 h:Sl
structure dE where
 p:Nat
 hs:Nat
 lm:Nat
 dF:Sl
 fU:Sl
 cS:Sl
 ys:List Lay
 ts:List eR
def Ay (L:dE)(c:Cf):List Value:=[.slice L.dF.a L.dF.len L.dF.cap,.int .i64 (c.aG:Int),.int .i64 (c.ic:Int),.int .i64 (c.threads:Int),.int .i64 (c.dD:Int),.int .i64 (c.room:Int),
 .pointer (some ⟨L.hs,0,none⟩),.slice L.fU.a L.fU.len L.fU.cap,.slice L.cS.a L.cS.len L.cS.cap,.map (some L.lm)]
def jJ (x:eR×Th):List Value:=[.pointer (some ⟨x.1.c.p,0,none⟩),.slice x.1.h.a x.1.h.len x.1.h.cap,nr x.2.ph]
def ia (ts:List eR)(bR:List Th):List Value:=(ts.zip bR).flatMap jJ
theorem GF:∀{ts:List eR} {bR:List Th},ts.length=bR.length->(ia ts bR).length=bR.length*3
 | [],[],_=>rfl
 | x::ts,h::bR,e=>by
  have e1:ia (x::ts) (h::bR)=jJ (x,h)++ia ts bR:=rfl;have a:(jJ (x,h)).length=3:=rfl;rw[e1,zK,GF (by simpa using e),a,zS];omega
 | [],_::_,e=>by simp at e
 | _::_,[],e=>by simp at e
theorem CJ:∀{ts:List eR} {bR:List Th} {i:Nat} {x:eR} {h:Th},ts[i]?=some x->bR[i]?=some h->∀{d:Nat},d<3->(ia ts bR)[3*i+d]?=(jJ (x,h))[d]?
 | [],_,_,_,_,h1,_,_,_=>by simp at h1
 | _::_,[],_,_,_,_,h2,_,_=>by simp at h2
 | y::ts,g::bR,0,x,h,h1,h2,d,hd=>by
  have e1:ia (y::ts) (g::bR)=jJ (y,g)++ia ts bR:=rfl;have a:(jJ (y,g)).length=3:=rfl;simp at h1 h2;subst h1;subst h2;rw[e1,zd O];congr 1;omega
 | y::ts,g::bR,i+1,x,h,h1,h2,d,hd=>by
  have e1:ia (y::ts) (g::bR)=jJ (y,g)++ia ts bR:=rfl;have a:(jJ (y,g)).length=3:=rfl;rw[e1,zr O,a,show 3*(i+1)+d-3=3*i+d by omega];exact CJ (by simpa using h1) (by simpa using h2) hd
theorem Ae:∀{ts:List eR} {bR:List Th} {i:Nat} {x:eR} {h:Th},ts[i]?=some x->bR[i]?=some h->∀{d:Nat} {v:Value} {x':eR} {h':Th},d<3->jJ (x',h')=(jJ (x,h)).set d v →
 (ia ts bR).set (3*i+d) v=ia (ts.set i x') (bR.set i h')
 | [],_,_,_,_,h1,_,_,_,_,_,_,_=>by simp at h1
 | _::_,[],_,_,_,_,h2,_,_,_,_,_,_=>by simp at h2
 | y::ts,g::bR,0,x,h,h1,h2,d,v,x',h',hd,e=>by
  have e1:ia (y::ts) (g::bR)=jJ (y,g)++ia ts bR:=rfl;have e2:ia ((y::ts).set 0 x') ((g::bR).set 0 h')=jJ (x',h')++ia ts bR:=rfl;have a:(jJ (y,g)).length=3:=rfl;simp at h1 h2;subst h1;subst h2;rw[e1,e2,List.set_append_left _ _ O,e,show 3*0+d=d by omega]
 | y::ts,g::bR,i+1,x,h,h1,h2,d,v,x',h',hd,e=>by
  have e1:ia (y::ts) (g::bR)=jJ (y,g)++ia ts bR:=rfl;have e2:ia ((y::ts).set (i+1) x') ((g::bR).set (i+1) h')=jJ (y,g)++ia (ts.set i x') (bR.set i h'):=rfl;have a:(jJ (y,g)).length=3:=rfl;rw[e1,e2,C3 _ _ O,a,show 3*(i+1)+d-3=3*i+d by omega];rw[Ae (by simpa using h1) (by simpa using h2) hd e]
def oE (y:Option Lay)(a:Option AR):Hp->Rg->Prop:=λU F=>match y,a with
 | some Y,some A=>dJ U F Y A (cM A Y)
 | _,_=>True
def qV (x:Option eR)(h:Option Th)(tb:List cA)(bud:Nat):Hp->Rg->Prop:=λU F=>match x,h with
 | some x,some h=>eN U F x.c tb bud h.ls
 | _,_=>True
def qy (x:Option eR)(h:Option Th):Hp->Rg->Prop:=λU F=>match x,h with
 | some x,some h=>iz x.h h.bQ U F
 | _,_=>True
def CH (H:Hw)(L:dE):kZ->Hp->Rg->Prop
 | .hd=>iy L.p (Ay L H.cf)
 | .dF=>cV L.dF 3 (gH H.tb)
 | .sp=>λU F=>dO U F L.hs H.sp
 | .fU=>cV L.fU 1 (fO (L.ys.map (·.p)))
 | .cS=>bT L.cS 3 (ia L.ts H.bR)
 | .live=>jM L.lm .i64 (.ag 4) H.live
 | .ar k=>oE L.ys[k]? H.bZ[k]?
 | .ca t=>qV L.ts[t]? H.bR[t]? H.tb H.cf.dD
 | .hn t=>qy L.ts[t]? H.bR[t]?
theorem oE.loc (y:Option Lay)(a:Option AR):dN (oE y a):=by
 intro U σ' F G h hz hs;unfold oE at *;split at h
 ·exact dJ.loc _ _ _ _ h hz hs
 ·trivial
theorem qV.loc (x:Option eR)(h:Option Th)(tb:List cA)(bud:Nat):dN (qV x h tb bud):=by
 intro U σ' F G h hz hs;unfold qV at *;split at h
 ·exact eN.loc _ _ _ _ h hz hs
 ·trivial
theorem qy.loc (x:Option eR)(h:Option Th):dN (qy x h):=by
 intro U σ' F G h hz hs;unfold qy at *;split at h
 ·exact iz.loc _ _ _ _ _ _ h hz hs
 ·trivial
theorem CH.loc {H:Hw}{L:dE}:∀i,dN (CH H L i)
 | .hd=>iy.loc _ _
 | .dF=>cV.loc _ _ _
 | .sp=>dO.loc
 | .fU=>cV.loc _ _ _
 | .cS=>bT.loc _ _ _
 | .live=>jM.loc _ _ _ _
 | .ar k=>oE.loc _ _
 | .ca t=>qV.loc _ _ _ _
 | .hn t=>qy.loc _ _
structure HS (L:dE) (H:Hw):Prop where
 ys:L.ys.length=H.bZ.length
 hs:∀Y∈L.ys,Y.hs=L.hs
 ts:L.ts.length=H.bR.length
 a1:1<=H.bZ.length
 a2:H.bZ.length<=4
 t1:1<=H.bR.length
 t2:H.bR.length<=4
 tb:∀A∈H.bZ,A.tb=H.tb
structure HH (U:Hp) (F:Rg) (L:dE) (H:Hw):Prop where
 s:HS L H
 sep:Sep (CH H L) U F
 g:Gl U
 gd:Gd U
 o:jd F
 o2:¬F 1
variable {U:Hp}{F:Rg}{L:dE}{H:Hw}{t k:Nat}
theorem HH.bP (h:HH U F L H){σ':Hp}(e:aF U σ'):HH σ' F L H:=⟨h.s,(Sep.loc CH.loc).bP h.sep e,h.g.bP e,h.gd.bP e,h.o,h.o2⟩
theorem HH.bS (h:HH U F L H){σ':Hp}{T:Rg}(e:Ext T U σ')(hT:∀b,b<U.size->F b->¬T b)(hg:jd T)(hg2:¬T 1):HH σ' F L H:=⟨h.s,(Sep.loc CH.loc).bS h.sep e hT,h.g.bS e hg,h.gd.bS e hg2,h.o,h.o2⟩
theorem Bo {U:Hp}(g:Gd U):1<U.size:=g.lt
theorem HH.mono (h:HH U F L H){G:Rg}(hs:∀b,b<U.size->F b->G b)(o:jd G)(o2:¬G 1):HH U G L H:=⟨h.s,(Sep.loc CH.loc).mono h.sep hs,h.g,h.gd,o,o2⟩
theorem HH.oG (h:HH U F L H):jd (Grow F U):=h.o.grow h.g
theorem HH.sk (h:HH U F L H):¬Grow F U 1:=λa=>by
 rcases a with a|a
 ·exact h.o2 a
 ·have:=Bo h.gd;omega
theorem HH.sub (h:HH U F L H){G:Rg}(hs:∀b,b<U.size->F b->G b)(hg:∀b,G b->F b\/U.size<=b):HH U G L H:=
 h.mono hs (h.oG.sub hg) λa=>h.sk (hg _ a)
theorem HH.xd {v v':Hp}{G T:Rg}{L0:dE}{H0:Hw}(h0:HH U F L0 H0)(h:HH v G L H)(e:Ext T v v')(hT:∀b,T b->U.size<=b)(hG:∀b,b<v.size->G b->¬T b):HH v' G L H:=
 h.bS e hG (h0.oG.sub λb a=>.inr (hT b a)) λa=>h0.sk (.inr (hT _ a))
theorem HH.grown {σ':Hp}{R:Rg}{L':dE}{H':Hw}(h:HH U F L H)(h':HH σ' R L' H')(hr:∀b,b<σ'.size->R b->Grow F U b):HH σ' (Grow F U) L' H':=h'.mono hr h.oG h.sk
theorem HH.cut (h:HH U F L H):HH U (Cut F U) L H:=h.sub (λb a d=>⟨d,a⟩) λb a=>.inl a.1
theorem HH.l8 (h:HH U F L H)(i:kZ):∃G:Rg,(∀b,G b->F b)/\CH H L i U G/\(∀j,j≠i->∃D:Rg,(∀b,D b->F b)/\(∀b,D b->¬G b)/\CH H L j U D) ∧
 ∀(σ':Hp) (H':Hw) (L':dE) (G':Rg),HS L' H'->(∀j,j≠i->CH H' L' j=CH H L j)->Ext G U σ'->(∀b,G' b->Grow G U b)->CH H' L' i σ' G' →
  Ext F U σ'/\HH σ' (λb=>F b/\b<U.size/\¬G b\/G' b) L' H':=by
 obtain⟨G,r,hi,hd,d⟩:=h.sep.j5 CH.loc i;refine⟨G,r,hi,hd,λσ' H' L' G' w u e s x=>?_⟩;have p:=e.sub r;have m:∀b,(F b/\b<U.size/\¬G b\/G' b)->Grow F U b:=λb a=>by
  rcases a with a|a
  ·exact .inl a.1
  ·exact(s b a).imp (r b) id
 refine⟨p,w,d σ' (CH H' L') G' u e s x (CH.loc _),h.g.bS p h.o,h.gd.bS p h.o2,λb a=>(h.o.grow h.g) b (m b a),λa=>?_⟩;rcases m _ a with h1|h1
 ·exact h.o2 h1
 ·have:=Bo h.gd;omega
theorem _root_.Go.Vc.Sep.uq {L:Type}{C:L->Hp->Rg->Prop}{U:Hp}{F:Rg}(hC:∀i,dN (C i))(h:Sep C U F)(i j:L)(hij:i≠j)(N:Rg)(hN:∀b,b<U.size->F b->¬N b):∃G D:Rg,(∀b,G b->F b)/\(∀b,D b->F b)/\(∀b,G b->¬D b)/\C i U G/\C j U D/\(∀m,m≠i->m≠j->∃E:Rg,(∀b,E b->F b)/\(∀b,E b->¬(G b\/D b))/\C m U E) ∧
 ∀(σ':Hp) (C':L->Hp->Rg->Prop) (G' D':Rg),(∀k,k≠i->k≠j->C' k=C k)->Ext (λb=>G b\/D b) U σ'->(∀b,G' b->(G b\/D b)\/N b)->(∀b,D' b->(G b\/D b)\/N b)->(∀b,G' b->¬D' b)->C' i σ' G'->C' j σ' D'->(∀k,dN (C' k)) →
 Sep C' σ' λb=>F b/\b<U.size/\¬(G b\/D b)\/G' b\/D' b:=by
 obtain⟨ρ,h⟩:=h
 let G:Rg:=λb=>F b/\ρ b=i
 let D:Rg:=λb=>F b/\ρ b=j
 refine⟨G,D,λb a=>a.1,λb a=>a.1,λb w x=>hij (w.2.symm.trans x.2),h i,h j,λm w x=>⟨λb=>F b/\ρ b=m,λb a=>a.1,λb a d=>d.elim (λu=>w (a.2.symm.trans u.2)) λu=>x (a.2.symm.trans u.2),h m⟩,λσ' C' G' D' z e B A hd hi H y=>?_⟩
 open Classical in
 refine⟨λb=>if G' b then i else if D' b then j else ρ b,λk=>?_⟩
 by_cases hki:k=i
 ·subst hki;exact(y _).mono hi λb _ a=>⟨.inr (.inl a),zC a⟩
 by_cases hkj:k=j
 ·subst hkj;exact(y _).mono H λb _ a=>⟨.inr (.inr a),by show(if G' b then i else if D' b then k else ρ b)=k;rw[zB λd=>hd b d a,zC a]⟩
 ·rw[z k hki hkj];refine hC k _ _ _ _ (h k) e.1 λb a g=>?_;have s:¬(G b\/D b):=by
   rintro(d|d)
   ·exact hki (g.2.symm.trans d.2)
   ·exact hkj (g.2.symm.trans d.2)
  have r:¬G' b:=λd=>(B b d).elim s (hN b a g.1);have p:¬D' b:=λd=>(A b d).elim s (hN b a g.1);exact⟨⟨.inl ⟨g.1,a,s⟩,by show(if G' b then i else if D' b then j else ρ b)=k;rw[zB r,zB p];exact g.2⟩,e.2 b a s⟩
theorem HH.pR (h:HH U F L H)(i j:kZ)(hij:i≠j)(N:Rg)(hN:∀b,b<U.size->F b->¬N b)(oN:jd N)(oN2:¬N 1):∃G D:Rg,(∀b,G b->F b)/\(∀b,D b->F b)/\(∀b,G b->¬D b)/\CH H L i U G/\CH H L j U D/\(∀m,m≠i->m≠j->∃E:Rg,(∀b,E b->F b)/\(∀b,E b->¬(G b\/D b))/\CH H L m U E) ∧
 ∀(σ':Hp) (H':Hw) (L':dE) (G' D':Rg),HS L' H'->(∀m,m≠i->m≠j->CH H' L' m=CH H L m)->Ext (λb=>G b\/D b) U σ'->(∀b,G' b->(G b\/D b)\/N b)->(∀b,D' b->(G b\/D b)\/N b)->(∀b,G' b->¬D' b)->CH H' L' i σ' G'->CH H' L' j σ' D' →
  Ext F U σ'/\HH σ' (λb=>F b/\b<U.size/\¬(G b\/D b)\/G' b\/D' b) L' H':=by
 obtain⟨G,D,u,s,hd,hi,K,p,d⟩:=h.sep.uq CH.loc i j hij N hN;refine⟨G,D,u,s,hd,hi,K,p,λσ' H' L' G' D' B M e A z x C J=>?_⟩;have w:Ext F U σ':=e.sub λb a=>a.elim (u b) (s b);have r:∀b,(F b/\b<U.size/\¬(G b\/D b)\/G' b\/D' b)->F b\/N b:=λb a=>by
  rcases a with a|a|a
  ·exact .inl a.1
  ·exact(A b a).imp (λy=>y.elim (u b) (s b)) id
  ·exact(z b a).imp (λy=>y.elim (u b) (s b)) id
 refine⟨w,B,d σ' (CH H' L') G' D' M e A z x C J CH.loc,h.g.bS w h.o,h.gd.bS w h.o2,λb a=>(r b a).elim (h.o b) (oN b),λa=>?_⟩;exact(r _ a).elim h.o2 oN2
theorem HH.mK (h:HH U F L H):jd (λb=>U.size<=b)/\¬(U.size<=1):=⟨h.oG.sub λb a=>.inr a,λa=>h.sk (.inr a)⟩
theorem HH.oM (h:HH U F L H)(i j:kZ)(hij:i≠j):∃G D:Rg,(∀b,G b->F b)/\(∀b,D b->F b)/\(∀b,G b->¬D b)/\CH H L i U G/\CH H L j U D/\(∀m,m≠i->m≠j->∃E:Rg,(∀b,E b->F b)/\(∀b,E b->¬(G b\/D b))/\CH H L m U E) ∧
 ∀(σ':Hp) (H':Hw) (L':dE) (G' D':Rg),HS L' H'->(∀m,m≠i->m≠j->CH H' L' m=CH H L m)->Ext (λb=>G b\/D b) U σ'->(∀b,G' b->(G b\/D b)\/U.size<=b)->(∀b,D' b->(G b\/D b)\/U.size<=b)->(∀b,G' b->¬D' b)->CH H' L' i σ' G'->CH H' L' j σ' D' →
  Ext F U σ'/\HH σ' (λb=>F b/\b<U.size/\¬(G b\/D b)\/G' b\/D' b) L' H':=
 h.pR i j hij _ (λb a _=>O) h.mK.1 h.mK.2
theorem HH.hd (h:HH U F L H):bY U L.p (Ay L H.cf):=by obtain⟨G,b,a⟩:=h.sep.get .hd;exact a.2
theorem HH.jS (h:HH U F L H):cV L.dF 3 (gH H.tb) U F:=by
 obtain⟨G,d,a⟩:=h.sep.get .dF;exact aH.mono a λb _ a=>d b a
theorem HH.pt (h:HH U F L H):L.dF.len=H.tb.length:=by
 have:=h.jS.1;rw[Ux]at this;omega
theorem HH.na (h:HH U F L H):cV L.fU 1 (fO (L.ys.map (·.p))) U F:=by
 obtain⟨G,d,a⟩:=h.sep.get .fU;exact aH.mono a λb _ a=>d b a
theorem HH.np (h:HH U F L H):L.fU.len=H.bZ.length:=by
 have:=h.na.1;have:=h.s.ys;simp[fO]at *;omega
theorem HH.m9 (h:HH U F L H):cV L.cS 3 (ia L.ts H.bR) U F:=by
 obtain⟨G,d,a⟩:=h.sep.get .cS;exact aH.mono (bT.fW a) λb _ a=>d b a
theorem HH.mq (h:HH U F L H):L.cS.len=H.bR.length:=by
 have:=h.m9.1;rw[GF h.s.ts]at this;omega
theorem HH.ng (h:HH U F L H):dK U L.lm .i64 (.ag 4) H.live:=by obtain⟨G,b,a⟩:=h.sep.get .live;exact a.2
theorem HH.Nj (h:HH U F L H):dO U F L.hs H.sp:=by
 obtain⟨G,d,a⟩:=h.sep.get .sp;exact dN.mono dO.loc a λb _ a=>d b a
theorem HH.ar (h:HH U F L H){A:AR}(hk:H.bZ[k]?=some A):∃Y,L.ys[k]?=some Y/\Y.hs=L.hs/\dJ U F Y A (cM A Y):=by
 have i:=(cY.1 hk).1;have d:L.ys[k]?=some (L.ys[k]'(by rw[h.s.ys];exact i)):=cW _;obtain⟨G,g,a⟩:=h.sep.get (.ar k);simp only[CH,hk,d,oE]at a;exact⟨_,d,h.s.hs _ (zG d),a.mono λb _ a=>g b a⟩
theorem HH.rA (h:HH U F L H){Y:Lay}(hy:L.ys[k]?=some Y){K:Option Addr->Prop}(hK:K (some ⟨Y.p,0,none⟩)):Ix L.fU.a L.fU.len (k:Int) 1 λa=>fX a U K:=
 Ds h.na (by simp[hy]) hK
theorem HH.th (h:HH U F L H)(ht:t<H.bR.length):∃x g,L.ts[t]?=some x/\H.bR[t]?=some g:=⟨L.ts[t]'(by rw[h.s.ts];exact ht),H.bR[t],cW _,cW _⟩
theorem wX {s:Sl}{ts:List eR}{bR:List Th}(h:cV s 3 (ia ts bR) U F){x:eR}{g:Th}(hx:ts[t]?=some x)(hg:bR[t]?=some g){d:Nat}(hd:d<3){v:Value}(hv:(jJ (x,g))[d]?=some v):∃b o,s.a=some ⟨b,o,none⟩/\cell U ⟨b,o+(3*t+d),none⟩=some v:=
 h.cell ((CJ hx hg hd).trans hv)
theorem B2 {s:Sl}{ts:List eR}{bR:List Th}(hs:cV s 3 (ia ts bR) U F)(hl:ts.length=bR.length){x:eR}{g:Th}(hx:ts[t]?=some x)(hg:bR[t]?=some g){d:Nat}(hd:d<3){v:Value}(hv:(jJ (x,g))[d]?=some v){K:Addr->Prop}
 (hK:∀b o,s.a=some ⟨b,o,none⟩->cell U (Addr.add ⟨b,o+3*t,none⟩ d)=some v->K ⟨b,o+3*t,none⟩):Ix s.a s.len (t:Int) 3 K:=by
 have p:=(cY.1 hg).1;have i:=hs.1;rw[GF hl]at i;obtain⟨b,o,j,m⟩:=wX hs hx hg hd hv;rw[j];refine ix O O ?_;rw[add_lit,show o+(t:Int).toNat*3=o+3*t by omega];exact hK b o j (by rw[add_lit,show o+3*t+d=o+(3*t+d) by omega];exact m)
theorem HH.Ju (h:HH U F L H){x:eR}{g:Th}(hx:L.ts[t]?=some x)(hg:H.bR[t]?=some g){d:Nat}(hd:d<3){v:Value}(hv:(jJ (x,g))[d]?=some v){K:Addr->Prop}
 (hK:∀b o,cell U (Addr.add ⟨b,o+3*t,none⟩ d)=some v->K ⟨b,o+3*t,none⟩):Ix L.cS.a L.cS.len (t:Int) 3 K:=
 B2 h.m9 h.s.ts hx hg hd hv λb o _ i=>hK b o i
theorem HH.tS (h:HH U F L H){x:eR}{g:Th}(hx:L.ts[t]?=some x)(hg:H.bR[t]?=some g){K:Sl->Prop}(hK:K x.h):Ix L.cS.a L.cS.len (t:Int) 3 λa=>jH (a.add 1) U K:=
 h.Ju hx hg (d:=1) O rfl λb o i=>oB i hK
theorem HH.tR (h:HH U F L H){x:eR}{g:Th}(hx:L.ts[t]?=some x)(hg:H.bR[t]?=some g){K:Value->Prop}(hK:K (nr g.ph)):Ix L.cS.a L.cS.len (t:Int) 3 λa=>AS (a.add 2) U K:=
 h.Ju hx hg (d:=2) O rfl λb o i=>⟨_,i,hK⟩
theorem HS.eC (h:HS L H){bR:List Th}{ts:List eR}(e:ts.length=bR.length)(e2:bR.length=H.bR.length):HS {L with ts:=ts} {H with bR:=bR}:=⟨h.ys,h.hs,e,h.a1,h.a2,by rw[e2];exact h.t1,by rw[e2];exact h.t2,h.tb⟩
theorem HS.cF (h:HS L H){A:AR}{sp:Sp}(e:A.tb=H.tb):HS L {H.cF k A with sp:=sp}:=⟨by simp[Hw.cF,h.ys],h.hs,h.ts,by simp[Hw.cF,h.a1],by simp[Hw.cF,h.a2],h.t1,h.t2,λB a=>by
 rcases Ag a with h1|h1
 ·exact h.tb B h1
 ·subst h1;exact e⟩
theorem FR {A:AR}:∀j,j≠kZ.ar k->CH (H.cF k A) L j=CH H L j:=by
 intro j hj;cases j<;>try rfl
 rename_i m;have a:m≠k:=λe=>hj (by rw[e]);simp only[CH,Hw.cF,zh (Ne.symm a)]
theorem Ja {sp:Sp}:∀j,j≠kZ.sp->CH {H with sp:=sp} L j=CH H L j:=by
 intro j hj;cases j<;>first|rfl|exact absurd rfl hj
theorem PK {l:List (Int×Bk)}:∀j,j≠kZ.live->CH {H with live:=l} L j=CH H L j:=by
 intro j hj;cases j<;>first|rfl|exact absurd rfl hj
theorem HH.wC (h:HH U F L H){A:AR}(hk:H.bZ[k]?=some A):∃(Y:Lay) (G:Rg),L.ys[k]?=some Y/\Y.hs=L.hs/\(∀b,G b->F b)/\dJ U G Y A (cM A Y)/\∀(σ':Hp) (A':AR) (G':Rg),A'.tb=A.tb->Ext G U σ'->(∀b,G' b->Grow G U b)->dJ σ' G' Y A' (cM A' Y) →
 Ext F U σ'/\HH σ' (λb=>F b/\b<U.size/\¬G b\/G' b) L (H.cF k A'):=by
 have i:=(cY.1 hk).1;have a:L.ys[k]?=some (L.ys[k]'(by rw[h.s.ys];exact i)):=cW _;generalize (L.ys[k]'(by rw[h.s.ys];exact i))=Y at a;obtain⟨G,m,hi,_,d⟩:=h.l8 (.ar k);simp only[CH,hk,a,oE]at hi;refine⟨Y,G,a,h.s.hs _ (zG a),m,hi,λσ' A' G' g e p j=>?_⟩;refine d σ' (H.cF k A') L G' (h.s.cF (sp:=H.sp) (g.trans (h.s.tb A (zG hk)))) FR e p ?_;simp only[CH,Hw.cF,a,zO i,oE];exact j
theorem HH.pd (h:HH U F L H){A:AR}(hk:H.bZ[k]?=some A):∃(Y:Lay) (G D:Rg),L.ys[k]?=some Y/\Y.hs=L.hs/\W2 U G D Y A (cM A Y) H.sp/\∀(σ':Hp) (A':AR) (sp':Sp) (G' D':Rg),A'.tb=A.tb->Ext (iV G D) U σ'->Fits U G D G' D'->W2 σ' G' D' Y A' (cM A' Y) sp' →
 Ext F U σ'/\HH σ' (Grow F U) L {H.cF k A' with sp:=sp'}:=by
 have K:=(cY.1 hk).1;have i:L.ys[k]?=some (L.ys[k]'(by rw[h.s.ys];exact K)):=cW _;generalize (L.ys[k]'(by rw[h.s.ys];exact K))=Y at i;obtain⟨G,D,y,C,hd,hi,B,_,u⟩:=h.oM (.ar k) .sp (by intro e;cases e);simp only[CH,hk,i,oE]at hi;have B:dO U D L.hs H.sp:=B;have p:=h.s.hs _ (zG i);refine⟨Y,G,D,i,p,⟨hi,by rw[p];exact B,hd,h.g,h.o.sub y,h.o.sub C⟩,λσ' A' sp' G' D' J e M z=>?_⟩;have r:∀b,G' b->(G b\/D b)\/U.size<=b:=λb x=>(M.1 b x).imp .inl id;have w:∀b,D' b->(G b\/D b)\/U.size<=b:=λb x=>.inl (.inr (M.2 b x));have R:∀m,m≠kZ.ar k->m≠kZ.sp->CH {H.cF k A' with sp:=sp'} L m=CH H L m:=λm E Q=>
  (FR (H:={H with sp:=sp'}) (L:=L) (A:=A') m E).trans (Ja m Q)
 have P:CH {H.cF k A' with sp:=sp'} L (.ar k) σ' G':=by
  simp only[CH,Hw.cF,i,zO K,oE];exact z.a
 have N:CH {H.cF k A' with sp:=sp'} L .sp σ' D':=by
  show dO σ' D' L.hs sp';rw[←p];exact z.s
 obtain⟨e1,E⟩:=u σ' {H.cF k A' with sp:=sp'} L G' D' (h.s.cF (J.trans (h.s.tb A (zG hk)))) R e r w z.d P N;refine⟨e1,h.grown E λb x j=>?_⟩;rcases j with j|j|j
 ·exact .inl j.1
 ·exact(r b j).imp (λi=>i.elim (y b) (C b)) id
 ·exact(w b j).imp (λi=>i.elim (y b) (C b)) id
theorem HH.yr (h:HH U F L H):∃G:Rg,(∀b,G b->F b)/\dO U G L.hs H.sp/\jd G/\∀(σ':Hp) (sp':Sp),Ext G U σ'->dO σ' (Grow G U) L.hs sp'->Ext F U σ'/\HH σ' (Grow F U) L {H with sp:=sp'}:=by
 obtain⟨G,g,hi,_,a⟩:=h.l8 .sp;refine⟨G,g,hi,h.o.sub g,λσ' sp' e hs=>?_⟩;obtain⟨e1,j⟩:=a σ' {H with sp:=sp'} L (Grow G U) ⟨h.s.ys,h.s.hs,h.s.ts,h.s.a1,h.s.a2,h.s.t1,h.s.t2,h.s.tb⟩ Ja e (λb i=>i) hs;exact⟨e1,h.grown j λb i d=>by
  rcases d with d|d
  ·exact .inl d.1
  ·exact d.imp (g b) id⟩
theorem HH.sX (h:HH U F L H):F L.lm/\∀(σ':Hp) (l:List (Int×Bk)),Kb U σ' L.lm->dK σ' L.lm .i64 (.ag 4) l->Ext F U σ'/\HH σ' F L {H with live:=l}:=by
 obtain⟨G,i,hi,_,a⟩:=h.l8 .live;have hi:jM L.lm .i64 (.ag 4) H.live U G:=hi;refine⟨i _ hi.1,λσ' l m p=>?_⟩;obtain⟨e1,j⟩:=a σ' {H with live:=l} L G ⟨h.s.ys,h.s.hs,h.s.ts,h.s.a1,h.s.a2,h.s.t1,h.s.t2,h.s.tb⟩ PK (m.ext.sub λb g=>by rw[g];exact hi.1) (λb g=>.inl g) ⟨hi.1,p⟩;exact⟨e1,j.mono (λb _ d=>by
  rcases d with d|d
  ·exact d.1
  ·exact i b d) h.o h.o2⟩
theorem HH.oV (h:HH U F L H){x:eR}{g:Th}(hx:L.ts[t]?=some x)(hg:H.bR[t]?=some g):∃G:Rg,(∀b,G b->F b)/\eN U G x.c H.tb H.cf.dD g.ls/\∀(σ':Hp) (ls:List Li) (Y':hU) (G':Rg),Y'.p=x.c.p->Ext G U σ'->(∀b,G' b->Grow G U b)->eN σ' G' Y' H.tb H.cf.dD ls →
 Ext F U σ'/\HH σ' (λb=>F b/\b<U.size/\¬G b\/G' b) {L with ts:=L.ts.set t {x with c:=Y'}} {H with bR:=H.bR.set t {g with ls:=ls}}:=by
 have a:=(cY.1 hx).1;have r:=(cY.1 hg).1;obtain⟨G,B,hi,_,i⟩:=h.l8 (.ca t);simp only[CH,hx,hg,qV]at hi;refine⟨G,B,hi,λσ' ls Y' G' C e y A=>?_⟩;have w:ia (L.ts.set t {x with c:=Y'}) (H.bR.set t {g with ls:=ls})=ia L.ts H.bR:=by
  have z:(ia L.ts H.bR).set (3*t+0) (.pointer (some ⟨x.c.p,0,none⟩))=ia L.ts H.bR:=QQ (CJ hx hg O);rw[←z];exact(Ae hx hg (d:=0) O (by simp[jJ,C])).symm
 refine i σ' {H with bR:=H.bR.set t {g with ls:=ls}} {L with ts:=L.ts.set t {x with c:=Y'}} G' (h.s.eC (by simp[h.s.ts]) aA) (λj D=>?_) e y ?_
 ·cases j<;>try rfl
  ·simp only[CH,w]
  ·rename_i m;have u:m≠t:=λe=>D (by rw[e]);simp only[CH,zh (Ne.symm u)]
  ·rename_i m;by_cases u:m=t
   ·subst u;simp only[CH,zO a,zO r,hx,hg];rfl
   ·simp only[CH,zh (Ne.symm u)]
 ·simp only[CH,zO a,zO r,qV];exact A
theorem HH.tj (h:HH U F L H){x:eR}{g:Th}(hx:L.ts[t]?=some x)(hg:H.bR[t]?=some g)(N:Rg)(hN:∀b,b<U.size->F b->¬N b)(oN:jd N)(oN2:¬N 1):∃G D:Rg,(∀b,G b->F b)/\(∀b,D b->F b)/\(∀b,G b->¬D b)/\iz x.h g.bQ U G/\bT L.cS 3 (ia L.ts H.bR) U D/\(∃E:Rg,(∀b,E b->¬G b)/\(∀b,E b->¬D b)/\iy L.p (Ay L H.cf) U E) ∧
 ∀(σ':Hp) (s:Sl) (bs:List Bt) (G' D':Rg),Ext (λb=>G b\/D b) U σ'->(∀b,G' b->(G b\/D b)\/N b)->(∀b,D' b->(G b\/D b)\/N b)->(∀b,G' b->¬D' b)->iz s bs σ' G'->bT L.cS 3 ((ia L.ts H.bR).set (3*t+1) (.slice s.a s.len s.cap)) σ' D' →
  Ext F U σ'/\HH σ' (λb=>F b/\b<U.size/\¬(G b\/D b)\/G' b\/D' b) {L with ts:=L.ts.set t {x with h:=s}} {H with bR:=H.bR.set t {g with bQ:=bs}}:=by
 have r:=(cY.1 hx).1;have j:=(cY.1 hg).1;obtain⟨G,D,Q,S,hd,hi,y,u,i⟩:=h.pR (.hn t) .cS (by intro e;cases e) N hN oN oN2;simp only[CH,hx,hg,qy]at hi;have y:bT L.cS 3 (ia L.ts H.bR) U D:=y;obtain⟨E,_,M,B⟩:=u .hd (by intro e;cases e) (by intro e;cases e);refine⟨G,D,Q,S,hd,hi,y,⟨E,λb K hx=>M b K (.inl hx),λb K hx=>M b K (.inr hx),B⟩,λσ' s bs G' D' e C z A R P=>?_⟩;have J:ia (L.ts.set t {x with h:=s}) (H.bR.set t {g with bQ:=bs})=(ia L.ts H.bR).set (3*t+1) (.slice s.a s.len s.cap):=(Ae hx hg (d:=1) O (by simp[jJ])).symm;refine i σ' {H with bR:=H.bR.set t {g with bQ:=bs}} {L with ts:=L.ts.set t {x with h:=s}} G' D' (h.s.eC (by simp[h.s.ts]) aA) (λm V W=>?_) e C z A ?_ ?_
 ·cases m<;>first|rfl|exact absurd rfl W|skip
  ·rename_i m;by_cases w:m=t
   ·subst w;simp only[CH,zO r,zO j,hx,hg];rfl
   ·simp only[CH,zh (Ne.symm w)]
  ·rename_i m;have w:m≠t:=λe=>V (by rw[e]);simp only[CH,zh (Ne.symm w)]
 ·simp only[CH,zO r,zO j,qy];exact R
 ·simp only[CH,J];exact P
theorem HH.sG (h:HH U F L H){x:eR}{g:Th}(hx:L.ts[t]?=some x)(hg:H.bR[t]?=some g)(p:Option Ph){K:aP}(hK:∀σ',Ext F U σ'->HH σ' F L {H with bR:=H.bR.set t {g with ph:=p}}->K σ') :
 Ix L.cS.a L.cS.len (t:Int) 3 λa=>And (jg (nr p)) (dQ (a.add 2) (nr p) U K):=by
 have B:=(cY.1 hx).1;have r:=(cY.1 hg).1;have z:=h.mq;obtain⟨G,C,hi,_,i⟩:=h.l8 .cS;have hi:bT L.cS 3 (ia L.ts H.bR) U G:=hi;have E:=GF h.s.ts;obtain⟨b,w⟩:∃b,L.cS.a=some ⟨b,0,none⟩:=by
  rcases hi.2 with⟨h0,_⟩|⟨b,_,_,ha,_⟩
  ·omega
  ·exact⟨b,ha⟩
 rw[w];refine ix O O ⟨vH p,?_⟩;refine hi.st (j:=3*t+2) O (λM u=>by rw[w]at u;cases u;rw[add_lit,add_lit];congr 1;omega) λσ' e A=>?_;have y:ia L.ts (H.bR.set t {g with ph:=p})=(ia L.ts H.bR).set (3*t+2) (nr p):=by
  have:=Ae hx hg (d:=2) (v:=nr p) (x':=x) (h':={g with ph:=p}) O (by simp[jJ]);rw[this,QQ hx]
 obtain⟨e1,D⟩:=i σ' {H with bR:=H.bR.set t {g with ph:=p}} L G (h.s.eC (ts:=L.ts) (by simp[h.s.ts]) aA) (λj J=>by
  cases j<;>first|rfl|exact absurd rfl J|skip
  ·rename_i m;by_cases hm:t=m
   ·subst hm;simp only[CH,zO r,hx,hg];rfl
   ·simp only[CH,zh hm]
  ·rename_i m;by_cases hm:t=m
   ·subst hm;simp only[CH,zO r,hx,hg];rfl
   ·simp only[CH,zh hm]) e (λb w=>.inl w) (by simp only[CH,y];exact A)
 exact hK σ' e1 (D.mono (λb _ hx=>by
  rcases hx with hx|hx
  ·exact hx.1
  ·exact C b hx) h.o h.o2)
end Go.Ar
namespace Go.Ar
open Go Go.Vc Go.Proofs
open Go.Bu (ZH Ki ZD)
variable {U:Hp}{F H:Rg}{p hs:Nat}{A:AR}{sp:Sp}{Y:Lay}{T:Nat->Hp->Rg->Prop}
end Go.Ar
namespace Go.Ar
open Go Go.Vc Go.Proofs
variable {U:Hp}{F:Rg}{L:dE}{H:Hw}{t k:Nat}
theorem U7 (h:HH U F L H){R:aO}(hR:R true U):XP.c (aW L.p) U R:=by
 refine XP.o ?_;unfold XP.v;have a:=h.mq;have b:=h.s.t1;refine bX.intro (cE rfl (bL (h.hd.rS rfl ?_)));rw[zI aC];exact hR
theorem Dl (h:HH U F L H)(x:Int){R:aO}(hR:R (decide (0<=x/\x<(H.bR.length:Int))) U):Yk.c (aW L.p) x U R:=by
 refine Yk.o ?_;unfold Yk.v;have a:=h.mq;refine bX.intro (cP (λb=>bL (h.hd.rS rfl ?_)) λb=>?_)
 ·have:decide (x<((L.cS.len:Nat):Int))=decide (0<=x/\x<(H.bR.length:Int)):=by rw[decide_eq_decide,a];omega
  simp only[this];exact hR
 ·rw[zL O]at hR;exact hR
theorem JD (h:HH U F L H)(t:Nat){R:aN}(hR:R ((H.own t:Nat):Int) U):ZU.c (aW L.p) (t:Int) U R:=by
 refine ZU.o ?_;unfold ZU.v;have a:=h.np;have b:=h.s.a1;refine bL (h.hd.rS rfl (nz aC ?_));have:((t:Int).tmod ((L.fU.len:Nat):Int))=((H.own t:Nat):Int):=by rw[Q1 O,a];unfold Hw.own;omega
 simp only[this];exact hR
theorem Bq (h:HH U F L H)(x:Int)(hx9:x<=9223372036854775807){R:aN}(hR:∀σ',aF U σ'->R (Yh H.bZ x) σ'):Yx.c (aW L.p) x U R:=by
 refine Yx.o ?_;unfold Yx.v;refine nw (cs:=[.int .i64 x]) λv hz e Q=>Q.uW rfl ?_;have P:=h.bP e;by_cases hx:x<0
 ·have:=hR v e;unfold Yh at this;rw[zC hx]at this;exact mr hx this
 refine fZ hx (bL (P.hd.rS rfl ?_));have hl:=h.np;have S:=h.s.a2;refine Wr.o ?_;unfold Wr.v;refine Qz (a:=bO) (λ(z:Int) w=>∃i:Nat,z=(i:Int)/\i<=H.bZ.length/\aF U w/\HH w F L H/\bY w U.size [.int .i64 x]/\∀j A,j<i->H.bZ[j]?=some A->pU A (x/256)=false) (λz _=>H.bZ.length-z.toNat) ⟨0,rfl,O,e,P,Q,λj A g=>O⟩ ?_;rintro z w ⟨i,rfl,hi,N,y,r,b⟩;refine cP (λM=>?_) λJ=>?_
 ·simp only at M;have K:i<H.bZ.length:=by omega
  have d:H.bZ[i]?=some H.bZ[i]:=cW K;generalize H.bZ[i]=A at d;obtain⟨Y,V,X,D⟩:=y.ar d;refine y.rA V (Gp (all := #[.pointer (some ⟨Y.p,0,none⟩),.pointer (some ⟨U.size,0,none⟩)]) (by kernel_rfl) aA ?_);refine Zo.o ?_;unfold Zo.v;refine r.uW rfl (nz aB (ar (by rw[Ye O];omega) (by rw[Ye O];omega) ?_));rw[Ye O];refine TT D (x/256) (cO (λW=>?_) λZ=>?_)
  ·have:Yh H.bZ x=(i:Int):=by
    unfold Yh;rw[zB hx];have:H.bZ.findIdx? (λA=>pU A (x/256))=some i:=by
     obtain⟨C,rfl⟩:=cY.1 d;exact nK.2 ⟨C,W,λj g=>by rw[b j _ g (cW O)];simp⟩
    rw[this]
   have u:=hR w N;rw[this]at u;exact u
  ·exact cT (m:=i+1) O O ⟨⟨i+1,rfl,O,N,y,r,λj B g E=>by
    by_cases e:j=i
    ·subst e;rw[d]at E;cases E;exact Z
    ·exact b j B O E⟩,O⟩
 ·have G:i=H.bZ.length:=by simp only at J;omega
  subst G;have:Yh H.bZ x = -1:=by
   unfold Yh;rw[zB hx];have:H.bZ.findIdx? (λA=>pU A (x/256))=none:=by
    rw[vB];intro A d;obtain⟨j,g⟩:=zP d;exact b j A (cY.1 g).1 g
   rw[this]
  have u:=hR w N;rw[this]at u;exact u
theorem GD (h:HH U F L H){R:Int->Int->Int->Int->Int->Hp->Prop}(hR:∀σ',aF U σ'->R (H.cf.aG:Int) (H.cf.ic:Int) (H.cf.threads:Int) (H.cf.dD:Int) (H.cf.room:Int) σ'):XS.c (aW L.p) U R:=by
 refine XS.o ?_;unfold XS.v;refine nw (cs:=[.int .i64 0,.int .i64 0,.int .i64 0,.int .i64 0,.int .i64 0]) λv u e i=>U7 (h.bP e) (cD rfl ?_);have hd:=(h.bP e).hd;refine bL (hd.fD rfl (hd.fD rfl (hd.fD rfl (hd.fD rfl (hd.fD rfl ?_)))));refine i.s1 aA λs o1 d=>d.s1 aA λm o2 b=>b.s1 aA λv3 o3 j=>j.s1 aA λr o4 b4=>b4.s1 aA λg o5 a=>?_;refine a.rI rfl (a.rI rfl (a.rI rfl (a.rI rfl (a.rI rfl (hR g ?_)))));exact((((e.only o1 (.inr (zD _))).only o2 (.inr (zD _))).only o3 (.inr (zD _))).only o4 (.inr (zD _))).only o5 (.inr (zD _))
theorem JU (h:HH U F L H){R:Option Addr->Hp->Prop}(hR:R (some ⟨L.hs,0,none⟩) U):YV.c (aW L.p) U R:=by
 refine YV.o ?_;unfold YV.v;exact U7 h (cD rfl (bL (h.hd.rP rfl hR)))
theorem SI (h:HH U F L H)(x:Int)(hx:x<=9223372036854775807){R:Int->Int->Hp->Prop}(hR:∀σ',aF U σ'->R (if eM H.sp x=0 then H.sp.wd (x.toNat/8)else 0) (eM H.sp x) σ'):YC.c (aW L.p) x U R:=by
 refine YC.o ?_;unfold YC.v;exact JU h (Pu h.Nj h.g x hx hR)
theorem O6 (h:HH U F L H)(gc:Gc U)(x v:Int)(hx:x<=9223372036854775807){R:aN}(hR:∀σ',Ext F U σ'->HH σ' (Grow F U) L {H with sp:=Zm H.sp x v}->R (eM H.sp x) σ'):Xr.c (aW L.p) x v U R:=by
 refine Xr.o ?_;unfold Xr.v;obtain⟨G,m,j,d,a⟩:=h.yr;refine JU h (N9 j h.g gc x hx v λσ' e b=>?_);obtain⟨e1,i⟩:=a σ' _ e b;exact hR σ' e1 i
theorem N1 (h:HH U F L H)(x:Int){R:Int->Int->Hp->Prop}(hR:∀σ',aF U σ'->R ((bU H.live x).elim 0 λb=>b.2.1) (if(bU H.live x).isSome then 0 else 8) σ'):XU.c (aW L.p) x U R:=by
 refine XU.o ?_;unfold XU.v;refine U7 h (cD rfl (bL (h.hd.rM rfl ⟨_,h.ng,?_⟩)));refine nw (cs:=[.int .i64 0,.int .i64 0,.int .i64 0,.int .i64 0]) λv w e r=>?_;refine r.s1 aA λu o1 m=>m.s1 aA λs o2 i=>i.s1 aA λv3 o3 g=>g.s1 aA λv4 o4 b4=>?_;have j:aF U v4:=(((e.only o1 (.inr (zD _))).only o2 (.inr (zD _))).only o3 (.inr (zD _))).only o4 (.inr (zD _));have a:=hR v4 j;cases hm:bU H.live x with
 | none=>
  rw[hm]at a;exact cE rfl a
 | some b=>
  rw[hm]at a;refine cD rfl (b4.rI rfl ?_);have d:((bU H.live x).getD ((0,0,0,0):Bk)).2.1=b.2.1:=by rw[hm];rfl
  rw[d];exact a
theorem Uo (h:HH U F L H)(ht:t<H.bR.length){R:Value->Hp->Prop}(hR:R (nr (j2 H t)) U):Xl.c (aW L.p) (t:Int) U R:=by
 refine Xl.o ?_;unfold Xl.v;obtain⟨x,g,b,a⟩:=h.th ht;refine bL (h.hd.rS rfl (h.tS b a ?_));obtain⟨G,i,hi⟩:=h.sep.get (.hn t);simp only[CH,b,a,qy]at hi;have d:=hi.len;unfold j2 at hR;rw[a]at hR;simp only at hR;by_cases h0:g.bQ=[]
 ·rw[zC h0]at hR;exact cE (by rw[d,h0];rfl) hR
 ·rw[zB h0]at hR;have:=oa.2 h0;exact cD (by simp only[mP];omega) hR
theorem Co (h:HH U F L H)(x size cls:Int)(hx9:x<=9223372036854775807){R:Value->Int->Int->Hp->Prop}(hR:∀σ',Ext F U σ'->HH σ' F L (V9 H x size cls)->R .nilIface x 0 σ'):Zh.c (aW L.p) x size cls U R:=by
 refine Zh.o ?_;unfold Zh.v;refine nw (cs:=[.int .i64 0,.int .i64 0]) λv E e a=>?_;have g:=h.cut.bP e;refine⟨λu=>aF v u,Ext.refl _ _,bL ⟨some L.lm,λu z=>by rw[add_lit,((g.bP z).hd).cell];rfl,?_⟩⟩;refine Bq g x hx9 λD e1=>⟨e1,?_⟩;have s:=g.bP e1;obtain⟨w,d⟩:=s.sX;refine⟨L.lm,_,rfl,s.ng,λi o2 j=>?_⟩;obtain⟨e2,A⟩:=d i _ o2 j;have m:bY i U.size [.int .i64 0,.int .i64 0]:=WF o2 (e1.bV a id) (by have:=w.2;omega);refine m.s1 aA λv3 o3 B=>B.s1 aA λv4 o4 b4=>b4.rI rfl (b4.rI rfl (hR v4 ?_ ?_))
 ·exact(((aF.to (e.trans e1)).trans (e2.sub λb a=>a.1)).only o3 (.inr (zD _))).only o4 (.inr (zD _))
 ·have r:Ext (· = U.size) i v4:=o3.ext.trans o4.ext;have y:=h.xd A r (λb a=>O) (λb _ a C=>by have:=a.2;omega);exact y.mono (λb _ a=>a.1) h.o h.o2
theorem Am (h:HH U F L H)(ht:t<H.bR.length)(k:Nat){s:Sl}{xs:List Int}{X:Rg}(hs:cV s 1 (Wy xs) U X)(hc:s.len<=s.cap)(hxs:xs≠[])(hX:∀b,b<U.size->X b->¬F b)(oX:jd X)(oX2:¬X 1)(hlen:∀g,H.bR[t]?=some g->g.bQ.length<=1000){R:aP}
 (hR:∀σ' ts',Ext F U σ'->HH σ' (λb=>Grow F U b\/X b) {L with ts:=ts'} (Kr H t k xs)->R σ'):YK.c (aW L.p) (t:Int) (k:Int) s U R:=by
 refine YK.o ?_;unfold YK.v;obtain⟨x,g,r,V⟩:=h.th ht;have htl:=GF h.s.ts;have hrl:=h.mq;have hlen:=hlen g V;obtain⟨G,D,hG,Z,hd,hB,hr,⟨E,hE1,hE2,hhd⟩,S⟩:=h.cut.tj r V (λb=>U.size<=b\/b<U.size/\X b) (λb m hf hn=>by
  rcases hn with hn|hn
  ·omega
  ·exact hX b m hn.2 hf.1) (λb m=>m.elim (h.mK.1 b) λm=>oX b m.2) (λm=>m.elim h.mK.2 λm=>oX2 m.2)
 obtain⟨P,Dn,B,M,N,hj,Q⟩:=hB;have A:∀u,Ext G U u->bY u L.p (Ay L H.cf):=λu z=>((iy.loc _ _).bS hhd z λb _ m r=>hE1 b m r).2;have hr':∀u,Ext G U u->bT L.cS 3 (ia L.ts H.bR) u D:=λu z=>aI.bS hr z λb _ m r=>hd b r m;refine⟨λu=>Ext G U u,Ext.refl _ _,bL ⟨L.cS,λu z=>by rw[add_lit,(A u z).cell];rfl,bL ⟨L.cS,λu z=>by rw[add_lit,(A u z).cell];rfl,?_⟩⟩⟩;refine B2 (bT.fW hr) h.s.ts r V (d:=1) O rfl λb o ha _=>⟨x.h,λu z=>?_,?_⟩
 ·obtain⟨b',o',ha',hc'⟩:=wX (bT.fW (hr' u z)) r V (d:=1) O rfl;rw[ha]at ha';cases ha';rw[add_lit,show o+3*t+1=o+(3*t+1) by omega];exact hc'
 refine nw (cs:=[.int .i64 (k:Int),.slice s.a s.len s.cap]) λv hz e m=>⟨aF.to e,?_⟩;have J:=(dL.loc _ _ _).bP ((dL.loc _ _ _).cut B) e;have W:=(kG.loc _ _).bP ((kG.loc _ _).cut M) e;have hs1:=aH.bP (aH.cut hs) e;have hpl:x.h.len=P.length:=by have:=B.1;rw[Vl]at this;omega
 have hpg:P.length=g.bQ.length:=M.1;refine J.app (ys:=oA (k,s)) rfl rfl ?_ (λv hv=>H6 (l:=[(k,s)]) v (by simpa[fL]using hv)) ?_ ?_ nh λs' v2 hl2 e2 hr2=>?_
 ·intro j u z;rw[add_lit,zH,m.cell];exact z
 ·simp only;have:(x.h.len+1)*32<=1001*32:=mu O O;omega
 ·simp only;omega
 have hs2:=e2.1;have eG:Ext G U v2:=(aF.to e).trans (e2.sub λb m=>m.1.1);refine⟨eG,?_⟩;obtain⟨b0,Y⟩:∃b,L.cS.a=some ⟨b,0,none⟩:=by
  rcases hr.2 with⟨h0,_⟩|⟨b,_,_,ha,_⟩
  ·omega
  ·exact⟨b,ha⟩
 rw[Y];refine ix O O ?_;refine(hr' v2 eG).st (j:=3*t+1) O (λb' hb'=>by rw[Y]at hb';cases hb';rw[add_lit,add_lit];congr 1;omega) λσ' e3 hr3=>?_;have hs3:=e3.1;have e03:Ext (λb=>G b\/D b) U σ':=(eG.sub λb m=>.inl m).trans (e3.sub λb m=>.inr m);have hr4:=(dL.loc _ _ _).bS ((dL.loc _ _ _).cut hr2) e3 λb _ m r=>by
  rcases m.1 with h1|h1
  ·exact hd b h1.1.1 r
  ·have:=(Z b r).2;omega
 have hB4:=(kG.loc _ _).bS ((kG.loc _ _).bS W e2 λb _ m r=>r.1.2 m.1) e3 λb _ m r=>hd b (N b m.1) r;have hs4:=aH.bS (aH.bS hs1 e2 λb m r w=>hX b r.2 r.1 (hG b w.1.1).1) e3 λb _ r w=>hX b r.2 r.1 (Z b w).1;have hBt:iz s' (g.bQ++[(k,xs)]) σ' (λb=>G b/\b<U.size\/b<U.size/\X b\/v.size<=b/\b<v2.size):=by
  refine⟨P++[(k,s)],λb=>Dn b/\b<U.size\/b<U.size/\X b,?_,⟨by simp[hpg],λi p y K w=>?_⟩,λb m=>?_,hj.snoc M Q hs hxs (λb m r w=>hX b m w (hG b (N b r)).1) k,λy w=>?_⟩
  ·rw[HB];have:fL [(k,s)]=oA (k,s):=by simp[fL]
   rw[this];refine(dL.loc _ _ _).mono hr4 λq _ C=>?_;rcases C.1 with h1|h1
   ·exact⟨.inl ⟨h1.1.1,h1.2⟩,λr=>by
     rcases r with r|r
     ·exact h1.1.2 r.1
     ·exact hX q r.1 r.2 (hG q h1.1.1).1⟩
   ·exact⟨.inr (.inr ⟨h1,C.2⟩),λr=>by
     rcases r with r|r<;>omega⟩
  ·rcases kv i P.length with hi|hi
   ·rw[zd hi]at K;rw[zd O]at w;obtain⟨a1,a2,a3⟩:=hB4.2 i p y K w;exact⟨a1,aH.mono a2 λq _ C=>.inl C,a3⟩
   ·rw[zr hi]at K;rw[zr O]at w;have hi0:i-P.length=0:=by
     have:=(cY.1 K).1;simp at this;omega
    rw[hi0]at K;rw[show i-g.bQ.length=0 by omega]at w;simp at K w;subst K;subst w;exact⟨rfl,aH.mono hs4 λq _ C=>.inr ⟨C.2,C.1⟩,hc⟩
  ·rcases m with m|m
   ·exact .inl ⟨N b m.1,m.2⟩
   ·exact .inr (.inl m)
  ·rcases zM.1 w with h1|h1
   ·exact Q y h1
   ·rw[zN]at h1;subst h1;exact hxs
 obtain⟨eF,h4⟩:=S σ' s' (g.bQ++[(k,xs)]) (λb=>G b/\b<U.size\/b<U.size/\X b\/v.size<=b/\b<v2.size) D e03 (λb m=>by
  rcases m with m|m|m
  ·exact .inl (.inl m.1)
  ·exact .inr (.inr m)
  ·exact .inr (.inl O)) (λb m=>.inl (.inr m)) (λb m r=>by
  have:=(Z b r).2;rcases m with m|m|m
  ·exact hd b m.1 r
  ·exact hX b m.1 m.2 (Z b r).1
  ·omega) hBt hr3
 refine hR σ' (L.ts.set t {x with h:=s'}) (eF.sub λb m=>m.1) ?_;have e5:Kr H t k xs = {H with bR:=H.bR.set t {g with bQ:=g.bQ++[(k,xs)]}}:=by
  unfold Kr Hw.eC
  congr 1
  exact VE V
 rw[e5];refine h4.mono (λb _ m=>?_) (λb (m:Grow F U b\/X b)=>m.elim (h.oG b) (oX b)) λ(m:Grow F U _\/X _)=>m.elim h.sk oX2;rcases m with m | (m|m|m)|m
 ·exact .inl (.inl m.1.1)
 ·exact .inl (.inl (hG b m.1).1)
 ·exact .inr m.2
 ·exact .inl (.inr O)
 ·exact .inl (.inl (Z b m).1)
end Go.Ar
namespace Go.Ar
open Go Go.Vc Go.Proofs
variable {U u u':Hp}{F B P:Rg}{L:dE}{H H':Hw}{t k n:Nat}{A:AR}{Y:Lay}{x:eR}{g:Th}{c:cA}{l:Li}{cs:List Value}
structure HK (F:Rg) (U:Hp) (B:Rg) (u:Hp) (P:Rg) (L:dE) (H:Hw):Prop where
 h:HH u P L H
 e:Ext F U u
 p:∀b,P b->(F b/\b<U.size\/U.size<=b)/\¬B b/\b<u.size
 b:∀b,B b->U.size<=b/\b<u.size
 o:jd (λb=>U.size<=b)/\¬U.size<=1
theorem HK.start (h:HH U F L H):HK F U (λ_=>False) U (Cut F U) L H:=⟨h.cut,Ext.refl _ _,λb a=>⟨.inl ⟨a.1,a.2⟩,id,a.2⟩,λb a=>a.elim,h.mK⟩
theorem HK.box (K:HK F U B u P L H)(e:aF u u')(hz:u'.size=u.size+1):HK F U (λb=>B b\/b=u.size) u' P L H:=
 ⟨K.h.bP e,K.e.trans (aF.to e),λb a=>⟨(K.p b a).1,λd=>d.elim (K.p b a).2.1 λg=>by have:=(K.p b a).2.2;omega,by have:=(K.p b a).2.2;omega⟩,λb a=>by
  have:=K.e.1;rcases a with a|a
  ·have:=K.b b a;omega
  ·omega,K.o⟩
theorem HK.fr (K:HK F U B u P L H)(e:aF u u'):HK F U B u' P L H:=
 ⟨K.h.bP e,K.e.trans (aF.to e),λb a=>⟨(K.p b a).1,(K.p b a).2.1,by have:=(K.p b a).2.2;have:=e.1;omega⟩,λb a=>by have:=K.b b a;have:=e.1;omega,K.o⟩
theorem HK.own (K:HK F U B u P L H)(o:Kb u u' n)(hn:B n):HK F U B u' P L H:=by
 have r:=K.b n hn;have s:=o.1;have e:Ext (· = n) u u':=o.ext;have g:∀b,b<u.size->P b->¬(b=n):=λb _ a j=>(K.p b a).2.1 (j▸hn);have d:jd (λb=>b=n)/\¬(1=n):=⟨K.o.1.sub λb i=>O,λi=>K.o.2 O⟩;exact⟨K.h.bS e g d.1 d.2,K.e.dW e λb (m:b=n)=>.inr O,λb a=>⟨(K.p b a).1,(K.p b a).2.1,by have:=(K.p b a).2.2;omega⟩,λb a=>by have:=K.b b a;omega,K.o⟩
theorem HK.cZ (K:HK F U B u P L H)(e:Ext P u u')(hb:bY u n cs)(hn:B n):bY u' n cs:=e.bV hb λa=>(K.p n a).2.1 hn
theorem HK.tV (K:HK F U B u P L H){Q:Rg}{L':dE}(e:Ext P u u')(h:HH u' Q L' H')(hq:∀b,b<u'.size->Q b->P b\/u.size<=b\/(F b/\b<U.size\/U.size<=b)/\¬B b):HK F U B u' (Cut Q u') L' H':=by
 have i:=e.1;have g:=K.e.1;refine⟨h.cut,K.e.dW e λb a=>(K.p b a).1.imp (λh=>h.1) id,λb a=>⟨?_,λd=>?_,a.2⟩,λb a=>by have:=K.b b a;omega,K.o⟩
 ·rcases hq b a.2 a.1 with h1|h1|h1
  ·exact(K.p b h1).1
  ·exact .inr O
  ·exact h1.1
 ·rcases hq b a.2 a.1 with h1|h1|h1
  ·exact(K.p b h1).2.1 d
  ·have:=K.b b d;omega
  ·exact h1.2 d
theorem HK.to (K:HK F U B u P L H){Q:Rg}{L':dE}(e:Ext P u u')(h:HH u' Q L' H')(hq:∀b,b<u'.size->Q b->P b\/u.size<=b):HK F U B u' (Cut Q u') L' H':=K.tV e h λb a d=>(hq b a d).imp id .inl
theorem HK.fin (K:HK F U B u P L H){L0:dE}{H0:Hw}(h0:HH U F L0 H0):HH u (Grow F U) L H:=h0.grown K.h λb _ a=>(K.p b a).1.imp (λh=>h.1) id
def Fr (A' A:AR):Prop:=A'.tb=A.tb/\A'.room=A.room/\A'.cR=A.cR
theorem Fr.cM {A' A:AR}(h:Fr A' A)(Y:Lay):Go.Ar.cM A' Y=Go.Ar.cM A Y:=by
 funext k;unfold Go.Ar.cM;rw[h.1,h.2.1,h.2.2]
theorem F5 (A:AR)(k m:Int):Fr (YT A k m) A:=by
 unfold YT;split<;>exact⟨rfl,rfl,rfl⟩
theorem Is (A:AR)(k:Int)(xs:List Int):Fr (ZZ A k xs) A:=⟨(UN A k xs).1,(UN A k xs).2.1,(UN A k xs).2.2.1⟩
theorem Ie (A:AR)(sp:Sp)(m a no:Nat):Fr (dC A sp m a no).2.1 A:=⟨(Gj A sp m a no).1,(Gj A sp m a no).2.2.2.1,(Gj A sp m a no).2.2.1⟩
theorem EE (A:AR)(x:Int):Fr (Kc A x) A:=by
 unfold Kc;split<;>exact⟨rfl,rfl,rfl⟩
theorem I3 (A:AR)(sp:Sp)(k:Int):Fr (cQ A sp k).1 A:=by
 unfold cQ;split
 ·split
  ·rename_i c ss h1 h2;have h:=Ie A sp c.aG 1 (k.toNat+1);generalize dC A sp c.aG 1 (k.toNat+1)=r at h;obtain⟨o,A',a⟩:=r;cases o with
   | none=>exact h
   | some x=>
    simp only;split<;>exact h
  ·exact⟨rfl,rfl,rfl⟩
 ·exact⟨rfl,rfl,rfl⟩
theorem Et (A:AR)(sp:Sp)(m a:Int):Fr (cC A sp m a).1 A:=by
 unfold cC;split
 ·have h:=Ie A sp m.toNat a.toNat 41;generalize dC A sp m.toNat a.toNat 41=r at h;obtain⟨o,A',b⟩:=r;cases o<;>exact h
 ·exact⟨rfl,rfl,rfl⟩
theorem Pm (A:AR)(k:Int):(Z1 A k).tb=A.tb:=by unfold Z1;split<;>rfl
theorem Wnh (A:AR)(k:Int)(xs:List Int):(KG A k xs).tb=A.tb:=by unfold KG;split<;>rfl
theorem HH.mU (h:HH U F L H)(hk:H.bZ[k]?=some A)(hy:L.ys[k]?=some Y):∃G:Rg,(∀b,G b->F b)/\dJ U G Y A (cM A Y)/\∀(σ':Hp) (A':AR) (Q:Rg),A'.tb=A.tb->Ext G U σ'->(∀b,Q b->G b\/U.size<=b)->dJ σ' (λb=>Grow G U b/\¬Q b) Y A' (cM A' Y) →
 Ext F U σ'/\HH σ' (λb=>Grow F U b/\¬Q b) L (H.cF k A'):=by
 obtain⟨Y',G,d,_,j,u,g⟩:=h.wC hk;rw[hy]at d;cases d;refine⟨G,j,u,λσ' A' Q i e s r=>?_⟩;obtain⟨e1,p⟩:=g σ' A' _ i e (λb a=>a.1) r;refine⟨e1,p.mono (λb _ a=>?_) (h.oG.sub λb a=>a.1) λa=>h.sk a.1⟩;rcases a with a|a
 ·exact⟨.inl a.1,λm=>by
   rcases s b m with h2|h2
   ·exact a.2.2 h2
   ·have:=a.2.1;omega⟩
 ·exact⟨a.1.imp (j b) id,a.2⟩
theorem dJ.wK {T:Nat->Hp->Rg->Prop}{G Q:Rg}(h:dJ U G Y A T)(hq:∀b,¬Q b):dJ U (λb=>G b/\¬Q b) Y A T:=h.mono λb _ a=>⟨a,hq b⟩
theorem HH.mO (h:HH U F L H)(hk:H.bZ[k]?=some A)(hy:L.ys[k]?=some Y):∃G:Rg,(∀b,G b->F b)/\dJ U G Y A (cM A Y)/\∀(σ':Hp) (A':AR),A'.tb=A.tb->Ext G U σ'->dJ σ' (Grow G U) Y A' (cM A' Y) →
 Ext F U σ'/\HH σ' (Grow F U) L (H.cF k A'):=by
 obtain⟨G,i,p,a⟩:=h.mU hk hy;refine⟨G,i,p,λσ' A' d e m=>?_⟩;obtain⟨e1,j⟩:=a σ' A' (λ_=>False) d e (λb g=>g.elim) (m.wK λ_=>id);exact⟨e1,j.mono (λb _ g=>g.1) h.oG h.sk⟩
theorem Oy (h:HH U F L H)(hk:H.bZ[k]?=some A)(hy:L.ys[k]?=some Y)(c:Int){R:Sl->Int->Hp->Prop}
 (hR:∀s σ' (Q:Rg),Ext F U σ'->(∀b,Q b->F b)->cV s 1 (Wy (YR A c)) σ' Q->s.len<=s.cap->HH σ' (λb=>Grow F U b/\¬Q b) L (H.cF k (Z1 A c))->R s (QF A c) σ') :
 WT.c (aW Y.p) c U R:=by
 obtain⟨G,j,w,d⟩:=h.mU hk hy;refine NY w c λs σ' e i u g r=>?_;obtain⟨e1,m⟩:=d σ' (Z1 A c) (kV s) (Pm A c) e (λb a=>.inl (i b a)) (r.mono λb _ a=>⟨.inl a.1,a.2⟩);exact hR s σ' (kV s) e1 (λb a=>j b (i b a)) u g m
theorem Pr (h:HH U F L H)(hk:H.bZ[k]?=some A)(hy:L.ys[k]?=some Y)(c m:Int){R:Sl->Int->Hp->Prop}
 (hR:∀s σ' (Q:Rg),Ext F U σ'->(∀b,Q b->U.size<=b)->bT s 1 (ints (YB A c m)) σ' Q->HH σ' (λb=>Grow F U b/\¬Q b) L (H.cF k (YT A c m))->R s (Kd A c m) σ') :
 WZ.c (aW Y.p) c m U R:=by
 obtain⟨G,w,u,d⟩:=h.mU hk hy;refine Ts u c m λs σ' e r j=>?_;have g:cM (YT A c m) Y=cM A Y:=(F5 A c m).cM Y;obtain⟨e1,i⟩:=d σ' (YT A c m) (λb=>U.size<=b) (F5 A c m).1 e (λb a=>.inr a) (by rw[g];exact j.mono λb _ a=>⟨.inl a.1,by have:=a.2;omega⟩);exact hR s σ' _ e1 (λb a=>a) r i
theorem My (h:HH U F L H)(hk:H.bZ[k]?=some A)(hy:L.ys[k]?=some Y)(c:Int){sl:Sl}{xs:List Int}{X:Rg}(hs:cV sl 1 (Wy xs) U X)(hi:∀x∈xs,iN x){R:Bool->Int->Hp->Prop}
 (hR:∀σ',Ext F U σ'->HH σ' (Grow F U) L (H.cF k (KG A c xs))->R (VG A c xs) (HT A c xs) σ'):W6.c (aW Y.p) c sl U R:=by
 obtain⟨G,i,g,a⟩:=h.mO hk hy;refine υ g c hs hi λσ' e d=>?_;obtain⟨e1,b⟩:=a σ' _ (Wnh A c xs) e d;exact hR σ' e1 b
theorem M7 (h:HH U F L H)(hk:H.bZ[k]?=some A)(hy:L.ys[k]?=some Y)(c:Int){sl:Sl}{xs:List Int}{X:Rg}(hs:cV sl 1 (Wy xs) U X)(hX:∀b,b<U.size->X b->¬F b)(hi:∀x∈xs,iN x)(hl:xs.length<=1000000)(hcap:sl.len<=sl.cap){R:aN}
 (hR:∀σ',Ext F U σ'->HH σ' (Grow F U) L (H.cF k (ZZ A c xs))->R (Kv A c xs) σ'):Xc.c (aW Y.p) c sl U R:=by
 obtain⟨G,g,i,a⟩:=h.mO hk hy;refine Ov i c hi hl hcap (.inl ⟨X,hs,λb s u r=>hX b s u (g b r)⟩) λσ' e j=>?_;have d:cM (ZZ A c xs) Y=cM A Y:=(Is A c xs).cM Y;obtain⟨e1,m⟩:=a σ' _ (Is A c xs).1 e (by rw[d];exact j);exact hR σ' e1 m
theorem RT (h:HH U F L H)(hk:H.bZ[k]?=some A)(hy:L.ys[k]?=some Y)(x:Int)(hf:∀r∈A.runs,r.1<=1000000){R:aN}
 (hR:∀σ',Ext F U σ'->HH σ' (Grow F U) L (H.cF k (Kc A x))->R (VA A x) σ'):Xd.c (aW Y.p) x U R:=by
 obtain⟨G,j,i,a⟩:=h.mO hk hy;refine N3 i x hf λσ' e g=>?_;have b:cM (Kc A x) Y=cM A Y:=(EE A x).cM Y;obtain⟨e1,d⟩:=a σ' _ (EE A x).1 e (by rw[b];exact g);exact hR σ' e1 d
theorem NA (h:HH U F L H)(hk:H.bZ[k]?=some A)(hy:L.ys[k]?=some Y)(c:Int){R:aN}
 (hR:∀σ',Ext F U σ'->HH σ' (Grow F U) L {H.cF k (cQ A H.sp c).1 with sp:=(cQ A H.sp c).2}->R (Vu A H.sp c) σ'):Yi.c (aW Y.p) c U R:=by
 obtain⟨Y',G,D,b,_,j,a⟩:=h.pd hk;rw[hy]at b;cases b;refine Tn j c λσ' G' D' m e i=>?_;have d:cM (cQ A H.sp c).1 Y=cM A Y:=(I3 A H.sp c).cM Y;obtain⟨e1,g⟩:=a σ' _ _ G' D' (I3 A H.sp c).1 e m (by rw[d];exact i);exact hR σ' e1 g
theorem WbF (h:HH U F L H)(hk:H.bZ[k]?=some A)(hy:L.ys[k]?=some Y)(m a:Int){R:Int->Int->Hp->Prop}
 (hR:∀σ',Ext F U σ'->HH σ' (Grow F U) L {H.cF k (cC A H.sp m a).1 with sp:=(cC A H.sp m a).2}->R ((QE A H.sp m a:Nat):Int) (Q6 A H.sp m a) σ'):Xe.c (aW Y.p) m a U R:=by
 obtain⟨Y',G,D,d,_,r,b⟩:=h.pd hk;rw[hy]at d;cases d;refine Na r m a λσ' G' D' s e j=>?_;have g:cM (cC A H.sp m a).1 Y=cM A Y:=(Et A H.sp m a).cM Y;obtain⟨e1,i⟩:=b σ' _ _ G' D' (Et A H.sp m a).1 e s (by rw[g];exact j);exact hR σ' e1 i
def Hw.dX (H:Hw)(t:Nat)(g:Th)(ls:List Li):Hw:={H with bR:=H.bR.set t {g with ls:=ls}}
theorem HH.lp (h:HH U F L H)(hx:L.ts[t]?=some x)(hg:H.bR[t]?=some g):∃G:Rg,(∀b,G b->F b)/\eN U G x.c H.tb H.cf.dD g.ls/\∀(σ':Hp) (ls:List Li) (Y':hU) (Q:Rg),Y'.p=x.c.p->Ext G U σ'->(∀b,Q b->U.size<=b)->eN σ' (λb=>Grow G U b/\¬Q b) Y' H.tb H.cf.dD ls →
 Ext F U σ'/\HH σ' (λb=>Grow F U b/\¬Q b) {L with ts:=L.ts.set t {x with c:=Y'}} (H.dX t g ls):=by
 obtain⟨G,i,r,d⟩:=h.oV hx hg;refine⟨G,i,r,λσ' ls Y' Q j e u m=>?_⟩;obtain⟨e1,s⟩:=d σ' ls Y' _ j e (λb a=>a.1) m;refine⟨e1,s.mono (λb _ a=>?_) (h.oG.sub λb a=>a.1) λa=>h.sk a.1⟩;rcases a with a|a
 ·exact⟨.inl a.1,λw=>by have:=a.2.1;have:=u b w;omega⟩
 ·exact⟨a.1.imp (i b) id,a.2⟩
theorem HH.lE (h:HH U F L H)(hx:L.ts[t]?=some x)(hg:H.bR[t]?=some g):∃G:Rg,(∀b,G b->F b)/\eN U G x.c H.tb H.cf.dD g.ls/\∀(σ':Hp) (ls:List Li) (Y':hU),Y'.p=x.c.p->Ext G U σ'->eN σ' (Grow G U) Y' H.tb H.cf.dD ls →
 Ext F U σ'/\HH σ' (Grow F U) {L with ts:=L.ts.set t {x with c:=Y'}} (H.dX t g ls):=by
 obtain⟨G,i,r,a⟩:=h.lp hx hg;refine⟨G,i,r,λσ' ls Y' j e m=>?_⟩;obtain⟨e1,s⟩:=a σ' ls Y' (λ_=>False) j e (λb d=>d.elim) (m.mono λb _ d=>⟨d,id⟩);exact⟨e1,s.mono (λb _ d=>d.1) h.oG h.sk⟩
theorem Wjx (h:HH U F L H)(hx:L.ts[t]?=some x)(hg:H.bR[t]?=some g)(hc:H.tb[k]?=some c)(hl:g.ls[k]?=some l){R:Int->Int->Hp->Prop}
 (hR:∀σ' ts',Ext F U σ'->HH σ' (Grow F U) {L with ts:=ts'} (H.dX t g (g.ls.set k (KM c l).2))->R ((KM c l).1.getD 0) (if(KM c l).1.isSome then 0 else 4) σ'):Ym.c (aW x.c.p) (k:Int) U R:=by
 obtain⟨G,m,j,a⟩:=h.lE hx hg;refine ld j hc hl λσ' Y' e b d=>?_;obtain⟨e1,i⟩:=a σ' _ Y' b e d;exact hR σ' _ e1 i
theorem PZ (h:HH U F L H)(hx:L.ts[t]?=some x)(hg:H.bR[t]?=some g)(hc:H.tb[k]?=some c)(hl:g.ls[k]?=some l){R:Int->Int->Hp->Prop}
 (hR:∀σ' ts',Ext F U σ'->HH σ' (Grow F U) {L with ts:=ts'} H->R ((qp c l:Nat):Int) 0 σ'):Yj.c (aW x.c.p) (k:Int) U R:=by
 obtain⟨G,m,j,a⟩:=h.lE hx hg;refine ON j hc hl λσ' Y' e d i=>?_;obtain⟨e1,b⟩:=a σ' _ Y' d e i;have e2:H.dX t g g.ls=H:=by
  unfold Hw.dX;rw[QQ hg]
 rw[e2]at b;exact hR σ' _ e1 b
theorem NX (h:HH U F L H)(hx:L.ts[t]?=some x)(hg:H.bR[t]?=some g)(hc:H.tb[k]?=some c)(hl:g.ls[k]?=some l){sl:Sl}{xs:List Int}{X:Rg}(hs:cV sl 1 (Wy xs) U X)(hX:∀q,X q->¬F q)(hfit:l.os.length+xs.length<=256){R:aN}
 (hR:∀σ' ts',Ext F U σ'->HH σ' (Grow F U) {L with ts:=ts'} (H.dX t g (g.ls.set k (eO xs.reverse l)))->R 0 σ'):Yu.c (aW x.c.p) (k:Int) sl U R:=by
 obtain⟨G,b,r,a⟩:=h.lE hx hg;refine TF r hc hl hs (λq m hg=>hX q m (b q hg)) hfit λσ' Y' e d i=>?_;obtain⟨e1,j⟩:=a σ' _ Y' d e i;exact hR σ' _ e1 j
theorem MI (h:HH U F L H)(hx:L.ts[t]?=some x)(hg:H.bR[t]?=some g)(hc:H.tb[k]?=some c)(hl:g.ls[k]?=some l)(y:Int){R:Sl->Int->Hp->Prop}
 (hR:∀σ' ts' s e (Q:Rg),Ext F U σ'->(∀q,Q q->U.size<=q)->bT s 1 (Wy (dM c y l).1) σ' Q->HH σ' (λb=>Grow F U b/\¬Q b) {L with ts:=ts'} (H.dX t g (g.ls.set k (dM c y l).2))->R s e σ'):YY.c (aW x.c.p) (k:Int) y U R:=by
 obtain⟨G,z,w,a⟩:=h.lp hx hg;refine S5 w hc hl y λσ' Y' s u Q e i _ d r j=>?_;obtain⟨e1,m⟩:=a σ' _ Y' Q i e d j;exact hR σ' _ s u Q e1 d r m
theorem MT (h:HH U F L H)(hx:L.ts[t]?=some x)(hg:H.bR[t]?=some g){R:aO}(hR:∀σ',aF U σ'->R (decide (H.cf.dD<KC H.tb g.ls)) σ'):Yv.c (aW x.c.p) U R:=by
 obtain⟨G,d,b,a⟩:=h.lE hx hg;exact Τ b hR
theorem P9 (hso:oz)(h:HH U F L H)(hx:L.ts[t]?=some x)(hg:H.bR[t]?=some g){R:Sl->Hp->Prop}
 (hR:∀σ' s (Q:Rg),Ext F U σ'->(∀q,Q q->U.size<=q)->iz s (KK Qc H.tb g.ls) σ' Q->HH σ' (λb=>Grow F U b/\¬Q b) L (H.dX t g (KF Qc H.tb g.ls))->R s σ'):X2.c (aW x.c.p) U R:=by
 obtain⟨G,u,r,a⟩:=h.lp hx hg;refine PJ hso r λσ' s Q e i j m=>?_;obtain⟨e1,d⟩:=a σ' _ x.c Q rfl e i j;rw[show L.ts.set t {x with c:=x.c}=L.ts from QQ hx]at d;exact hR σ' s Q e1 i m d
theorem WdF (hso:oz)(h:HH U F L H)(hx:L.ts[t]?=some x)(hg:H.bR[t]?=some g){R:Sl->Hp->Prop}
 (hR:∀σ' s (Q:Rg),Ext F U σ'->(∀q,Q q->U.size<=q)->iz s (KK Vx H.tb g.ls) σ' Q->HH σ' (λb=>Grow F U b/\¬Q b) L (H.dX t g (KF Vx H.tb g.ls))->R s σ'):Xo.c (aW x.c.p) U R:=by
 obtain⟨G,u,r,a⟩:=h.lp hx hg;refine Px hso r λσ' s Q e i j m=>?_;obtain⟨e1,d⟩:=a σ' _ x.c Q rfl e i j;rw[show L.ts.set t {x with c:=x.c}=L.ts from QQ hx]at d;exact hR σ' s Q e1 i m d
def nm (S:aP)(L:dE)(tb:List cA):Prop:=∀m,S m->∃(P:Rg) (ts:List eR) (H:Hw),HH m P {L with ts:=ts} H/\H.tb=tb
theorem nm.dF {S:aP}{tb:List cA}(hS:nm S L tb){K:Sl->Prop}(hK:K L.dF):gJ S .s (Addr.add ⟨L.p,0,none⟩ 0) K:=⟨L.dF,λm a=>by obtain⟨_,_,_,h,_⟩:=hS m a;rw[add_lit,h.hd.cell];rfl,hK⟩
theorem nm.fU {S:aP}{tb:List cA}(hS:nm S L tb){K:Sl->Prop}(hK:K L.fU):gJ S .s (Addr.add ⟨L.p,0,none⟩ 7) K:=⟨L.fU,λm a=>by obtain⟨_,_,_,h,_⟩:=hS m a;rw[add_lit,h.hd.cell];rfl,hK⟩
theorem nm.rA {S:aP}{tb:List cA}(hS:nm S L tb)(h:HH U F L H)(hy:L.ys[k]?=some Y){K:Option Addr->Prop}(hK:K (some ⟨Y.p,0,none⟩)):Ix L.fU.a L.fU.len (k:Int) 1 λa=>gJ S .p a K:=by
 have j:(fO (L.ys.map (·.p)))[k]?=some (.pointer (some ⟨Y.p,0,none⟩)):=by simp[fO,hy]
 obtain⟨b,o,r,_⟩:=h.na.cell j;have z:=(cY.1 hy).1;have w:=h.np;have:=h.s.ys;rw[r];refine ix O O ⟨_,λm u=>?_,hK⟩;obtain⟨_,_,_,g,_⟩:=hS m u;obtain⟨x,y,d,i⟩:=g.na.cell j;rw[r]at d;cases d;rw[add_lit,show o+(k:Int).toNat*1=o+k by omega];exact i
theorem nm.rC {S:aP}(hS:nm S L H.tb)(h:HH U F L H)(hc:H.tb[k]?=some c){K:Int->Prop}(hK:K (c.size:Int)):Ix L.dF.a L.dF.len (k:Int) 3 λa=>gJ S bO (a.add 0) K:=by
 have g:(gH H.tb)[3*k+0]?=some (.int .i64 (c.size:Int)):=(yZ hc).1;obtain⟨b,o,s,_⟩:=h.jS.cell g;have z:=(cY.1 hc).1;have w:=h.pt;rw[s];refine ix O O ⟨_,λm u=>?_,hK⟩;obtain⟨_,_,_,j,p⟩:=hS m u;rw[←p]at g;obtain⟨x,y,d,r⟩:=j.jS.cell g;have d:L.dF.a=_:=d;rw[s]at d;cases d;rw[add_lit,add_lit,show o+(k:Int).toNat*3+0=o+(3*k+0) by omega];exact r
end Go.Ar
namespace Go.Ar
open Go Go.Vc Go.Proofs
variable {U u u':Hp}{F B P Q:Rg}{L:dE}{H H':Hw}{t k n pb:Nat}{A:AR}{Y:Lay}{x:eR}{g:Th}{c:cA}{l:Li}{cs:List Value}{parts:List (List Int)}{xs:List Int}
theorem HK.DX (K:HK F U B u P L H)(e:Ext B u u'){B':Rg}(hB:∀b,B' b->B b\/u.size<=b/\b<u'.size):HK F U B' u' P L H:=by
 have r:=e.1;have j:=K.e.1;have i:jd B/\¬B 1:=⟨K.o.1.sub λb g=>(K.b b g).1,λg=>K.o.2 (K.b _ g).1⟩;refine⟨K.h.bS e (λb _ a d=>(K.p b a).2.1 d) i.1 i.2,K.e.dW e λb m=>.inr (K.b b m).1,λb a=>⟨(K.p b a).1,λg=>?_,by have:=(K.p b a).2.2;omega⟩,λb a=>?_,K.o⟩
 ·rcases hB b g with d|d
  ·exact(K.p b a).2.1 d
  ·have:=(K.p b a).2.2;omega
 ·rcases hB b a with d|d
  ·have:=K.b b d;omega
  ·omega
def sV (s:Sl):Value:=.slice s.a s.len s.cap
def m6 (pb:Nat)(parts:List (List Int)):Hp->Rg->Prop:=λu Q=>∃(ps:List Sl) (Qs:Nat->Rg),ps.length=parts.length/\Q pb/\bY u pb (ps.map sV)/\(∀j b,Qs j b->Q b/\b≠pb)/\(∀j j' b,Qs j b->Qs j' b->j=j') ∧
 ∀j s xs,ps[j]?=some s->parts[j]?=some xs->dL s 1 (Wy xs) u (Qs j)
theorem m6.loc (pb:Nat)(parts:List (List Int)):dN (m6 pb parts):=by
 rintro U H F G ⟨y,Qs,A,B,m,i,w,x⟩ D g;have r:=g pb m.lt B;obtain⟨e,C⟩:=m;refine⟨y,λj b=>Qs j b/\b<U.size,A,r.1,⟨e,r.2.trans C⟩,λj b d=>⟨(g b d.2 (i j b d.1).1).1,(i j b d.1).2⟩,λj z b a E=>w j z b a.1 E.1,λj s u a b=>(dL.loc _ _ _) _ _ _ _ (x j s u a b) D λb d p=>⟨⟨p,d⟩,(g b d (i j b p).1).2⟩⟩
theorem m6.add (h:m6 pb parts u Q){a m e1 e2:Nat}(hm:m=parts.length)(ha:parts[a]?=some xs)(y:Int)(hl:xs.length<=1000000){K:aP}(hK:∀u',Ext Q u u'->m6 pb (parts.set a (xs++[y])) u' (Grow Q u)->K u') :
 Ix (some ⟨pb,0,none⟩) m (a:Int) 1 λa1=>jH a1 u λt35=>Nw (.cells #[.int .i64 y] e1 (0,0)) u λn37 v4=>App t35 1 8 e2 [.int .i64 0] ⟨some n37,1,1⟩ v4 λt38 v5=>Ix (some ⟨pb,0,none⟩) m (a:Int) 1 λa39=>dQ a39 (.slice t38.a t38.len t38.cap) v5 λv6=>K v6:=by
 obtain⟨B,Qs,h1,S,F,A,P,N⟩:=h;have M:=(cY.1 ha).1;have z:B[a]?=some (B[a]' O):=cW _;generalize (B[a]' O)=s at z;have i:=N a s xs z ha;have aa:s.len=xs.length:=by have:=i.1;simp[Wy]at this;omega
 refine ix O O ?_;rw[add_lit,show 0+(a:Int).toNat*1=a by omega];refine F.wg (a:=s.a) (n:=s.len) (c:=s.cap) (by simp[z,sV]) ?_;refine nw (cs:=[.int .i64 y]) λv4 hz e d=>?_;have r:=(dL.loc _ _ _).bP ((dL.loc _ _ _).cut i) e;have G:=e.bV F id;refine r.app (x:=⟨some ⟨u.size,0,none⟩,1,1⟩) (ys:=[.int .i64 y]) rfl rfl ?_ (by simp[dV]) ?_ ?_ nh λV v5 Y C L=>?_
 ·intro j w hw;rw[add_lit,zH,d.cell];exact hw
 ·simp only;omega
 ·simp only;omega
 have hz5:=C.1;have J:bY v5 pb (B.map sV):=C.bV G λp=>(A a pb p.1).2 rfl;refine ix O O ?_;rw[add_lit,show 0+(a:Int).toNat*1=a by omega];refine J.s0 aE λu' R g=>?_;have W:=R.1;have H:Ext (· = pb) v5 u':=R.ext;have eQ:Ext Q u u':=((aF.to e).trans (C.sub λb d=>(A a b d.1).1)).trans (H.sub λb d=>by rw[d];exact S);have Z:=F.lt;refine hK u' eQ ⟨B.set a V,λj b=>Qs j b/\b<u.size\/j=a/\v4.size<=b/\b<v5.size,by simp[h1],.inl S,?_,λj b d=>?_,λj X b d g=>?_,λj s2 ys E D=>?_⟩
 ·rw[wz];exact g
 ·rcases d with d|d
  ·exact⟨.inl (A j b d.1).1,(A j b d.1).2⟩
  ·exact⟨.inr O,O⟩
 ·rcases d with d|d<;>rcases g with g|g
  ·exact P j X b d.1 g.1
  ·omega
  ·omega
  ·omega
 ·by_cases hja:j=a
  ·subst hja;rw[zO O]at E;rw[zO M]at D;cases E;cases D;have:=(dL.loc _ _ _).bS ((dL.loc _ _ _).cut L) H λb _ d p=>by
    rcases d.1 with h7|h7
    ·exact(A j b h7.1).2 p
    ·omega
   have U:Wy (xs++[y])=Wy xs++[.int .i64 y]:=by simp[Wy]
   rw[U];refine(dL.loc _ _ _).mono this λb _ d=>?_;rcases d.1 with h7|h7
   ·exact .inl h7
   ·exact .inr ⟨rfl,h7,d.2⟩
  ·rw[zh (Ne.symm hja)]at E D;have:=(dL.loc _ _ _).cut (N j s2 ys E D);have:=(dL.loc _ _ _).bS ((dL.loc _ _ _).bS ((dL.loc _ _ _).bP this e) C λb _ d p=>hja (P j a b d.1 p.1)) H λb _ d p=>(A j b d.1).2 p;exact(dL.loc _ _ _).mono this λb _ d=>.inl d
theorem m6.get (h:m6 pb parts u Q){a m:Nat}(hm:m=parts.length)(ha:parts[a]?=some xs){K:Sl->Prop}(hK:∀s,dL s 1 (Wy xs) u Q->s.len=xs.length->K s):Ix (some ⟨pb,0,none⟩) m (a:Int) 1 λa1=>jH a1 u K:=by
 obtain⟨i,Qs,y,A,r,x,z,p⟩:=h;have j:=(cY.1 ha).1;have g:i[a]?=some (i[a]' O):=cW _;generalize (i[a]' O)=s at g;have d:=p a s xs g ha;refine ix O O ?_;rw[add_lit,show 0+(a:Int).toNat*1=a by omega];refine r.wg (a:=s.a) (n:=s.len) (c:=s.cap) (by simp[g,sV]) (hK s ((dL.loc _ _ _).mono d λb _ w=>(x a b w).1) ?_);have:=d.1;simp[Wy]at this;omega
theorem CP {bZ:List AR}{x:Int}(h:0<=Yh bZ x):(Yh bZ x).toNat<bZ.length/\Yh bZ x=((Yh bZ x).toNat:Int):=by
 refine⟨?_,O⟩;unfold Yh at *;split at h
 ·omega
 ·rename_i hx;rw[zB hx];split at h
  ·rename_i i hi;have:=(List.findIdx?_eq_some_iff_findIdx_eq.1 hi).1;simp only[dH];exact this
  ·omega
theorem N2 {bZ:List AR}{x:Int}{xs:List Int}(h:0<=Yh bZ x):((List.range bZ.length).map (Z9 bZ xs)).set (Yh bZ x).toNat (Z9 bZ xs (Yh bZ x).toNat++[x])=(List.range bZ.length).map (Z9 bZ (xs++[x])):=by
 have a:=CP h;apply zt;intro j;by_cases hj:j<bZ.length
 ·by_cases e:(Yh bZ x).toNat=j
  ·subst e;rw[zO (by simpa using hj)];simp only[zZ,nD hj,zg,Z9,xq]
   congr 2
   rw[uf (by rw[←a.2];simp)];rfl
  ·rw[zh e];simp only[zZ,nD hj,zg,Z9,xq];have:List.filter (λy=>Yh bZ y==(j:Int)) [x]=[]:=by
    rw[tM (by simp only[zU];omega)];rfl
   rw[this,kE]
 ·rw[zX aE,zX aE]
theorem KD {K:aO}{body:(Bool->Hp->Prop)->Prop}(P:aO)(h1:∀r w,P r w->K r w)(h2:∀J:Bool->Hp->Prop,(∀r w,P r w->J r w)->body J):bX K body:=bX.intro (h2 K h1)
theorem Bg {K:eX [.b]}{body:eX [.b]->Prop}(P:aO)(h1:∀r w,P r w->K r w)(h2:∀J:eX [.b],(∀r w,P r w->J r w)->body J):Jn [.b] K body:=Jn.intro (h2 K h1)
theorem tK {K:eX []}{body:eX []->Prop}(P:aP)(h1:∀w,P w->K w)(h2:∀J:eX [],(∀w,P w->J w)->body J):Jn [] K body:=Jn.intro (h2 K h1)
theorem VI {H:Hw}{k:Nat}{part:Nat->List Int}(j:Nat):VS H k part (List.range (j+1))=(match (VS H k part (List.range j)).bZ[j]? with
 | some A=>if part j=[]then VS H k part (List.range j)else(VS H k part (List.range j)).cF j (ZZ A (k:Int) (part j))
 | none=>VS H k part (List.range j)):=by
 unfold VS;rw[qQ,vK];rfl
theorem ψ {H:Hw}{k:Nat}{part:Nat->List Int}(j:Nat):(VS H k part (List.range j)).bZ.length=H.bZ.length:=by
 induction j with
 | zero=>rfl
 | succ j ih=>
  rw[VI];split
  ·split
   ·exact ih
   ·simp[Hw.cF,ih]
  ·exact ih
theorem PA {H:Hw}{k:Nat}{part:Nat->List Int}(j:Nat):(VS H k part (List.range j)).bR=H.bR:=by
 induction j with
 | zero=>rfl
 | succ j ih=>
  rw[VI];split
  ·split<;>exact ih
  ·exact ih
theorem CV (H:Hw)(own k:Nat)(xs:List Int):(GV H own k xs).bR=H.bR:=by
 unfold GV;split
 ·split
  ·rfl
  ·rw[PA];split<;>rfl
 ·rfl
def BZ (F:Rg)(U:Hp)(L:dE)(H:Hw)(pb:Nat)(parts:List (List Int))(cs:List Value)(w:Hp):Prop:=∃Q P:Rg,HK F U (λb=>b=U.size\/Q b) w P L H/\m6 pb parts w Q/\bY w U.size cs/\∀b,Q b->b≠U.size
theorem RY (h:HH U F L H){own:Nat}(ho:own<H.bZ.length)(k:Nat){sl:Sl}{xs:List Int}{X:Rg}(hs:cV sl 1 (Wy xs) U X)(hX:∀b,b<U.size->X b->¬F b)(hcap:sl.len<=sl.cap)(hx:∀x∈xs,iN x/\0<=Yh H.bZ x)(hl:xs.length<=1000000){R:aP}
 (hR:∀σ',Ext F U σ'->HH σ' (Grow F U) L (GV H own k xs)->R σ'):ZN.c (aW L.p) (own:Int) (k:Int) sl U R:=by
 refine ZN.o ?_;unfold ZN.v;have hsl:sl.len=xs.length:=by have:=hs.1;simp[Wy]at this;omega
 have ha2:=h.s.a2;have hal:=h.np;have hs1:∀u,Ext F U u->cV sl 1 (Wy xs) u (λb=>X b/\b<U.size):=λu eu=>aH.bS (aH.cut hs) eu λb _ hx hf=>hX b hx.2 hx.1 hf;refine nw (cs:=[.int .i64 (k:Int),.slice sl.a sl.len sl.cap]) λv hz e d=>?_;have K1:=(HK.start h).box e hz;refine bL (K1.h.hd.rS rfl ?_);simp only;refine mk (n:=L.fU.len) O O λv1 hz1 e1 hb1=>?_;have K2:=K1.box e1 hz1;have hb2:=e1.bV d id;have N:m6 v.size ((List.range H.bZ.length).map (Z9 H.bZ [])) v1 (λb=>b=v.size):=by
  refine⟨List.replicate H.bZ.length ⟨none,0,0⟩,λ_ _=>False,by simp,rfl,?_,λj b d=>d.elim,λj j' b d=>d.elim,λj s ys g h2=>?_⟩
  ·have:(List.replicate L.fU.len [Value.slice none 0 0]).flatten=(List.replicate H.bZ.length (⟨none,0,0⟩:Sl)).map sV:=by
    rw[hal];simp[sV]
   rw[←this];exact hb1
  ·simp only[zZ,oH]at h2;obtain⟨a,_,rfl⟩:=h2;simp only[mI]at g;split at g
   ·cases g;exact dL.nil _ _ _ _
   ·cases g
 have hpl:∀ys:List Int,L.fU.len=((List.range H.bZ.length).map (Z9 H.bZ ys)).length:=λys=>by simp[hal]
 refine hb2.rS rfl ?_;refine Qz (a:=bO) (λ(z:Int) w=>∃i:Nat,z=(i:Int)/\i<=xs.length/\BZ F U L H v.size ((List.range H.bZ.length).map (Z9 H.bZ (xs.take i))) [.int .i64 (k:Int),.slice sl.a sl.len sl.cap] w) (λz _=>xs.length-z.toNat)
  ⟨0,rfl,O,λb=>b=v.size,_,⟨K2.h,K2.e,λb d=>⟨(K2.p b d).1,λhx=>(K2.p b d).2.1 (hx.imp .inr id),(K2.p b d).2.2⟩,λb d=>K2.b b (d.imp .inr id),K2.o⟩,N,hb2,λb d=>O⟩ ?_
 rintro z w ⟨i,rfl,hi,Q,P,K,N,C,hQ⟩;refine cP (λG=>?_) λhge=>?_
 ·simp only at G;have hi':i<xs.length:=by omega
  have aa:xs[i]?=some xs[i]:=cW hi';generalize xs[i]=y at aa;have hy:=hx y (zG aa);refine(hs1 w K.e).lL aa (Bq K.h y hy.1 λZ e1=>?_);have G:=CP hy.2;rw[G.2];have hP1:m6 v.size _ Z (λb=>Q b/\b<w.size):=(m6.loc _ _).bP ((m6.loc _ _).cut N) e1;have hpart:((List.range H.bZ.length).map (Z9 H.bZ (xs.take i)))[(Yh H.bZ y).toNat]?=some (Z9 H.bZ (xs.take i) (Yh H.bZ y).toNat):=by
   simp only[zZ,nD G.1,zg]
  have hpl1:(Z9 H.bZ (xs.take i) (Yh H.bZ y).toNat).length<=1000000:=by
   have:=pM (λx=>Yh H.bZ x==(((Yh H.bZ y).toNat:Nat):Int)) (xs.take i);simp only[Z9];rw[zY]at this;omega
  refine hP1.add (hpl _) hpart y hpl1 λw2 e2 hP2=>?_;rw[N2 hy.2]at hP2;have ht:xs.take i++[y]=xs.take (i+1):=by rw[kC,aa];rfl
  rw[ht]at hP2;have hz1:=e1.1;have hz2:=e2.1;refine cT (m:=i+1) O O ⟨⟨i+1,rfl,O,λb=>(Q b/\b<w.size)\/Z.size<=b/\b<w2.size,P,(K.fr e1).DX (e2.sub λb d=>.inr d.1) λb d=>?_,(m6.loc _ _).mono hP2 λb d M=>?_,?_,λb d=>?_⟩,O⟩
  ·rcases d with d|d|d
   ·exact .inl (.inl d)
   ·exact .inl (.inr d.1)
   ·exact .inr d
  ·rcases M with M|M
   ·exact .inl M
   ·exact .inr ⟨M,d⟩
  ·exact e2.bV (e1.bV C id) λhx=>hQ _ hx.1 rfl
  ·have:=(K.b U.size (.inl rfl)).2;rcases d with d|d
   ·exact hQ b d.1
   ·omega
 ·have hii:i=xs.length:=by simp only at hge;omega
  subst hii;rw[lV]at N;obtain⟨A,hA⟩:∃A,H.bZ[own]?=some A:=⟨_,cW ho⟩;obtain⟨Y,hY,_,_⟩:=h.ar hA;have D:GV H own k xs=(if(Z9 H.bZ xs own).length=xs.length/\VG A (k:Int) xs=true then H.cF own (KG A (k:Int) xs)
   else VS (if(Z9 H.bZ xs own).length=xs.length then H.cF own (KG A (k:Int) xs)else H) k (Z9 H.bZ xs) (List.range H.bZ.length)):=by
   unfold GV;rw[hA]
  have hown:((List.range H.bZ.length).map (Z9 H.bZ xs))[own]?=some (Z9 H.bZ xs own):=by
   simp only[zZ,nD ho,zg]
  refine tK (λw=>¬((Z9 H.bZ xs own).length=xs.length/\VG A (k:Int) xs=true)/\BZ F U L (if(Z9 H.bZ xs own).length=xs.length then H.cF own (KG A (k:Int) xs)else H) v.size ((List.range H.bZ.length).map (Z9 H.bZ xs)) [.int .i64 (k:Int),.slice sl.a sl.len sl.cap] w) (λw hw=>?_) λJ hJ=>?_
  ·obtain⟨hno,hw⟩:=hw;rw[zB hno]at D;generalize hH1:(if(Z9 H.bZ xs own).length=xs.length then H.cF own (KG A (k:Int) xs)else H)=H1 at hw D
   have hH1l:H1.bZ.length=H.bZ.length:=by
    rw[←hH1];split
    ·simp[Hw.cF]
    ·rfl
   refine Qz (a:=bO) (λ(z:Int) w=>∃j:Nat,z=(j:Int)/\j<=H.bZ.length/\BZ F U L (VS H1 k (Z9 H.bZ xs) (List.range j)) v.size ((List.range H.bZ.length).map (Z9 H.bZ xs)) [.int .i64 (k:Int),.slice sl.a sl.len sl.cap] w) (λz _=>H.bZ.length-z.toNat) ⟨0,rfl,O,hw⟩ ?_;rintro z w ⟨j,rfl,hj,Q,P,K,N,C,hQ⟩;refine cP (λG=>?_) λhge=>?_
   ·simp only at G;have hj':j<H.bZ.length:=by omega
    have hpj:((List.range H.bZ.length).map (Z9 H.bZ xs))[j]?=some (Z9 H.bZ xs j):=by
     simp only[zZ,nD hj',zg]
    refine N.get (hpl _) hpj λs S W=>?_;have hfl:=ψ (H:=H1) (k:=k) (part:=Z9 H.bZ xs) j;obtain⟨B,hB⟩:∃B,(VS H1 k (Z9 H.bZ xs) (List.range j)).bZ[j]?=some B:=⟨_,cW O⟩;have E:=VI (H:=H1) (k:=k) (part:=Z9 H.bZ xs) j;rw[hB]at E;simp only at E;refine cP (λhpos=>?_) λhz0=>?_
    ·have V:Z9 H.bZ xs j≠[]:=λe=>by rw[e]at W;simp at W;omega
     rw[zB V]at E;obtain⟨Y,hY,_,_⟩:=K.h.ar hB;refine bL (K.h.hd.rS rfl (K.h.rA hY (C.rI rfl ?_)));refine M7 K.h hB hY (k:Int) (dL.fW S) (λb _ M hp=>(K.p b hp).2.1 (.inr M)) (λx hx'=>(hx x (zJ.1 hx').1).1) ?_ (dL.cap S) λZ e1 g=>?_
     ·have:=pM (λx=>Yh H.bZ x==(j:Int)) xs;simp only[Z9];omega
     ·have hz1:=e1.1;rw[←E]at g;refine cT (m:=j+1) O O ⟨⟨j+1,rfl,O,Q,_,K.to e1 g λb _ d=>d,(m6.loc _ _).bS N e1 λb _ M hp=>(K.p b hp).2.1 (.inr M),K.cZ e1 C (.inl rfl),hQ⟩,O⟩
    ·have V:Z9 H.bZ xs j=[]:=uO O;rw[zC V]at E;refine cT (m:=j+1) O O ⟨⟨j+1,rfl,O,Q,P,by rw[E];exact K,N,C,hQ⟩,O⟩
   ·have hjj:j=H.bZ.length:=by simp only at hge;omega
    subst hjj;rw[D]at hR;exact hR w K.e (K.fin h)
  ·refine N.get (hpl _) hown λs S W=>C.rS rfl ?_;refine cO (λheq=>?_) λV=>?_
   ·have ab:(Z9 H.bZ xs own).length=xs.length:=by simp only[zU]at heq;omega
    rw[zC ab]at D hJ;have hS:nm (λu=>(∃P' H',HH u P' L H'/\H'.tb=H.tb)/\bY u U.size [.int .i64 (k:Int),.slice sl.a sl.len sl.cap]) L H.tb:=λm hm=>by
     obtain⟨⟨P',H',g,h2⟩,_⟩:=hm;exact⟨P',L.ts,H',g,h2⟩
    refine⟨λu=>(∃P' H',HH u P' L H'/\H'.tb=H.tb)/\bY u U.size [.int .i64 (k:Int),.slice sl.a sl.len sl.cap],⟨⟨_,_,K.h,rfl⟩,C⟩,bL (hS.fU (hS.rA K.h hY ?_))⟩;refine⟨(k:Int),λm hm=>by rw[add_lit,hm.2.cell];rfl,⟨sl,λm hm=>by rw[add_lit,hm.2.cell];rfl,?_⟩⟩;refine My K.h hA hY (k:Int) (hs1 w K.e) (λx hx'=>(hx x hx').1) λZ e1 g=>?_;have K1:=K.to e1 g λb _ d=>d;refine⟨⟨⟨_,_,g,rfl⟩,K.cZ e1 C (.inl rfl)⟩,?_⟩;have fin:∀r,r=VG A (k:Int) xs->((r=true->R Z)/\(r=false->J Z)):=λr hr=>by
     refine⟨λhr1=>?_,λhr1=>hJ Z ⟨λhx=>Bool.noConfusion ((hr1.symm.trans hr).trans hx.2),Q,_,K1,(m6.loc _ _).bS N e1 λb _ M hp=>(K.p b hp).2.1 (.inr M),K.cZ e1 C (.inl rfl),hQ⟩⟩;rw[zC ⟨ab,by rw[←hr,hr1]⟩]at D;rw[D]at hR;exact hR Z K1.e (K1.fin h)
    refine KD (λr w=>w=Z/\r=VG A (k:Int) xs) (λr w' ⟨hw,hr⟩=>?_) λJ3 hJ3=>?_
    ·subst hw;exact cO (λg=>(fin r hr).1 g) λg=>(fin r hr).2 g
    ·refine cO (λg=>hJ3 _ _ ⟨rfl,?_⟩) λg=>hJ3 _ _ ⟨rfl,g.symm⟩;have:HT A (k:Int) xs=0:=by
      unfold VG at g;simp only[zF,zV]at g;exact g.1
     rw[this,g];rfl
   ·have ac:¬(Z9 H.bZ xs own).length=xs.length:=by
     simp only[mP]at V;omega
    rw[zB ac]at hJ;exact hJ w ⟨λhx=>ac hx.1,Q,P,K,N,C,hQ⟩
theorem gO {w:Hp}(K:HK F U B w P L H)(hB:B n){p q:Int}(hb:bY w n [.int .i64 p,.int .i64 q]){x y:Int}{K':Int->Int->Hp->Prop}(hK:∀w',HK F U B w' P L H->K' x y w') :
 dQ (Addr.add ⟨n,0,none⟩ 0) (.int .i64 x) w λv3=>dQ (Addr.add ⟨n,0,none⟩ 1) (.int .i64 y) v3 λv4=>gI .i64 (Addr.add ⟨n,0,none⟩ 0) v4 λres=>gI .i64 (Addr.add ⟨n,0,none⟩ 1) v4 λpG=>K' res pG v4:=
 hb.s1 aA λv3 o3 a=>a.s1 aA λv4 o4 b4=>b4.rI rfl (b4.rI rfl (hK v4 ((K.own o3 hB).own o4 hB)))
theorem Κ (h:HH U F L H)(ht:t<H.bR.length)(x:Int)(hx:iN x)(hr:bU H.live x=none->∀A∈H.bZ,iO A)(hlen:∀g,H.bR[t]?=some g->g.bQ.length<=1000)(h0:∀b,bU H.live x=some b->0<=x){R:Value->Int->Int->Hp->Prop}
 (hR:∀σ' ts',Ext F U σ'->HH σ' (Grow F U) {L with ts:=ts'} (HC H t x).1->R (nr (HC H t x).2.1) (HC H t x).2.2.1 (HC H t x).2.2.2 σ'):ZQ.c (aW L.p) (t:Int) x U R:=by
 refine ZQ.o ?_;unfold ZQ.v;refine nw (cs:=[.int .i64 0,.int .i64 0]) λv hz e hb=>?_;have K1:=(HK.start h).box e hz;refine bL (K1.h.hd.rM rfl ⟨_,K1.h.ng,?_⟩);refine nw (cs:=[.int .i64 0,.int .i64 0,.int .i64 0,.int .i64 0]) λv1 hz1 e1 hb1=>?_;have K2:=K1.box e1 hz1;have hbv:=e1.bV hb id;have s:U.size≠v.size:=by omega
 refine hb1.s1 aA λv2 o2 b2=>b2.s1 aA λv3 o3 b3=>b3.s1 aA λv4 o4 b4=>b4.s1 aA λv5 o5 b5=>?_;have K5:=(((K2.own o2 (.inr rfl)).own o3 (.inr rfl)).own o4 (.inr rfl)).own o5 (.inr rfl);have C:=WF o5 (WF o4 (WF o3 (WF o2 hbv s) s) s) s;have hL:L = {L with ts:=L.ts}:=rfl;cases hm:bU H.live x with
 | none=>
  have hno:HC H t x=(H,none,0,l4 H x):=by unfold HC;rw[hm]
  rw[hno]at hR;simp only at hR;refine cE rfl ?_;refine tK (λw=>l4 H x=8/\aF v5 w) (λw ⟨h8,ew⟩=>?_) λJ M=>?_
  ·rw[h8]at hR;exact gO (n:=U.size) (K5.fr ew) (.inl (.inr rfl)) (ew.bV C id) λG K'=>hR G L.ts K'.e (K'.fin h)
  ·refine Bq K5.h x hx λv9 S=>?_;have K9:=K5.fr S;have hb9:=S.bV C id;refine cP (λW=>?_) λhlt=>M v9 ⟨zB O,S⟩;have N:=CP W;obtain⟨A,hA⟩:∃A,H.bZ[(Yh H.bZ x).toNat]?=some A:=⟨_,cW N.1⟩;obtain⟨Y,hY,_,hAY⟩:=K9.h.ar hA;have a:l4 H x=(match Hy A x with
    | some (k,y)=>if 0<=k/\(y:Int)=x then(9:Int)else 8
    | none=>8):=by unfold l4;rw[zC W,hA];rfl
   rw[N.2];refine bL (K9.h.hd.rS rfl (K9.h.rA hY ?_));refine TK hAY (hr hm A (zG hA)) x hx (λz k y d hf=>?_) λz d hf=>?_
   ·rw[hf]at a;simp only at a;rw[a]at hR M;have K10:=K9.fr d;have aa:=d.bV hb9 id;refine KD (λr w=>w=z/\r=decide (0<=k)) (λr w ⟨Q,i⟩=>?_) λJ1 E=>?_
    ·subst Q;subst i;refine KD (λr w2=>w2=w/\r=decide (0<=k/\(y:Int)=x)) (λr w2 ⟨Q,i⟩=>?_) λJ2 ab=>?_
     ·subst i;rw[Q];refine cP (λB=>?_) λB=>?_
      ·rw[zC B]at hR;exact gO (n:=U.size) K10 (.inl (.inr rfl)) aa λG K'=>hR G L.ts K'.e (K'.fin h)
      ·exact M w ⟨zB B,S.trans d⟩
     ·refine cP (λB=>ab _ _ ⟨rfl,?_⟩) λB=>ab _ _ ⟨rfl,?_⟩
      ·by_cases hyx:(y:Int)=x
       ·rw[zI (⟨B,hyx⟩:0<=k/\(y:Int)=x),zU.2 hyx]
       ·rw[zL (λhx=>hyx hx.2),mP.2 hyx]
      ·rw[zL (λhx=>B hx.1)]
    ·exact cE rfl (E _ _ ⟨rfl,rfl⟩)
   ·rw[hf]at a;simp only at a;rw[a]at M;refine KD (λr w=>w=z/\r=false) (λr w ⟨Q,i⟩=>?_) λJ1 E=>cD rfl (E _ _ ⟨rfl,rfl⟩);subst Q;subst i;exact bX.intro (cD rfl (cD rfl (M w ⟨rfl,S.trans d⟩)))
 | some b=>
  have hb0:=h0 b hm;have hfd:HC H t x=(if b.2.2.1<0 then({H with live:=cN H.live x},some (.dG (x/256) b.2.2.2),0,0)
   else(Kr {H with live:=cN H.live x} t b.2.2.1.toNat [x],some (.put b.2.2.1.toNat x),0,0)):=by unfold HC;rw[hm]
  rw[hfd]at hR;have hgb:(bU H.live x).getD ((0,0,0,0):Bk)=b:=by rw[hm];rfl
  rw[hgb]at b5;refine cD rfl ?_;refine bL (K5.h.hd.rM rfl ?_);obtain⟨hF,V⟩:=K5.h.sX;refine⟨_,K5.h.ng,λv6 o6 _ hm6=>?_⟩;obtain⟨e6,h6⟩:=V v6 _ (o6 _ rfl) hm6;have K6:=K5.to e6 h6 λb _ hb=>.inl hb;have P:=K5.cZ e6 C (.inl (.inr rfl));have m:=K5.cZ e6 b5 (.inr rfl);refine m.rI rfl (cP (λX=>?_) λhnn=>?_)
  ·have D:b.2.2.1<0:=X;rw[zC D]at hR;refine nz aB (ar (by rw[Ye O];omega) (by rw[Ye O];unfold iN at hx;omega) (m.rI rfl ?_));rw[Ye O];exact gO (n:=U.size) K6 (.inl (.inr rfl)) P λG K'=>hR G L.ts K'.e (K'.fin h)
  ·have Z:¬b.2.2.1<0:=hnn;rw[zB Z]at hR;refine m.rI rfl (nw (cs:=[.int .i64 x]) λv7 hz7 e7 hb7=>?_);have K7:=K6.box e7 hz7;have ac:=e7.bV P id;have hc7:=e7.bV m id;have K:b.2.2.1=((b.2.2.1.toNat:Nat):Int):=by omega
   have hs7:cV ⟨some ⟨v6.size,0,none⟩,1,1⟩ 1 (Wy [x]) v7 (· = v6.size):=hb7.fW (o:=0) rfl rfl λj hj=>by rw[zH];rfl
   have hz6:=K6.e.1;rw[K];refine Am K7.h (t:=t) ht b.2.2.1.toNat hs7 (zD _) aA (λq _ u hp=>(K7.p q hp).2.1 (.inr u)) (K7.o.1.sub λq u=>O) (λu=>K7.o.2 O) hlen λv8 ts8 e8 h8=>?_;have K8:=(K6.fr e7).tV e8 h8 λq hql u=>by
    rcases u with u|u
    ·exact u.imp id .inl
    ·refine .inr (.inr ⟨.inr O,λhB=>?_⟩);have:=(K6.b q hB).2;omega
   have hb8:=K7.cZ e8 ac (.inl (.inl (.inr rfl)));have hc8:=K7.cZ e8 hc7 (.inl (.inr rfl));refine hc8.rI (x:=((b.2.2.1.toNat:Nat):Int)) (by rw[←K];rfl) ?_;exact gO (n:=U.size) K8 (.inl (.inr rfl)) hb8 λG K'=>hR G ts8 K'.e (K'.fin h)
end Go.Ar
namespace Go.Ar
open Go Go.Vc Go.Proofs
variable {U u u':Hp}{F B P Q:Rg}{L:dE}{H H':Hw}{t k n pb:Nat}{A:AR}{Y:Lay}{x:eR}{g:Th}{c:cA}{l:Li}{cs:List Value}
theorem sA {t' t:TypeId}{w:Value}{A B:Prop}(hne:t'≠t)(h:B):∃is:Bool,ko (.iface t' w) t [] [] is/\If is A B:=⟨false,⟨rfl,.inr ⟨_,_,rfl,hne⟩⟩,cD rfl h⟩
theorem lr {t' t:TypeId}{w:Value}{A B:Int->Prop}(hne:t'≠t)(h:B 0):∃x:Int,∃is:Bool,ko (.iface t' w) t [.int .i64 x] [.int .i64 0] is/\If is (A x) (B x):=⟨0,false,⟨rfl,.inr ⟨_,_,rfl,hne⟩⟩,cD rfl h⟩
theorem jk {t' t:TypeId}{w:Value}{A B:Int->Int->Prop}(hne:t'≠t)(h:B 0 0):∃x:Int,∃y:Int,∃is:Bool,ko (.iface t' w) t [.int .i64 x,.int .i64 y] [.int .i64 0,.int .i64 0] is/\If is (A x y) (B x y):=⟨0,0,false,⟨rfl,.inr ⟨_,_,rfl,hne⟩⟩,cD rfl h⟩
theorem DL {t:TypeId}{A B:Prop}(h:A):∃is:Bool,ko (.iface t (.agg #[])) t [] [] is/\If is A B:=⟨true,rfl,cE rfl h⟩
theorem Bz {t:TypeId}{a:Int}{A B:Int->Prop}(h:A a):∃x:Int,∃is:Bool,ko (.iface t (.agg #[.int .i64 a])) t [.int .i64 x] [.int .i64 0] is/\If is (A x) (B x):=⟨a,true,rfl,cE rfl h⟩
theorem wH {t:TypeId}{a b:Int}{A B:Int->Int->Prop}(h:A a b):∃x:Int,∃y:Int,∃is:Bool,ko (.iface t (.agg #[.int .i64 a,.int .i64 b])) t [.int .i64 x,.int .i64 y] [.int .i64 0,.int .i64 0] is/\If is (A x y) (B x y):=⟨a,b,true,rfl,cE rfl h⟩
theorem HH.tc (h:HH u P L H)(hx:L.ts[t]?=some x)(hg:H.bR[t]?=some g){b o:Nat}(ha:L.cS.a=some ⟨b,o,none⟩){d:Nat}(hd:d<3){v:Value}(hv:(jJ (x,g))[d]?=some v):cell u (Addr.add ⟨b,o+3*t,none⟩ d)=some v:=by
 obtain⟨m,p,i,j⟩:=wX h.m9 hx hg hd hv;rw[ha]at i;cases i;rw[add_lit,show o+3*t+d=o+(3*t+d) by omega];exact j
theorem HH.xZ (h:HH u P L H)(hP:∀b,P b->b<u.size)(hx:L.ts[t]?=some x)(hg:H.bR[t]?=some g)(N:Rg)(hN:∀b,b<u.size->P b->¬N b)(oN:jd N)(oN2:¬N 1) :
 ∃G D:Rg,(∀b,G b->P b)/\(∀b,D b->P b)/\(∀b,G b->¬D b)/\iz x.h g.bQ u G/\(∀u1,Ext G u u1->cV L.cS 3 (ia L.ts H.bR) u1 D) ∧
 ∀(u1:Hp) (s:Sl) (bs:List Bt) (G':Rg),Ext G u u1->(∀b,G' b->G b\/N b)->iz s bs u1 G'->∀{b o:Nat} (ha:L.cS.a=some ⟨b,o,none⟩) {K:aP},
  (∀u2,Ext D u1 u2->HH u2 (λb=>P b/\¬G b\/G' b/\b<u1.size) {L with ts:=L.ts.set t {x with h:=s}} {H with bR:=H.bR.set t {g with bQ:=bs}}->K u2) →
  dQ (Addr.add ⟨b,o+3*t,none⟩ 1) (.slice s.a s.len s.cap) u1 K:=by
 have W:=h.mq;have Q:=GF h.s.ts;have M:=(cY.1 hg).1;obtain⟨G,D,B,y,hd,R,E,_,p⟩:=h.tj hx hg N hN oN oN2;have r:∀u1,Ext G u u1->bT L.cS 3 (ia L.ts H.bR) u1 D:=λu1 e=>aI.bS E e λb _ d hx=>hd b hx d;refine⟨G,D,B,y,hd,R,λu1 e=>bT.fW (r u1 e),λu1 s bs G' e i A b o ha K U=>?_⟩;have F:o=0:=by
  rcases E.2 with⟨h0,_⟩|⟨S,_,_,ha',_⟩
  ·omega
  ·rw[ha]at ha';cases ha';rfl
 subst F;have m:∀b,G' b->¬D b:=λb d hx=>by
  rcases i b d with h1|h1
  ·exact hd b h1 hx
  ·exact hN b (hP b (y b hx)) (y b hx) h1
 refine(r u1 e).st (j:=3*t+1) O (λS w=>by rw[ha]at w;cases w;rw[add_lit];congr 1;omega) λu2 e2 z=>?_;have C:=(iz.loc _ _).bS ((iz.loc _ _).cut A) e2 λb _ d hx=>m b d.1 hx;obtain⟨V,J⟩:=p u2 s bs (Cut G' u1) D ((e.sub λb d=>.inl d).trans (e2.sub λb d=>.inr d)) (λb d=>(i b d.1).imp .inl id) (λb d=>.inl (.inr d)) (λb d=>m b d.1) C z;refine U u2 e2 (J.mono (λb _ d=>?_) (λb (d:P b/\¬G b\/G' b/\b<u1.size)=>?_) λ(d:P _/\¬G _\/G' _/\_<u1.size)=>?_)
 ·rcases d with d|d|d
  ·exact .inl ⟨d.1,λhx=>d.2.2 (.inl hx)⟩
  ·exact .inr d
  ·exact .inl ⟨y b d,λhx=>hd b hx d⟩
 ·rcases d with d|d
  ·exact h.o b d.1
  ·exact(i b d.1).elim (λhx=>h.o b (B b hx)) (oN b)
 ·rcases d with d|d
  ·exact h.o2 d.1
  ·exact(i _ d.1).elim (λhx=>h.o2 (B _ hx)) oN2
theorem iz.mQ {s:Sl}{G:Rg}{xs:List Int}{r:List Bt}(h:iz s ((k,xs)::r) u G):∃(so:Sl) (ps:List (Nat×Sl)) (D:Rg),dL s 2 (fL ((k,so)::ps)) u (λb=>G b/\¬D b)/\cV so 1 (Wy xs) u (λb=>D b/\kV so b)/\so.len<=so.cap/\kG ps r u (λb=>D b/\¬kV so b)/\(∀b,D b->G b)/\vz ps/\(∀x∈r,x.2≠[])/\xs≠[]:=by
 obtain⟨ps,D,g,m,C,K,d⟩:=h;cases ps with
 | nil=>have:=m.1;simp at this
 | cons p ps=>
  obtain⟨H,so⟩:=p;obtain⟨e1,y,A⟩:=m.2 0 (H,so) (k,xs) rfl rfl;simp only at e1 y A;subst e1;have j:=td.1 K;refine⟨so,ps,D,g,y.lU,A,⟨by have:=m.1;simpa using this,λi p x z w=>?_⟩,C,j.2,λx w=>d x (lg _ w),d _ lW⟩;obtain⟨J,N,E⟩:=m.2 (i+1) p x (by simpa using z) (by simpa using w);refine⟨J,aH.mono N.lU λb _ B=>⟨B.1,?_⟩,E⟩;rintro⟨a,h1,h2⟩;obtain⟨L,F,M⟩:=B.2;exact j.1 p (zG z) a L h1 F (h2.trans M.symm)
theorem iz.lS {s:Sl}{G:Rg}{b:Bt}{r:List Bt}(h:iz s (b::r) u G):iz ⟨if s.cap=1 then s.a else s.a.map (·.add (1*2)),s.len-1,s.cap-1⟩ r u G:=by
 have j:=h.len;obtain⟨k,y⟩:=b;obtain⟨C,m,D,d,z,B,x,i,p,g,A⟩:=h.mQ;exact⟨m,D,d.from (lo:=1) (by simp at j;omega),(kG.loc _ _).mono x λb _ w=>w.1,i,p,g⟩
theorem JM {s so:Sl}{ps:List (Nat×Sl)}{G:Rg}(h:cV s 2 (fL ((k,so)::ps)) u G){K:Addr->Prop}(hK:∀a,cell u (Addr.add a 0)=some (.int .i64 (k:Int))->cell u (Addr.add a 1)=some (.slice so.a so.len so.cap)->K a):Ix s.a s.len 0 2 K:=by
 obtain⟨b,o,m,p⟩:=h.cell (j:=0) (v:=.int .i64 (k:Int)) rfl;obtain⟨w,r,d,g⟩:=h.cell (j:=1) (v:=.slice so.a so.len so.cap) rfl;have i:=h.1;rw[Vl]at i;simp only[zS]at i;rw[m]at d;cases d;rw[m];refine ix O O ?_;rw[add_lit];exact hK _ (by rw[add_lit];exact p) (by rw[add_lit];exact g)
theorem iz.app {s s2:Sl}{G Q:Rg}{bs bs2:List Bt}{e:Nat}(h:iz s bs u G)(h2:iz s2 bs2 u Q)(hd:∀b,G b->¬Q b)(hl:bs.length+bs2.length<=1000){K:Sl->Hp->Prop}
 (hK:∀s' u',Ext G u u'->iz s' (bs++bs2) u' (λb=>G b\/Q b\/u.size<=b)->K s' u'):App s 2 32 e [.int .i64 0,.slice none 0 0] s2 u K:=by
 have l1:=h.len;have l2:=h2.len;obtain⟨S,D,y,F,V,E,A⟩:=h;obtain⟨C,D2,z,m,r,L,w⟩:=h2;by_cases h0:s2.len=0
 ·have U:bs2=[]:=uO O;subst U;refine y.Cr h0 (by
   have:s.len*32<=1000*32:=mu (by simp at hl;omega) O;omega) (by simp at hl;omega) λN=>hK _ u (Ext.refl _ _) ?_
  rw[kE];exact⟨S,D,(dL.loc _ _ _).mono N λb _ d=>⟨.inl d.1,d.2⟩,F,λb d=>.inl (V b d),E,A⟩
 ·have e1:(s.len+s2.len)*32<=1000*32:=mu O O;refine((dL.loc _ _ _).cut y).app (ys:=fL C) rfl (by rw[Vl];have:=m.1;omega) z.fW.rd H6 O O O λs' u' _ J N=>hK s' u' (J.sub λb d=>d.1.1) ?_;have hz:=J.1;have X:=F.1;refine⟨S++C,λb=>D b/\b<u.size\/D2 b/\b<u.size,?_,⟨by simp[F.1,m.1],λi p x B g=>?_⟩,λb d=>?_,qP.2 ⟨E,L,λp B q hq a a' W P e3=>?_⟩,λx g=>(zM.1 g).elim (A x) (w x)⟩
  ·rw[HB];refine(dL.loc _ _ _).mono N λb _ d=>?_;rcases d with d|d
   ·exact⟨.inl d.1.1,λg=>g.elim (λg=>d.1.2 g.1) λg=>hd b d.1.1 (r b g.1)⟩
   ·exact⟨.inr (.inr d),λg=>by rcases g with g|g<;>omega⟩
  ·rcases kv i S.length with hi|hi
   ·rw[zd hi]at B;rw[zd O]at g;obtain⟨R,Y,M⟩:=F.2 i p x B g;exact⟨R,aH.mono (aH.bS (aH.cut Y) J λb _ d g=>g.1.2 d.1) λb _ d=>.inl d,M⟩
   ·rw[zr hi]at B;rw[zr O,←X]at g;obtain⟨R,Y,M⟩:=m.2 _ p x B g;exact⟨R,aH.mono (aH.bS (aH.cut Y) J λb _ d g=>hd b g.1.1 (r b d.1)) λb _ d=>.inr d,M⟩
  ·rcases d with d|d
   ·exact .inl (V b d.1)
   ·exact .inr (.inl (r b d.1))
  ·obtain⟨i,hi⟩:=zP B;obtain⟨j,E⟩:=zP hq;have hil:=(cY.1 hi).1;have hjl:=(cY.1 E).1;have Z:bs[i]?=some (bs[i]' O):=cW _;have H:bs2[j]?=some (bs2[j]'(by have:=m.1;omega)):=cW _;have b1:=(F.2 i p _ hi Z).2.1.bV (by simpa[Wy]using A _ (zG Z)) ⟨a,W,rfl⟩;have b2:=(m.2 j q _ E H).2.1.bV (by simpa[Wy]using w _ (zG H)) ⟨a',P,rfl⟩;rw[e3]at b1;exact hd _ (V _ b1.1) (r _ b2.1)
theorem HK.xw (K:HK F U B u P L H){B':Rg}(h1:∀b,B' b->U.size<=b/\b<u.size/\¬P b):HK F U (λb=>B b\/B' b) u P L H:=
 ⟨K.h,K.e,λb a=>⟨(K.p b a).1,λg=>g.elim (K.p b a).2.1 λd=>(h1 b d).2.2 a,(K.p b a).2.2⟩,λb a=>a.elim (K.b b) λd=>⟨(h1 b d).1,(h1 b d).2.1⟩,K.o⟩
theorem ZW (hg:H.bR[t]?=some g)(f:Th->Th):H.eC t f = {H with bR:=H.bR.set t (f g)}:=by
 unfold Hw.eC;rw[VE hg]
theorem G0 (hg:H.bR[t]?=some g):H.ka t=g:=by unfold Hw.ka;rw[zQ,hg];rfl
theorem UF (hc:H.tb[k]?=some c):H.cls k=c:=by unfold Hw.cls;rw[zQ,hc];rfl
theorem AW (hl:g.ls[k]?=some l):g.li k=l:=by unfold Th.li;rw[zQ,hl];rfl
theorem BC (ha:H.bZ[H.own t]?=some A):H.eL t=A:=by unfold Hw.eL;rw[zQ,ha];rfl
theorem j4 (h:HS L H)(t:Nat):H.own t<H.bZ.length:=vT _ (by have:=h.a1;omega)
theorem HH.CD (h:HH u P L H)(hx:L.ts[t]?=some x)(hg:H.bR[t]?=some g):g.ls.length=H.tb.length:=by
 obtain⟨G,_,a,_⟩:=h.oV hx hg;exact a.len
theorem F3 (ha:H.bZ[k]?=some A):H.cF k A=H:=by unfold Hw.cF;rw[QQ ha]
theorem Rh (l:List Nat):ints l=Wy (l.map λ(x:Nat)=>(x:Int)):=by simp[ints,Wy]
theorem By (f:cA->Li->List Int×Li)(tb:List cA)(ls:List Li):(KK f tb ls).length<=tb.length:=by
 unfold KK;exact ky (List.length_filterMap_le _ _) aA
theorem HH.rD (h:HH u P L H):H.tb.length<=40:=by
 obtain⟨x,g,d,a⟩:=h.th (t:=0) h.s.t1;obtain⟨G,_,b,_⟩:=h.oV d a;exact b.nN
theorem Ml {s:Sl}{b o:Nat}(ha:s.a=some ⟨b,o,none⟩)(hl:0<s.len){K:Addr->Prop}(hK:K ⟨b,o+0,none⟩):Ix s.a s.len 0 1 K:=by
 rw[ha];exact ix (wU _) O (by rw[add_lit];exact hK)
theorem MR {s:Sl}{ps:List (Nat×Sl)}{G:Rg}(h:cV s 2 (fL ps) U G)(hl:s.len<=1000000){R:Sl->Hp->Prop}(hR:∀s' σ',s'.len=s.len->aF U σ'->bT s' 2 (fL ps) σ' (λb=>U.size<=b)->R s' σ'):WA.c s U R:=by
 refine WA.o ?_;unfold WA.v;exact Cs h O rfl H6 O hl hR
def vp (H:Hw)(t:Nat):Ph->Prop
 | .take k=>k<H.tb.length/\∀y l,KM (H.cls k) ((H.ka t).li k)=(some y,l)->iN y
 | .cJ k _=>k<H.tb.length/\(QF (H.eL t) (k:Int)=0->YR (H.eL t) (k:Int)≠[])
 | .cL _ _=>True
 | .grow _ _=>True
 | .fill=>∃k x xs r,(H.ka t).bQ=(k,x::xs)::r/\k<H.tb.length/\iN x/\((H.ka t).li k).os.length+xs.length<=256
 | .eP m=>QE (H.eL t) H.sp (m:Int) 1<=1000000
 | .find x=>iN x/\(bU H.live x=none->∀A∈H.bZ,iO A)/\∀b,bU H.live x=some b->0<=x
 | .put k _=>k<H.tb.length/\(H.ka t).bQ≠[]
 | .back=>∃k xs r,(H.ka t).bQ=(k,xs)::r/\(∀x∈xs,iN x/\0<=Yh H.bZ x)/\xs.length<=1000000
 | .dG _ a=>0<=a/\a.toNat<H.bZ.length/\∀A∈H.bZ,∀r∈A.runs,r.1<=1000000
 | .drain=>True
def Ot (U:Hp)(F:Rg)(L:dE)(o:uN)(R:Value->Int->Int->Hp->Prop):Prop:=∀σ' ts',Ext F U σ'->HH σ' (Grow F U) {L with ts:=ts'} o.1->R (nr o.2.1) o.2.2.1 o.2.2.2 σ'
set_option maxRecDepth 8000 in
theorem MX (hso:oz)(h:HH U F L H)(ht:t<H.bR.length)(p:Ph)(hp:vp H t p)(hlen:∀g,H.bR[t]?=some g->g.bQ.length<=900){R:Value->Int->Int->Hp->Prop}(hR:Ot U F L (WH H t p) R) :
 ZS.c (aW L.p) (t:Int) (nr (some p)) U R:=by
 refine ZS.o ?_;unfold ZS.v;have hlen':∀g,H.bR[t]?=some g->g.bQ.length<=1000:=λg hg=>by have:=hlen g hg;omega
 refine nw (cs:=[.int .i64 0,.int .i64 0]) λv hz e i=>?_;have K1:=(HK.start h).box e hz;obtain⟨x,g,E,hg⟩:=h.th ht;have hlen:=hlen g hg;have htg:=G0 hg;have hol:=j4 h.s t;obtain⟨A,hA⟩:∃A,H.bZ[H.own t]?=some A:=⟨_,cW hol⟩;have hAe:=BC hA;obtain⟨Y,hY,_,_⟩:=h.ar hA;refine bL (K1.h.hd.rS rfl ?_);refine B2 K1.h.m9 K1.h.s.ts E hg (d:=0) O rfl λtb0 to0 ha _=>?_;have hS1:nm (λu=>u=v) L H.tb:=λm hm=>by cases hm;exact⟨_,L.ts,H,K1.h,rfl⟩
 refine⟨λu=>u=v,rfl,bL (hS1.fU (JD K1.h t ⟨rfl,K1.h.rA hY ⟨rfl,?_⟩⟩))⟩;refine tK (λw=>∃P ts',HK F U (λb=>False\/b=U.size) w P {L with ts:=ts'} (WH H t p).1/\bY w U.size [.int .i64 0,.int .i64 0]/\(WH H t p).2=(none,0,0)) (λw ⟨P,ts',K,hbw,W⟩=>?_) λJ hJ=>?_
 ·refine gO (n:=U.size) K (.inr rfl) hbw λw' K'=>?_;have:=hR w' ts' K'.e (K'.fin h);rw[W]at this;exact this
 cases p with
 | take k=>
  obtain⟨hk,hy9⟩:k<H.tb.length/\∀y l,KM (H.cls k) ((H.ka t).li k)=(some y,l)->iN y:=hp;obtain⟨c,hc⟩:∃c,H.tb[k]?=some c:=⟨_,cW hk⟩;have hll:=h.CD E hg;obtain⟨l,hl⟩:∃l,g.ls[k]?=some l:=⟨_,cW (by rw[hll];exact hk)⟩;have hce:=UF hc;have hle:=AW hl;rw[hce,htg,hle]at hy9;refine Bz (nw (cs:=[.int .i64 0]) λv5 M X N=>?_);have K5:=K1.box X M;refine N.s0 aA λv6 o6 hb6=>?_;have K6:=K5.own o6 (.inr rfl);have C:=WF o6 (X.bV i id) O;refine⟨λu=>u=v6,rfl,bL ⟨some ⟨x.c.p,0,none⟩,λu V=>by cases V;exact K6.h.tc E hg ha O rfl,⟨(k:Int),λu V=>by cases V;rw[add_lit,hb6.cell];rfl,?_⟩⟩⟩;refine Wjx K6.h E hg hc hl λv7 ts7 Z h7=>?_;have K7:=K6.to Z h7 λb _ i=>i;have hb7:=K6.cZ Z hb6 (.inr rfl);have B:=K6.cZ Z C (.inl (.inr rfl));cases htk:KM c l with
  | mk o l'=>
  rw[htk]at h7 K7;cases o with
  | some y=>
   have W:WH H t (.take k)=(V9 (H.dX t g (g.ls.set k l')) y (c.size:Int) (k:Int),none,y,0):=by
    simp only[WH,hce,htg,hle,htk,ZW hg];rfl
   rw[W]at hR;have hS2:nm (λu=>(∃P ts H',HH u P {L with ts:=ts} H'/\H'.tb=H.tb)/\bY u v.size [.int .i64 (k:Int)]) L H.tb:=λm hm=>hm.1;refine cE rfl ⟨λu=>(∃P ts H',HH u P {L with ts:=ts} H'/\H'.tb=H.tb)/\bY u v.size [.int .i64 (k:Int)],⟨⟨_,_,_,K7.h,rfl⟩,hb7⟩,bL (hS2.dF ⟨(k:Int),λu V=>by rw[add_lit,V.2.cell];rfl,?_⟩)⟩;refine nm.rC (L:={L with ts:=ts7}) (H:=H.dX t g (g.ls.set k l')) hS2 K7.h hc ⟨(k:Int),λu V=>by rw[add_lit,V.2.cell];rfl,?_⟩;refine Co K7.h y (c.size:Int) (k:Int) (hy9 y l' htk) λv8 e8 h8=>?_;have K8:=K7.to e8 h8 λb _ i=>.inl i;refine⟨⟨⟨_,_,_,h8,rfl⟩,K7.cZ e8 hb7 (.inr rfl)⟩,?_⟩;exact gO (n:=U.size) K8 (.inl (.inr rfl)) (K7.cZ e8 B (.inl (.inr rfl))) λw' K'=>hR w' ts7 K'.e (K'.fin h)
  | none=>
   have W:WH H t (.take k)=(H.dX t g (g.ls.set k l'),some (.cJ k (qp c l')),0,0):=by
    simp only[WH,hce,htg,hle,htk,ZW hg];rfl
   rw[W]at hR;have htlt:=(cY.1 hg).1;have hklt:=(cY.1 hl).1;have hg7:(H.dX t g (g.ls.set k l')).bR[t]?=some {g with ls:=g.ls.set k l'}:=by simp[Hw.dX,htlt]
   obtain⟨x7,g7,hx7,_⟩:=K7.h.th (t:=t) (by simp[Hw.dX,htlt]);have hl7:({g with ls:=g.ls.set k l'}:Th).ls[k]?=some l':=by simp[hklt]
   refine cD rfl ⟨λu=>u=v7,rfl,bL ⟨some ⟨x7.c.p,0,none⟩,λu V=>by cases V;exact K7.h.tc hx7 hg7 ha O rfl,⟨(k:Int),λu V=>by cases V;rw[add_lit,hb7.cell];rfl,?_⟩⟩⟩;refine PZ K7.h hx7 hg7 hc hl7 λv8 ts8 e8 h8=>?_;have K8:=K7.to e8 h8 λb _ i=>i;refine(K7.cZ e8 hb7 (.inr rfl)).rI rfl ?_;exact gO (n:=U.size) K8 (.inl (.inr rfl)) (K7.cZ e8 B (.inl (.inr rfl))) λw' K'=>hR w' ts8 K'.e (K'.fin h)
 | cJ k w=>
  obtain⟨hk,hne0⟩:k<H.tb.length/\(QF (H.eL t) (k:Int)=0->YR (H.eL t) (k:Int)≠[]):=hp;rw[hAe]at hne0;obtain⟨c,hc⟩:∃c,H.tb[k]?=some c:=⟨_,cW hk⟩;have hce:=UF hc;refine lr aB (wH (nw (cs:=[.int .i64 0,.int .i64 0]) λv5 M X N=>?_));have K5:=K1.box X M;refine N.s1 aA λv5b o5 b5=>b5.s1 aA λv6 o6 b6=>?_;have K6:=(K5.own o5 (.inr rfl)).own o6 (.inr rfl);have S:U.size≠v.size:=by omega
  have C:=WF o6 (WF o5 (X.bV i id) S) S;refine tK (λu=>(∃P',HK F U (λb=>(False\/b=U.size)\/b=v.size) u P' L H)/\bY u U.size [.int .i64 0,.int .i64 0]/\bY u v.size [.int .i64 (k:Int),.int .i64 (w:Int)]/\WH H t (.cJ k w)=(H,some (.cL k w),0,0)) (λu ⟨⟨P',K⟩,hbw,hbx,W⟩=>?_) λJ1 hJ1=>?_
  ·rw[W]at hR;exact hbx.rI rfl (hbx.rI rfl (gO (n:=U.size) K (.inl (.inr rfl)) hbw λw' K'=>hR w' L.ts K'.e (K'.fin h)))
  ·refine b6.rI rfl (bL (K6.h.hd.rS rfl (b6.rI rfl (ue K6.h.jS hc (d:=2) O ?_))));simp only[zB (show ¬(2=0) by omega),zB (show ¬(2=1) by omega)];refine cO (λheq=>b6.rI rfl ?_) λhne'=>hJ1 v6 ⟨⟨_,K6⟩,C,b6,?_⟩
   ·have heq':w=c.batch:=by simp only[zU]at heq;omega
    refine Oy K6.h hA hY (k:Int) λs v7 Q Z hQ hs7 hcap h7=>?_;have K7:=K6.to Z h7 λb _ i=>i.1;have b7:=K6.cZ Z b6 (.inr rfl);have B:=K6.cZ Z C (.inl (.inr rfl));refine cO (λh0=>b7.rI rfl ?_) λhn0=>?_
    ·have h0':QF A (k:Int)=0:=by simpa using h0
     have W:WH H t (.cJ k w)=(Kr (H.cF (H.own t) (Z1 A (k:Int))) t k (YR A (k:Int)),some .fill,0,0):=by
      simp only[WH,hce,hAe,heq',h0',zT]
     rw[W]at hR;refine Am K7.h (t:=t) ht k hs7 hcap (hne0 h0') (λb _ z E=>E.1.2 z) (K6.h.o.sub hQ) (λz=>K6.h.o2 (hQ _ z)) hlen' λv8 ts8 e8 h8=>?_;have K8:=K7.tV e8 h8 λb i z=>by
      rcases z with z|z
      ·exact z.imp id .inl
      ·exact .inr (.inr ⟨(K6.p b (hQ b z)).1,(K6.p b (hQ b z)).2.1⟩)
     exact gO (n:=U.size) K8 (.inl (.inr rfl)) (K7.cZ e8 B (.inl (.inr rfl))) λw' K'=>hR w' ts8 K'.e (K'.fin h)
    ·have hn0':QF A (k:Int)≠0:=by simpa using hn0
     have hsame:Z1 A (k:Int)=A:=by unfold Z1;rw[zB hn0']
     rw[hsame,F3 hA]at K7;refine hJ1 v7 ⟨⟨_,K7⟩,B,b7,?_⟩;simp only[WH,hce,hAe,heq',zB hn0',zT]
   ·have hne2:w≠c.batch:=λe=>by rw[e]at hne';simp at hne'
    simp only[WH,hce,zB hne2]
 | cL k w=>
  refine lr aB (jk aB (wH (nw (cs:=[.int .i64 0,.int .i64 0]) λv5 M X N=>?_)));have K5:=K1.box X M;refine N.s1 aA λv5b o5 b5=>b5.s1 aA λv6 o6 b6=>?_;have K6:=(K5.own o5 (.inr rfl)).own o6 (.inr rfl);have S:U.size≠v.size:=by omega
  have C:=WF o6 (WF o5 (X.bV i id) S) S;refine b6.rI rfl (b6.rI rfl (Pr K6.h hA hY (k:Int) (w:Int) λs v7 Q Z hQ hs7 h7=>?_));have K7:=K6.to Z h7 λb _ i=>i.1;have b7:=K6.cZ Z b6 (.inr rfl);have B:=K6.cZ Z C (.inl (.inr rfl));have hsl:s.len=(YB A (k:Int) (w:Int)).length:=by have:=hs7.1;simp[ints]at this;omega
  by_cases hemp:YB A (k:Int) (w:Int)=[]
  ·have W:WH H t (.cL k w)=(H.cF (H.own t) (YT A (k:Int) (w:Int)),some (.grow k w),0,0):=by
    simp only[WH,hAe,zC hemp]
   rw[W]at hR;refine fZ (by rw[hsl,hemp];simp) (b7.rI rfl (b7.rI rfl ?_));exact gO (n:=U.size) K7 (.inl (.inr rfl)) B λw' K'=>hR w' L.ts K'.e (K'.fin h)
  ·have W:WH H t (.cL k w)=(Kr (H.cF (H.own t) (YT A (k:Int) (w:Int))) t k ((YB A (k:Int) (w:Int)).map λ(x:Nat)=>(x:Int)),some .fill,0,0):=by
    simp only[WH,hAe,zB hemp]
   rw[W]at hR;have hpos:=oa.2 hemp;refine mr (by rw[hsl];omega) (b7.rI rfl ?_);have hs7':=bT.fW hs7;rw[Rh]at hs7';have hz6:=K6.e.1;refine Am K7.h (t:=t) ht k hs7' (bT.pW hs7) (by simpa using hemp) (λb _ z E=>E.1.2 z) (K6.o.1.sub λb i=>by have:=hQ b i;omega) (λz=>K6.o.2 (by have:=hQ _ z;omega)) hlen' λv8 ts8 e8 h8=>?_;have K8:=K7.tV e8 h8 λb i z=>by
    rcases z with z|z
    ·exact z.imp id .inl
    ·have:=hQ b z;exact .inr (.inr ⟨.inr O,λhB=>by have:=(K6.b b hB).2;omega⟩)
   exact gO (n:=U.size) K8 (.inl (.inr rfl)) (K7.cZ e8 B (.inl (.inr rfl))) λw' K'=>hR w' ts8 K'.e (K'.fin h)
 | grow k w=>
  refine lr aB (jk aB (jk aB (wH (nw (cs:=[.int .i64 0,.int .i64 0]) λv5 M X N=>?_))));have K5:=K1.box X M;refine N.s1 aA λv5b o5 b5=>b5.s1 aA λv6 o6 b6=>?_;have K6:=(K5.own o5 (.inr rfl)).own o6 (.inr rfl);have S:U.size≠v.size:=by omega
  have C:=WF o6 (WF o5 (X.bV i id) S) S;refine b6.rI rfl (NA K6.h hA hY (k:Int) λv7 Z h7=>?_);have K7:=K6.to Z h7 λb _ i=>i;have b7:=K6.cZ Z b6 (.inr rfl);have B:=K6.cZ Z C (.inl (.inr rfl));refine cO (λhn0=>?_) λh0=>?_
  ·have hn0':Vu A H.sp (k:Int)≠0:=by simpa using hn0
   have W:WH H t (.grow k w)=({H.cF (H.own t) (cQ A H.sp (k:Int)).1 with sp:=(cQ A H.sp (k:Int)).2},none,0,Vu A H.sp (k:Int)):=by
    simp only[WH,hAe,zB hn0']
   rw[W]at hR;exact gO (n:=U.size) K7 (.inl (.inr rfl)) B λw' K'=>hR w' L.ts K'.e (K'.fin h)
  ·have h0':Vu A H.sp (k:Int)=0:=by simpa using h0
   have W:WH H t (.grow k w)=({H.cF (H.own t) (cQ A H.sp (k:Int)).1 with sp:=(cQ A H.sp (k:Int)).2},some (.cL k w),0,0):=by
    simp only[WH,hAe,zC h0']
   rw[W]at hR;refine b7.rI rfl (b7.rI rfl ?_);exact gO (n:=U.size) K7 (.inl (.inr rfl)) B λw' K'=>hR w' L.ts K'.e (K'.fin h)
 | fill=>
  obtain⟨k,y,ys,r,hh,hk,hy9,hfit⟩:∃k x xs r,(H.ka t).bQ=(k,x::xs)::r/\k<H.tb.length/\iN x/\((H.ka t).li k).os.length+xs.length<=256:=hp;rw[htg]at hh hfit;obtain⟨c,hc⟩:∃c,H.tb[k]?=some c:=⟨_,cW hk⟩;have hll:=h.CD E hg;obtain⟨l,hl⟩:∃l,g.ls[k]?=some l:=⟨_,cW (by rw[hll];exact hk)⟩;have hce:=UF hc;have hle:=AW hl;rw[hle]at hfit;refine lr aB (jk aB (jk aB (jk aB (DL (nw (cs:=[]) λv5 M X N=>?_)))));have K5:=K1.box X M;have hbv5:=X.bV i id;obtain⟨G,D,hG,hD,hd,aa,hr,hput⟩:=K5.h.xZ (λb i=>(K5.p b i).2.2) E hg (λ_=>False) (λb _ _ z=>z) (K5.o.1.sub λb i=>i.elim) (λz=>z);rw[hh]at aa;obtain⟨so,ps,Dn,hrow,hso1,hcap,hBr,hDn,hj,S,hxne⟩:=aa.mQ;have hz5':=K5.e.1;have hsol:so.len=ys.length+1:=by have:=hso1.1;simp[Wy]at this;omega
  refine bL (oB (K5.h.tc E hg ha (d:=1) O rfl) (JM (dL.fW hrow) λa ha0 ha1=>oD ha0 (oB ha1 ?_)));refine nw (cs:=[.int .i64 0,.slice none 0 0]) λv43 hz43 e43 hb43=>hb43.s1 aA λv44 o44 b44=>b44.s1 aA λv45 o45 b45=>?_;have e45:aF v5 v45:=(e43.only o44 (.inr (zD _))).only o45 (.inr (zD _));have hz45:v5.size<v45.size:=b45.lt;refine bL (hput v45 ⟨none,0,0⟩ [] (λ_=>False) (aF.to e45) (λb i=>i.elim) (iz.nil _ _ _) ha λv46 e46 h46=>?_);have hz46:=e46.1;have e546:Ext _ v5 v46:=(aF.to e45).trans (e46.sub hD);have K46:=K5.to e546 h46 λb _ z=>by
   rcases z with z|z
   ·exact .inl z.1
   ·exact z.1.elim
  have hbv46:=K5.cZ e546 hbv5 (.inl (.inr rfl));have b46:bY v46 v5.size _:=e46.bV b45 λE=>by have:=(K5.p _ (hD _ E)).2.2;omega
  have K46b:=K46.xw (B':=λb=>b=v5.size) λb i=>⟨O,O,λE=>by
   subst i;rcases E.1 with h1|h1
   ·have:=(K5.p _ h1.1).2.2;omega
   ·exact h1.1⟩
  have hso46:=aH.bS (aH.bP (aH.cut hso1) e45) e46 λb _ i E=>hd b (hDn b i.1.1) E;have hXn:∀b,(Dn b/\kV so b)/\b<v5.size->¬Cut (λb=>(Cut F U b/\¬G b)\/False/\b<v45.size) v46 b:=λb i E=>by
   rcases E.1 with h1|h1
   ·exact h1.2 (hDn b i.1.1)
   ·exact h1.1
  have hg46:({H with bR:=H.bR.set t {g with bQ:=[]}}:Hw).bR[t]?=some {g with bQ:=[]}:=by simp[ht]
  have hx46:(L.ts.set t {x with h:=⟨none,0,0⟩})[t]?=some {x with h:=⟨none,0,0⟩}:=zO (cY.1 E).1;refine bL (vX (K46b.h.tc hx46 hg46 ha (d:=0) O rfl) (b46.rI rfl (b46.rS (a:=so.a) (n:=so.len) (c:=so.cap) rfl (jy (lo:=1) (by show 1<=so.len;omega) hcap (zD _) ?_))));have hsub:=cV.sub hso46 (lo:=1) (hi:=so.len) (mx:=so.cap) O (zD _) hcap;have hsx:((Wy (y::ys)).drop (1*1)).take ((so.len-1)*1)=Wy ys:=by
   rw[lI (by simp[Wy];omega)];rfl
  rw[hsx]at hsub;have hl46:({g with bQ:=[]}:Th).ls[k]?=some l:=hl;refine NX K46b.h hx46 hg46 hc hl46 hsub hXn hfit λv47 ts47 e47 h47=>?_;have K47:=K46b.to e47 h47 λb _ i=>i;have hso47:=aH.bS hso46 e47 λb _ i E=>hXn b i E;have b47:=K46b.cZ e47 b46 (.inr rfl);have hbv47:=K46b.cZ e47 hbv46 (.inl (.inl (.inr rfl)));have W:WH H t .fill=(V9 {H with bR:=H.bR.set t {g with ls:=g.ls.set k (eO ys.reverse l),bQ:=[]}} y (c.size:Int) (k:Int),none,y,0):=by
   simp only[WH,htg,hh,ZW hg,hle,hce]
  rw[W]at hR;obtain⟨b0,o0,ha0',hc0⟩:=hso47.cell (j:=0) (v:=.int .i64 y) rfl;have hS4:nm (λu=>((∃P ts H',HH u P {L with ts:=ts} H'/\H'.tb=H.tb)/\bY u v5.size [.int .i64 (k:Int),.slice so.a so.len so.cap])/\cell u ⟨b0,o0+0,none⟩=some (.int .i64 y)) L H.tb:=λm hm=>hm.1.1;refine⟨λu=>((∃P ts H',HH u P {L with ts:=ts} H'/\H'.tb=H.tb)/\bY u v5.size [.int .i64 (k:Int),.slice so.a so.len so.cap])/\cell u ⟨b0,o0+0,none⟩=some (.int .i64 y),⟨⟨⟨_,_,_,K47.h,rfl⟩,b47⟩,hc0⟩,⟨so,λu V=>by rw[add_lit,V.1.2.cell];rfl,?_⟩⟩;refine Ml ha0' O ⟨y,λu V=>V.2,bL (hS4.dF ⟨(k:Int),λu V=>by rw[add_lit,V.1.2.cell];rfl,?_⟩)⟩;refine nm.rC (L:={L with ts:=ts47}) (H:=Hw.dX {H with bR:=H.bR.set t {g with bQ:=[]}} t {g with bQ:=[]} (g.ls.set k (eO ys.reverse l))) hS4 K47.h hc ⟨(k:Int),λu V=>by rw[add_lit,V.1.2.cell];rfl,?_⟩;refine Co K47.h y (c.size:Int) (k:Int) hy9 λv48 e48 h48=>?_;have K48:=K47.to e48 h48 λb _ i=>.inl i;have hz4747:=e47.1;have hso48:=aH.bS hso47 e48 λb _ i E=>by
   rcases E.1 with h1|h1
   ·exact hXn b i h1
   ·have:=i.2;omega
  refine⟨⟨⟨⟨_,_,_,h48,rfl⟩,K47.cZ e48 b47 (.inr rfl)⟩,?_⟩,?_⟩
  ·obtain⟨b1,o1,ha1',hc1⟩:=hso48.cell (j:=0) (v:=.int .i64 y) rfl;rw[ha0']at ha1';cases ha1';exact hc1
  ·have K49:=K48;simp only[Hw.dX,nO]at K49;exact gO (n:=U.size) K49 (.inl (.inl (.inr rfl))) (K47.cZ e48 hbv47 (.inl (.inl (.inr rfl)))) λw' K'=>hR w' ts47 K'.e (K'.fin h)
 | eP m=>
  have hp:QE (H.eL t) H.sp (m:Int) 1<=1000000:=hp;rw[hAe]at hp;refine lr aB (jk aB (jk aB (jk aB (sA aB (Bz (nw (cs:=[.int .i64 0]) λv5 M X N=>?_))))));have K5:=K1.box X M;refine N.s0 aA λv6 o6 b6=>?_;have K6:=K5.own o6 (.inr rfl);have C:=WF o6 (X.bV i id) O;refine b6.rI rfl (WbF K6.h hA hY (m:Int) 1 λv7 Z h7=>?_);have K7:=K6.to Z h7 λb _ i=>i;have b7:=K6.cZ Z b6 (.inr rfl);have B:=K6.cZ Z C (.inl (.inr rfl));refine cO (λhn0=>?_) λh0=>?_
  ·have hn0':Q6 A H.sp (m:Int) 1≠0:=by simpa using hn0
   have W:WH H t (.eP m)=({H.cF (H.own t) (cC A H.sp (m:Int) 1).1 with sp:=(cC A H.sp (m:Int) 1).2},none,0,Q6 A H.sp (m:Int) 1):=by
    simp only[WH,hAe,zB hn0']
   rw[W]at hR;exact gO (n:=U.size) K7 (.inl (.inr rfl)) B λw' K'=>hR w' L.ts K'.e (K'.fin h)
  ·have h0':Q6 A H.sp (m:Int) 1=0:=by simpa using h0
   have hm:m<=64:=by
    unfold Q6 at h0';split at h0'
    ·rename_i hpo;simp only[KO,zF,zV]at hpo;omega
    ·omega
   have W:WH H t (.eP m)=(V9 {H.cF (H.own t) (cC A H.sp (m:Int) 1).1 with sp:=(cC A H.sp (m:Int) 1).2} ((QE A H.sp (m:Int) 1*256:Nat):Int) ((m*256:Nat):Int) (-1),none,((QE A H.sp (m:Int) 1*256:Nat):Int),0):=by
    simp only[WH,hAe,zC h0']
   rw[W]at hR;refine cT (m:=QE A H.sp (m:Int) 1*256) O O (b7.rI rfl (cT (m:=m*256) O O ?_));refine Co K7.h _ _ _ O λv8 e8 h8=>?_;have K8:=K7.to e8 h8 λb _ i=>.inl i;exact gO (n:=U.size) K8 (.inl (.inr rfl)) (K7.cZ e8 B (.inl (.inr rfl))) λw' K'=>hR w' L.ts K'.e (K'.fin h)
 | find x=>
  obtain⟨hx9,hro,hlv⟩:iN x/\(bU H.live x=none->∀A∈H.bZ,iO A)/\∀b,bU H.live x=some b->0<=x:=hp;refine lr aB (jk aB (jk aB (jk aB (sA aB (lr aB (Bz (nw (cs:=[.int .i64 0]) λv5 M X N=>?_)))))));have K5:=K1.box X M;refine N.s0 aA λv6 o6 b6=>?_;have K6:=K5.own o6 (.inr rfl);have C:=WF o6 (X.bV i id) O;refine b6.rI rfl (Κ K6.h ht x hx9 hro hlen' hlv λv7 ts7 Z h7=>?_);have K7:=K6.to Z h7 λb _ i=>i;have B:=K6.cZ Z C (.inl (.inr rfl));exact gO (n:=U.size) K7 (.inl (.inr rfl)) B λw' K'=>hR w' ts7 K'.e (K'.fin h)
 | put k y=>
  obtain⟨hk,hne0⟩:k<H.tb.length/\(H.ka t).bQ≠[]:=hp;rw[htg]at hne0;obtain⟨c,hc⟩:∃c,H.tb[k]?=some c:=⟨_,cW hk⟩;have hll:=h.CD E hg;obtain⟨l,hl⟩:∃l,g.ls[k]?=some l:=⟨_,cW (by rw[hll];exact hk)⟩;have hce:=UF hc;have hle:=AW hl;refine lr aB (jk aB (jk aB (jk aB (sA aB (lr aB (lr aB (wH (nw (cs:=[.int .i64 0,.int .i64 0]) λv5 M X N=>?_))))))));have K5:=K1.box X M;refine N.s1 aA λv5b o5 b5=>b5.s1 aA λv6 o6 b6=>?_;have K6:=(K5.own o5 (.inr rfl)).own o6 (.inr rfl);have S:U.size≠v.size:=by omega
  have C:=WF o6 (WF o5 (X.bV i id) S) S;generalize hgg:(if(dM c y l).1=[]then({g with ls:=g.ls.set k (dM c y l).2}:Th)else{g with ls:=g.ls.set k (dM c y l).2,bQ:=g.bQ++[(k,(dM c y l).1)]})=g2
  have hg2n:g2.bQ≠[]/\g2.bQ.length<=901:=by
   rw[←hgg];split
   ·exact⟨hne0,by simp;omega⟩
   ·exact⟨by simp,by simp;omega⟩
  refine tK (λw=>∃P ts',HK F U (λb=>(False\/b=U.size)\/b=v.size) w P {L with ts:=ts'} {H with bR:=H.bR.set t g2}/\bY w U.size [.int .i64 0,.int .i64 0]) (λw ⟨P,ts2,K,hbw⟩=>?_) λJ2 hJ2=>?_
  ·have hg3:({H with bR:=H.bR.set t g2}:Hw).bR[t]?=some g2:=by simp[ht]
   obtain⟨x2,_,hx2,_⟩:=K.h.th (t:=t) (by simpa using ht);obtain⟨G,D,hG,hD,hd,aa,hr,hput⟩:=K.h.xZ (λb i=>(K.p b i).2.2) hx2 hg3 (λ_=>False) (λb _ _ z=>z) (K.o.1.sub λb i=>i.elim) (λz=>z);have hbl:=aa.len;have hbc:=aa.cap;obtain⟨b0,r0,hbr⟩:∃b r,g2.bQ=b::r:=by
    cases hh:g2.bQ with
    | nil=>exact absurd hh hg2n.1
    | cons b r=>exact⟨b,r,rfl⟩
   have sd:g2.bQ.drop 1=r0:=by rw[hbr];rfl
   rw[hbr]at aa;have hpos:1<=x2.h.len:=by rw[hbl,hbr];simp
   refine bL (oB (K.h.tc hx2 hg3 ha (d:=1) O rfl) ?_);refine jy (lo:=1) hpos hbc (zD _) ?_;refine bL (hput w _ _ G (Ext.refl _ _) (λb i=>.inl i) aa.lS ha λw1 e1 h1=>?_);have e1':=e1.sub hD;have K1b:=K.to e1' h1 λb _ z=>by
    rcases z with z|z
    ·exact .inl z.1
    ·exact .inl (hG b z.1)
   have hbw1:=K.cZ e1' hbw (.inl (.inr rfl));have K3:=K1b;simp only[nO]at K3;generalize hg3':({g2 with bQ:=r0}:Th)=g3 at K3;have hl3:g3.bQ=r0/\g3.ls=g2.ls:=by rw[←hg3'];exact⟨rfl,rfl⟩
   have hr0:r0.length<=900:=by have:=hg2n.2;rw[hbr]at this;simp at this;omega
   have hg3e:({H with bR:=H.bR.set t g3}:Hw).bR[t]?=some g3:=by simp[ht]
   have hpe:iD H t k y=(if H.cf.dD<KC H.tb g3.ls then{H with bR:=H.bR.set t {g3 with ls:=KF Vx H.tb g3.ls,bQ:=g3.bQ++KK Vx H.tb g3.ls}}else{H with bR:=H.bR.set t g3}):=by
    have e2:(if(dM c y l).1=[]then H.eC t λh=>h.ik k (dM c y l).2 else Kr (H.eC t λh=>h.ik k (dM c y l).2) t k (dM c y l).1) = {H with bR:=H.bR.set t g2}:=by
     rw[←hgg];split
     ·rw[ZW hg];rfl
     ·rw[ZW hg];unfold Kr Hw.eC;simp only;rw[VE (t:=g.ik k (dM c y l).2) (by simp[ht]),nO];rfl
    have e3:({H with bR:=H.bR.set t g2}:Hw).eC t (λh=>{h with bQ:=h.bQ.drop 1}) = {H with bR:=H.bR.set t g3}:=by
     rw[ZW hg3];simp only[nO,sd,hg3']
    unfold iD;simp only[hce,htg,hle,e2,e3,G0 hg3e,ZW hg3e,nO]
   have hx3:(ts2.set t {x2 with h:=⟨if x2.h.cap=1 then x2.h.a else x2.h.a.map (·.add (1*2)),x2.h.len-1,x2.h.cap-1⟩})[t]?=some {x2 with h:=⟨if x2.h.cap=1 then x2.h.a else x2.h.a.map (·.add (1*2)),x2.h.len-1,x2.h.cap-1⟩}:=zO (cY.1 hx2).1
   generalize hx3':({x2 with h:=⟨if x2.h.cap=1 then x2.h.a else x2.h.a.map (·.add (1*2)),x2.h.len-1,x2.h.cap-1⟩}:eR)=x3 at hx3 K3
   generalize ts2.set t x3=ts3 at hx3 K3;refine tK (λw=>∃P ts',HK F U (λb=>(False\/b=U.size)\/b=v.size) w P {L with ts:=ts'} (iD H t k y)/\bY w U.size [.int .i64 0,.int .i64 0]) (λw ⟨P,ts',K,hbw⟩=>?_) λJ3 hJ3=>?_
   ·have W:WH H t (.put k y)=(iD H t k y,j2 (iD H t k y) t,0,0):=rfl;rw[W]at hR;refine Uo K.h (t:=t) ?_ ?_
    ·rw[hpe];split<;>simpa using ht
    ·exact gO (n:=U.size) K (.inl (.inr rfl)) hbw λw' K'=>hR w' ts' K'.e (K'.fin h)
   ·refine bL (vX (K3.h.tc hx3 hg3e ha (d:=0) O rfl) ?_);refine MT K3.h hx3 hg3e λv10 e10=>?_;have K10:=K3.fr e10;have hbw10:=e10.bV hbw1 id;refine cP (λhov=>?_) λhno=>hJ3 v10 ⟨_,ts3,by rw[hpe,zB hno];exact K10,hbw10⟩;refine⟨λu=>cell u (Addr.add ⟨tb0,to0+3*t,none⟩ 1)=some (.slice x3.h.a x3.h.len x3.h.cap)/\cell u (Addr.add ⟨tb0,to0+3*t,none⟩ 0)=some (.pointer (some ⟨x3.c.p,0,none⟩)),⟨K10.h.tc hx3 hg3e ha (d:=1) O rfl,K10.h.tc hx3 hg3e ha (d:=0) O rfl⟩,bL ⟨x3.h,λu V=>V.1,bL ⟨some ⟨x3.c.p,0,none⟩,λu V=>V.2,?_⟩⟩⟩;refine WdF hso K10.h hx3 hg3e λv11 s Q e11 hQ hB h11=>?_;have K11:=K10.to e11 h11 λb _ i=>i.1;have hbw11:=K10.cZ e11 hbw10 (.inl (.inr rfl));have hg11:(Hw.dX {H with bR:=H.bR.set t g3} t g3 (KF Vx H.tb g3.ls)).bR[t]?=some {g3 with ls:=KF Vx H.tb g3.ls}:=by simp[Hw.dX,ht]
    refine⟨⟨K11.h.tc hx3 hg11 ha (d:=1) O rfl,K11.h.tc hx3 hg11 ha (d:=0) O rfl⟩,?_⟩;have hz0:=K10.e.1;obtain⟨G,D,hG,hD,hd,aa,hr,hput⟩:=K11.h.xZ (λb i=>i.2) hx3 hg11 (λb=>Q b\/v11.size<=b) (λb i hP z=>z.elim (λz=>hP.1.2 z) λz=>O) (K10.o.1.sub λb i=>i.elim (λi=>by have:=hQ b i;omega) λi=>by have:=K11.e.1;omega) (λz=>K10.o.2 (z.elim (λi=>by have:=hQ _ i;omega) λi=>by have:=K11.e.1;omega));refine iz.app aa hB (λb hg z=>(hG b hg).1.2 z) ?_ λs' v12 e12 hB12=>?_
    ·have:=By Vx H.tb g3.ls;have:H.tb.length<=40:=K3.h.rD;simp only[hl3.1];omega
    have hcell:∀{d:Nat} {w:Value},d<3->(jJ (x3,({g3 with ls:=KF Vx H.tb g3.ls}:Th)))[d]?=some w->cell v12 (Addr.add ⟨tb0,to0+3*t,none⟩ d)=some w:=λhd3 hv=>by
     obtain⟨b',o',ha',hc'⟩:=wX (hr v12 e12) hx3 hg11 hd3 hv;rw[ha]at ha';cases ha';rw[add_lit,ym];exact hc'
    refine⟨⟨hcell (d:=1) O rfl,hcell (d:=0) O rfl⟩,bL (hput v12 s' _ _ e12 (λb i=>i.imp id id) hB12 ha λv13 e13 h13=>?_)⟩;have e13':=(e12.sub hG).trans (e13.sub hD);have K13:=K11.tV e13' h13 λb i z=>by
     rcases z with z|z
     ·exact .inl z.1
     ·rcases z.1 with h1|h1|h1
      ·exact .inl (hG b h1)
      ·have:=hQ b h1;exact .inr (.inr ⟨.inr O,λhB=>by have:=(K10.b b hB).2;omega⟩)
      ·exact .inr (.inl h1)
    have hbw13:=K11.cZ e13' hbw11 (.inl (.inr rfl));have K14:=K13;simp only[Hw.dX,nO]at K14;have hpe':=hpe;rw[zC hov]at hpe';rw[hpe']at hJ3;exact hJ3 v13 ⟨_,_,K14,hbw13⟩
  ·refine⟨λu=>u=v6,rfl,bL ⟨some ⟨x.c.p,0,none⟩,λu V=>by cases V;exact K6.h.tc E hg ha (d:=0) O rfl,⟨(k:Int),λu V=>by cases V;rw[add_lit,b6.cell];rfl,⟨y,λu V=>by cases V;rw[add_lit,b6.cell];rfl,?_⟩⟩⟩⟩;refine MI K6.h E hg hc hl y λv7 ts7 s ee Q Z hQ hs7 h7=>?_;have K7:=K6.to Z h7 λb _ i=>i.1;have b7:=K6.cZ Z b6 (.inr rfl);have B:=K6.cZ Z C (.inl (.inr rfl));have hsl:s.len=(dM c y l).1.length:=by have:=hs7.1;simp[Wy]at this;omega
   by_cases hemp:(dM c y l).1=[]
   ·rw[zC hemp]at hgg;rw[←hgg]at hJ2;exact fZ (by rw[hsl,hemp];simp) (hJ2 v7 ⟨_,ts7,K7,B⟩)
   ·rw[zB hemp]at hgg;have hpos:=oa.2 hemp;have hz6:=K6.e.1;refine mr (by rw[hsl];omega) (b7.rI rfl ?_);refine Am K7.h (t:=t) (by simpa[Hw.dX]using ht) k (bT.fW hs7) (bT.pW hs7) hemp (λb _ z E=>E.1.2 z) (K6.o.1.sub λb i=>by have:=hQ b i;omega) (λz=>K6.o.2 (by have:=hQ _ z;omega)) (λg' hg'=>?_) λv8 ts8 e8 h8=>?_
    ·have:(H.dX t g (g.ls.set k (dM c y l).2)).bR[t]?=some {g with ls:=g.ls.set k (dM c y l).2}:=by simp[Hw.dX,ht]
     rw[this]at hg';cases hg';simp only;omega
    ·have K8:=K7.tV e8 h8 λb i z=>by
      rcases z with z|z
      ·exact z.imp id .inl
      ·have:=hQ b z;exact .inr (.inr ⟨.inr O,λhB=>by have:=(K6.b b hB).2;omega⟩)
     have e9:Kr (H.dX t g (g.ls.set k (dM c y l).2)) t k (dM c y l).1 = {H with bR:=H.bR.set t g2}:=by
      rw[←hgg];unfold Kr Hw.eC Hw.dX;simp only;rw[VE (t:={g with ls:=g.ls.set k (dM c y l).2}) (by simp[ht]),nO]
     rw[e9]at K8;exact hJ2 v8 ⟨_,ts8,K8,K7.cZ e8 B (.inl (.inr rfl))⟩
 | back=>
  obtain⟨k,xs,r,hh,hxs,hxl⟩:∃k xs r,(H.ka t).bQ=(k,xs)::r/\(∀x∈xs,iN x/\0<=Yh H.bZ x)/\xs.length<=1000000:=hp;rw[htg]at hh;refine lr aB (jk aB (jk aB (jk aB (sA aB (lr aB (lr aB (jk aB (DL (nw (cs:=[]) λv5 M X N=>?_)))))))));have K5:=K1.box X M;have hbv5:=X.bV i id;obtain⟨G,D,hG,hD,hd,aa,hr,hput⟩:=K5.h.xZ (λb i=>(K5.p b i).2.2) E hg (λb=>v5.size<=b) (λb i _ z=>O) K5.h.mK.1 K5.h.mK.2;have hbl:=aa.len;have hbc:=aa.cap;rw[hh]at aa;obtain⟨so,ps,Dn,hrow,hso1,hcap,hBr,hDn,hj,S,hxne⟩:=aa.mQ;have hz5':=K5.e.1;refine bL (oB (K5.h.tc E hg ha (d:=1) O rfl) (JM (dL.fW hrow) λa ha0 ha1=>oD ha0 (oB ha1 ?_)));refine nw (cs:=[.int .i64 0,.slice none 0 0]) λv81 hz81 e81 hb81=>hb81.s1 aA λv82 o82 b82=>b82.s1 aA λv83 o83 b83=>?_;have e83:aF v5 v83:=(e81.only o82 (.inr (zD _))).only o83 (.inr (zD _));have hz83:v5.size<v83.size:=b83.lt;have hcell:∀{u1:Hp},Ext G v5 u1->∀{d:Nat} {w:Value},d<3->(jJ (x,g))[d]?=some w->cell u1 (Addr.add ⟨tb0,to0+3*t,none⟩ d)=some w:=λhe _ _ hd3 hv=>by
   obtain⟨b',o',ha',hc'⟩:=wX (hr _ he) E hg hd3 hv;rw[ha]at ha';cases ha';rw[add_lit,ym];exact hc'
  refine bL (oB (hcell (aF.to e83) (d:=1) (w:=.slice x.h.a x.h.len x.h.cap) O rfl) ?_);have hpos:1<=x.h.len:=by rw[hbl,hh];simp
  refine jy (lo:=1) hpos hbc (zD _) ?_;have hrow':=aH.bP (aH.cut (dL.fW (hrow.from (lo:=1) hpos))) e83;have sd:(fL ((k,so)::ps)).drop (1*2)=fL ps:=rfl;rw[sd]at hrow';refine MR hrow' aC λs' v84 hs'l e84 hs'=>?_;have hBt':iz s' r v84 (λb=>Dn b/\¬kV so b/\b<v5.size\/v83.size<=b):=by
   refine⟨ps,λb=>Dn b/\¬kV so b/\b<v5.size,(dL.loc _ _ _).mono hs'.o λb _ i=>⟨.inr i,λE=>O⟩,(kG.loc _ _).bP ((kG.loc _ _).bP ((kG.loc _ _).mono ((kG.loc _ _).cut hBr) λb _ i=>⟨i.1.1,i.1.2,i.2⟩) e83) e84,λb i=>.inl i,hj,S⟩
  have e584:aF v5 v84:=e83.trans e84;refine bL (hput v84 s' r _ (aF.to e584) (λb i=>i.elim (λi=>.inl (hDn b i.1)) λi=>.inr O) hBt' ha λv85 e85 h85=>?_);have hz84:=e84.1;have hz85:=e85.1;have e585:Ext _ v5 v85:=(aF.to e584).trans (e85.sub hD);have K85:=K5.to e585 h85 λb _ z=>by
   rcases z with z|z
   ·exact .inl z.1
   ·rcases z.1 with h1|h1
    ·exact .inl (hG b (hDn b h1.1))
    ·exact .inr O
  have hbv85:=K5.cZ e585 hbv5 (.inl (.inr rfl));have b85:bY v85 v5.size _:=e85.bV (e84.bV b83 id) λE=>by have:=(K5.p _ (hD _ E)).2.2;omega
  have K85b:=K85.xw (B':=λb=>b=v5.size) λb i=>⟨O,O,λE=>by
   subst i;rcases E.1 with h1|h1
   ·have:=(K5.p _ h1.1).2.2;omega
   ·rcases h1.1 with h2|h2<;>omega⟩
  have hso5:=aH.bS (aH.bP (aH.cut hso1) e584) e85 λb _ i E=>hd b (hDn b i.1.1) E;have W:WH H t .back=(GV {H with bR:=H.bR.set t {g with bQ:=r}} (H.own t) k xs,j2 (GV {H with bR:=H.bR.set t {g with bQ:=r}} (H.own t) k xs) t,0,0):=by
   simp only[WH,htg,hh,ZW hg]
  rw[W]at hR;refine⟨λu=>u=v85,rfl,⟨(k:Int),λu V=>by cases V;rw[add_lit,b85.cell];rfl,⟨so,λu V=>by cases V;rw[add_lit,b85.cell];rfl,?_⟩⟩⟩;refine JD K85b.h t ⟨rfl,RY K85b.h hol k hso5 (λb _ i E=>?_) hcap hxs hxl λv87 e87 h87=>?_⟩
  ·rcases E.1 with h1|h1
   ·exact h1.2 (hDn b i.1.1)
   ·rcases h1.1 with h2|h2
    ·exact h2.2.1 i.1.2
    ·have:=i.2;omega
  have K87:=K85b.to e87 h87 λb _ i=>i;have hbl7:(GV {H with bR:=H.bR.set t {g with bQ:=r}} (H.own t) k xs).bR.length=H.bR.length:=by
   rw[CV];simp
  refine Uo K87.h (t:=t) (by rw[hbl7];exact ht) ?_;exact gO (n:=U.size) K87 (.inl (.inl (.inr rfl))) (K85b.cZ e87 hbv85 (.inl (.inl (.inr rfl)))) λw' K'=>hR w' _ K'.e (K'.fin h)
 | dG s a=>
  obtain⟨ha0,hal,hru⟩:0<=a/\a.toNat<H.bZ.length/\∀A∈H.bZ,∀r∈A.runs,r.1<=1000000:=hp;obtain⟨A2,hA2⟩:∃A,H.bZ[a.toNat]?=some A:=⟨_,cW hal⟩;have hae:a=((a.toNat:Nat):Int):=by omega
  refine lr aB (jk aB (jk aB (jk aB (sA aB (lr aB (lr aB (jk aB (sA aB (wH (nw (cs:=[.int .i64 0,.int .i64 0]) λv5 M X N=>?_))))))))));have K5:=K1.box X M;refine N.s1 aA λv5b o5 b5=>b5.s1 aA λv6 o6 b6=>?_;have K6:=(K5.own o5 (.inr rfl)).own o6 (.inr rfl);have S:U.size≠v.size:=by omega
  have C:=WF o6 (WF o5 (X.bV i id) S) S;obtain⟨Y2,hY2,_,_⟩:=K6.h.ar hA2;refine bL (K6.h.hd.rS rfl (b6.rI (x:=((a.toNat:Nat):Int)) (by rw[←hae];rfl) (K6.h.rA hY2 (b6.rI rfl ?_))));refine RT K6.h hA2 hY2 s (hru A2 (zG hA2)) λv7 Z h7=>?_;have K7:=K6.to Z h7 λb _ i=>i;have B:=K6.cZ Z C (.inl (.inr rfl));have W:WH H t (.dG s a)=(H.cF a.toNat (Kc A2 s),none,0,0):=by
   simp only[WH,hA2]
  refine hJ v7 ⟨_,L.ts,⟨?_,K7.e,λb i=>⟨(K7.p b i).1,λE=>(K7.p b i).2.1 (.inl E),(K7.p b i).2.2⟩,λb i=>K7.b b (.inl i),K7.o⟩,B,by rw[W]⟩;rw[W];exact K7.h
 | drain=>
  refine lr aB (jk aB (jk aB (jk aB (sA aB (lr aB (lr aB (jk aB (sA aB (jk aB (DL (nw (cs:=[]) λv5 M X N=>?_)))))))))));have K5:=K1.box X M;have hbv5:=X.bV i id;refine bL (vX (K5.h.tc E hg ha (d:=0) O rfl) ?_);refine P9 hso K5.h E hg λv7 s Q Z hQ hB h7=>?_;have K7:=K5.to Z h7 λb _ i=>i.1;have B:=K5.cZ Z hbv5 (.inl (.inr rfl));have hz0:=K5.e.1;have hg7:(H.dX t g (KF Qc H.tb g.ls)).bR[t]?=some {g with ls:=KF Qc H.tb g.ls}:=by simp[Hw.dX,ht]
  obtain⟨G,D,hG,hD,hd,aa,hr,hput⟩:=K7.h.xZ (λb i=>i.2) E hg7 Q (λb _ i z=>i.1.2 z) (K5.o.1.sub λb i=>by have:=hQ b i;omega) (λz=>K5.o.2 (by have:=hQ _ z;omega));refine bL (hput v7 s _ Q (Ext.refl _ _) (λb i=>.inr i) hB ha λv8 e8 h8=>?_);have e8':=e8.sub hD;have K8:=K7.tV e8' h8 λb _ z=>by
   rcases z with z|z
   ·exact .inl z.1
   ·have:=hQ b z.1;exact .inr (.inr ⟨.inr O,λhB=>by have:=(K5.b b hB).2;omega⟩)
  have hbv8:=K7.cZ e8' B (.inl (.inr rfl));have W:WH H t .drain=({H with bR:=H.bR.set t {g with ls:=KF Qc H.tb g.ls,bQ:=KK Qc H.tb g.ls}},j2 {H with bR:=H.bR.set t {g with ls:=KF Qc H.tb g.ls,bQ:=KK Qc H.tb g.ls}} t,0,0):=by
   simp only[WH,ZW hg]
  have K9:=K8;simp only[Hw.dX,nO]at K9;rw[W]at hR;refine Uo K9.h (t:=t) (by simpa using ht) ?_;exact gO (n:=U.size) K9 (.inl (.inr rfl)) hbv8 λw' K'=>hR w' _ K'.e (K'.fin h)
def eY (H:Hw)(t:Nat)(p:Option Ph):Hw:=H.eC t λh=>{h with ph:=p}
theorem VU (H:Hw)(t:Nat)(f:Th->Th):(H.eC t f).bR.length=H.bR.length:=by simp[Hw.eC]
theorem Pf (H:Hw)(t k:Nat)(x:Int):(iD H t k x).bR.length=H.bR.length:=by
 unfold iD;simp only;split<;>split<;>simp[VU,Kr]
theorem Fy (H:Hw)(t:Nat)(p:Ph):(WH H t p).1.bR.length=H.bR.length:=by
 cases p with
 | take k=>simp only[WH];split<;>simp[V9,VU]
 | cJ k w=>
  simp only[WH];split
  ·split<;>simp[Kr,VU,Hw.cF]
  ·rfl
 | cL k w=>simp only[WH];split<;>simp[Kr,VU,Hw.cF]
 | grow k w=>simp only[WH];split<;>simp[Hw.cF]
 | fill=>simp only[WH];split<;>simp[V9,VU]
 | eP m=>simp only[WH];split<;>simp[V9,Hw.cF]
 | find x=>
  simp only[WH,HC];split
  ·rfl
  ·split<;>simp[Kr,VU]
 | put k x=>exact Pf H t k x
 | back=>simp only[WH];split<;>simp[CV,VU]
 | dG s a=>simp only[WH];split<;>simp[Hw.cF]
 | drain=>simp[WH,VU]
def wx (H:Hw)(t:Nat)(p:Ph):Prop:=vp H t p/\∀g,H.bR[t]?=some g->g.bQ.length<=900
def Ke (H:Hw)(t:Nat)(p:Ph):Hw:=eY (WH H t p).1 t (WH H t p).2.1
theorem NZ (hso:oz)(h:HH U F L H)(hg:H.bR[t]?=some g){p:Ph}(hp:g.ph=some p)(hok:wx H t p){R:Bool->Int->Int->Int->Hp->Prop}
 (hR:∀σ' ts',Ext F U σ'->HH σ' (Grow F U) {L with ts:=ts'} (Ke H t p)->R (WH H t p).2.1.isNone (WH H t p).2.2.1 (WH H t p).2.2.2 0 σ'):Zu.c (aW L.p) (t:Int) U R:=by
 refine Zu.o ?_;unfold Zu.v;have E:=(cY.1 hg).1;refine nw (cs:=[.int .i64 0,.int .i64 0]) λv Z e B=>?_;have K1:=(HK.start h).box e Z;obtain⟨x,g',P,y⟩:=h.th E;rw[hg]at y;cases y;refine U7 K1.h (cD rfl (Dl K1.h (t:Int) (cD (by rw[zI O];rfl) ?_)));refine bL (K1.h.hd.rS rfl (K1.h.tR P hg ?_));rw[hp];refine⟨vH _,cD (by rw[xS];rfl) (bL (K1.h.hd.rS rfl (K1.h.tR P hg ?_)))⟩;rw[hp];refine MX hso K1.h E p hok.1 hok.2 λv9 C Q h9=>?_;have K9:=K1.to Q h9 λb _ B=>B;have m:=K1.cZ Q B (.inr rfl);refine nw (cs:=[.int .i64 0,.int .i64 0]) λY w r s=>?_;have K10:=K9.box r w;refine s.s1 aA λX z J=>J.s1 aA λv12 A N=>?_;have K12:=(K10.own z (.inr rfl)).own A (.inr rfl);have j:U.size≠v9.size:=by have:=(K9.b U.size (.inr rfl)).2;omega
 have d:=WF A (WF z (r.bV m id) j) j;have D:t<(WH H t p).1.bR.length:=by rw[Fy];exact E
 obtain⟨x9,V,K,u⟩:=K12.h.th D;have M:Ke H t p = {(WH H t p).1 with bR:=(WH H t p).1.bR.set t {V with ph:=(WH H t p).2.1}}:=ZW u _;refine bL (K12.h.hd.rS rfl (K12.h.sG K u (WH H t p).2.1 λS i G=>?_));have K13:=K12.to i G λb _ B=>.inl B;have a:=K12.cZ i N (.inr rfl);rw[←M]at K13;refine⟨vH _,a.rI rfl (a.rI rfl ?_)⟩;refine gO (n:=U.size) K13 (.inl (.inr rfl)) (K12.cZ i d (.inl (.inr rfl))) λW K'=>?_;rw[xS];exact hR W C K'.e (K'.fin h)
theorem C2 {p:Nat->Prop}(h:∃n,p n):∃n,p n/\∀m,p m->n<=m:=by
 obtain⟨n,d⟩:=h
 induction n using Nat.strongRecOn with
 | _ n ih=>
  by_cases hm:∃m,m<n/\p m
  ·obtain⟨m,a,b⟩:=hm;exact ih m a b
  ·exact⟨n,d,λm b=>Nat.le_of_not_lt λa=>hm ⟨m,a,b⟩⟩
theorem DS {start:eX []->Prop}{round:eX []->eX []}(Inv:Nat->Hp->Prop)(h0:start λh=>∃n,Inv n h)(hr:∀n h,Inv n h->∀J:Hp->Prop,(∀m h',m<n->Inv m h'->J h')->round J h):Yf [] start round:=by
 classical
 refine Jd (λh=>∃n,Inv n h) (λh=>if hx:∃n,Inv n h then(C2 hx).choose else 0) h0 λh b=>?_
 have g:=(C2 b).choose_spec;refine hr _ h g.1 _ λm h' d hi=>⟨⟨m,hi⟩,?_⟩;have a:∃n,Inv n h':=⟨m,hi⟩;rw[dif_pos a,dif_pos b];exact BA ((C2 a).choose_spec.2 m hi) d
inductive iI:Nat->Hw->Nat->Ph->Hw->Int->Int->Prop
 | done {H:Hw} {t:Nat} {p:Ph}:wx H t p->(WH H t p).2.1=none->iI 1 H t p (Ke H t p) (WH H t p).2.2.1 (WH H t p).2.2.2
 | next {n:Nat} {H:Hw} {t:Nat} {p p':Ph} {H':Hw} {a e:Int}:wx H t p->(WH H t p).2.1=some p'->iI n (Ke H t p) t p' H' a e->iI (n+1) H t p H' a e
theorem FY {p:Ph}(ht:t<H.bR.length):∃g,(Ke H t p).bR[t]?=some g/\g.ph=(WH H t p).2.1:=by
 have a:t<(WH H t p).1.bR.length:=by rw[Fy];exact ht
 exact⟨{(WH H t p).1.bR[t]with ph:=(WH H t p).2.1},by simp[Ke,eY,Hw.eC,tN,cW a],rfl⟩
end Go.Ar
namespace Go.Ar
open Go Go.Vc Go.Proofs
open Go.Bu (fA)
variable {U:Hp}{F:Rg}
def Hl (size align:Int):Bool:=decide (1<=size)&&(decide (1<=align)&&(decide (align<=256)&&fA align))
def gV (tb:List cA)(size align:Int):Option Nat:=tb.findIdx? λc=>decide (size<=(c.size:Int))&&((c.size:Int)%align==0)
theorem T2 (n:Int)(h1:1<=n)(h2:n<=256){R:aN}(hR:∀p:Int,(p != n) = !fA n->R p U):QM.c n U R:=by
 refine QM.o ?_;unfold QM.v;refine UI (a:=bO) (bb:=bO) (λ(p q:Int) w=>w=U/\(p=0/\q=1\/∃k:Nat,k<=8/\p=((2^k:Nat):Int)/\q=((2^(k+1):Nat):Int)/\p<=n)) (λp q _=>1000-q.toNat) ⟨rfl,.inl ⟨rfl,rfl⟩⟩ ?_;rintro(p:Int) (q:Int) w ⟨rfl,hpq⟩;refine cP (λd=>?_) λr=>?_
 ·rcases hpq with⟨rfl,rfl⟩|⟨k,hk,rfl,rfl,hp⟩
  ·exact cT (m:=2) O O ⟨⟨rfl,.inr ⟨0,O,by simp,by simp,O⟩⟩,by simp⟩
  ·have s:k<=7:=by
    apply Classical.byContradiction;intro hc;have:2^9<=2^(k+1):=qk aB O;omega
   have g:=k5 (k+1);exact cT (m:=2^(k+1+1)) (by rw[mH 2 (k+1)];omega) (by rw[mH 2 (k+1)];omega) ⟨⟨rfl,.inr ⟨k+1,O,rfl,rfl,d⟩⟩,by rw[mH 2 (k+1)];omega⟩
 ·rcases hpq with⟨rfl,rfl⟩|⟨k,hk,rfl,rfl,hp⟩
  ·omega
  ·refine hR _ ?_;by_cases e:((2^k:Nat):Int)=n
   ·have:fA n=true:=by
     unfold fA;rw[zy];exact⟨k,ze.2 O,by simp[←e]⟩
    rw[this,e];simp
   ·have:fA n=false:=by
     unfold fA;rw[my];intro j hj he;have b:n=((2^j:Nat):Int):=by simpa using he
     rcases qO j k with h3|h3|h3
     ·have:2^(j+1)<=2^k:=qk aB h3;rw[mH]at this;have:=k5 j;omega
     ·subst h3;exact e b.symm
     ·have:2^(k+1)<=2^j:=qk aB h3;omega
    rw[this];simpa using e
theorem Re {s:Sl}{xs:List (Int×Int×Int)}(ha:iu U s xs)(hv:QZ xs=true)(size align:Int){R:Int->Int->Hp->Prop}
 (hR:∀σ',aF U σ'->R (if Hl size align then((gV (xs.map QI) size align).getD 0:Nat)else 0) (if Hl size align then(if(gV (xs.map QI) size align).isSome then 0 else 4)else 1) σ'):QL.c s size align U R:=by
 refine QL.o ?_;unfold QL.v;refine nw (cs:=[.int .i64 size]) λv hz e hb=>nw (cs:=[.int .i64 align]) λv1 Q e1 hb1=>?_;have aa:=e1.bV hb id;refine Bh (Qv ha (e.trans e1)) λg e2=>?_;rw[hv];have G:=e2.bV aa id;have y:=e2.bV hb1 id;have x:=(e.trans e1).trans e2;refine cD rfl ?_;have key:∀r,r = !Hl size align->(If r (R 0 1 g) (Ws.c s ⟨228,#[],#[.pointer (some ⟨U.size,0,none⟩),.pointer (some ⟨v.size,0,none⟩)]⟩ g λk v4=>If (decide (k<0)) (R 0 4 v4) (R k 0 v4))):=by
  intro r b;cases hok:Hl size align with
  | false=>
   rw[hok]at b;have:=hR g x;rw[hok]at this;exact cE (by rw[b];rfl) this
  | true=>
   rw[hok]at b;refine cD (by rw[b];rfl) ?_;have E:=hok;simp only[Hl,zF,zV]at E;refine Ws.o ?_;unfold Ws.v;have hlen:=ha.1;have hxl:=((QU xs).1 hv).2.1;refine Qz (a:=bO) (λ(z:Int) w=>∃i:Nat,z=(i:Int)/\i<=xs.length/\aF g w/\∀j c,j<i->(xs.map QI)[j]?=some c->(decide (size<=(c.size:Int))&&((c.size:Int)%align==0))=false) (λz _=>xs.length-z.toNat) ⟨0,rfl,O,Ext.refl _ _,λj c h=>O⟩ ?_;rintro(z:Int) w ⟨i,rfl,hi,ew,hno⟩;refine cP (λhlt=>?_) λW=>?_
   ·have X:i<xs.length:=by omega
    have B:(xs.map QI)[i]?=some (QI xs[i]):=by simp[X]
    generalize QI xs[i]=c at B;have C:=Qv ha (x.trans ew);obtain⟨hx,hcok⟩:=Ge C hv B;refine AF C hx ?_;refine Gp (all := #[.agg #[.int .i64 (c.size:Int),.int .i64 (c.aG:Int),.int .i64 (c.batch:Int)],.pointer (some ⟨U.size,0,none⟩),.pointer (some ⟨v.size,0,none⟩)]) (by kernel_rfl) aA ?_;refine Qj.o ?_;unfold Qj.v;refine nw (cs:=[.int .i64 (c.size:Int),.int .i64 (c.aG:Int),.int .i64 (c.batch:Int)]) λL Q e1 H=>?_;have M:=e1.bV (ew.bV G id) id;have V:=e1.bV (ew.bV y id) id;have K:=ew.trans e1;have go:∀r,r=(decide (size<=(c.size:Int))&&((c.size:Int)%align==0))->If r (If (decide ((i:Int)<0)) (R 0 4 L) (R (i:Int) 0 L)) (Ar .i64 ((i:Int)+1) λF=>(∃i:Nat,F=(i:Int)/\i<=xs.length/\aF g L/\∀j c,j<i->(xs.map QI)[j]?=some c->(decide (size<=(c.size:Int))&&((c.size:Int)%align==0))=false)/\xs.length-F.toNat<xs.length-(i:Int).toNat):=by
     intro r b;refine cO (λZ=>fZ O ?_) λh0=>?_
     ·have hf:gV (xs.map QI) size align=some i:=by
       obtain⟨P,rfl⟩:=cY.1 B;exact nK.2 ⟨P,by rw[←b];exact Z,λj D=>by rw[hno j _ D (cW O)];simp⟩
      have:=hR L (x.trans K);rw[hok,hf]at this;exact this
     ·exact cT (m:=i+1) O O ⟨⟨i+1,rfl,O,K,λj d D hd=>by
       by_cases e:j=i
       ·subst e;rw[B]at hd;cases hd;rw[←b];exact h0
       ·exact hno j d O hd⟩,O⟩
    refine H.rI rfl (M.uW rfl ?_);refine KD (λr w=>w=L/\r=(decide (size<=(c.size:Int))&&((c.size:Int)%align==0))) (λr w ⟨N,b⟩=>by subst N;exact go r b) λJ A=>?_;refine cP (λW=>H.rI rfl (V.uW rfl (nz O (A _ _ ⟨rfl,?_⟩)))) λhlt2=>A _ _ ⟨rfl,?_⟩
    ·rw[Q1 O,zI (by omega:size<=(c.size:Int)),qT]
    ·rw[zL O,vo]
   ·have hf:gV (xs.map QI) size align=none:=by
     unfold gV;rw[vB];intro c B;obtain⟨j,D⟩:=zP B;have:=(cY.1 D).1;simp at this;exact hno j c O D
    have:=hR w (x.trans ew);rw[hok,hf]at this;exact mr aB this
 refine Bg (λr w=>w=g/\r = !Hl size align) (λr w ⟨N,b⟩=>by subst N;exact key r b) λJ A=>?_;have Y:∀m,m=g->cell m ⟨U.size,0,none⟩=some (.int .i64 size):=λm S=>by rw[S,G.cell];rfl
 have u:∀m,m=g->cell m ⟨v.size,0,none⟩=some (.int .i64 align):=λm S=>by rw[S,y.cell];rfl
 refine⟨λm=>m=g,rfl,⟨size,Y,?_⟩⟩;refine cP (λZ=>A _ _ ⟨rfl,?_⟩) λZ=>⟨align,u,cP (λh2=>A _ _ ⟨rfl,?_⟩) λh2=>⟨align,u,cP (λh3=>A _ _ ⟨rfl,?_⟩) λh3=>⟨align,u,⟨align,u,?_⟩⟩⟩⟩
 ·simp only[Hl,zL (by omega:¬1<=size),vo,xJ]
 ·simp only[Hl,zL (by omega:¬1<=align),vo,uC,xJ]
 ·simp only[Hl,zL (by omega:¬align<=256),vo,uC,xJ]
 ·refine T2 align O O λp hp=>⟨rfl,A _ _ ⟨rfl,?_⟩⟩;rw[hp];simp only[Hl,zI (by omega:1<=size),zI (by omega:1<=align),zI (by omega:align<=256),qT]
end Go.Ar
namespace Go.Ar
open Go Go.Vc Go.Proofs
variable {U u u':Hp}{F B P Q:Rg}{L:dE}{H H':Hw}{t k n pb:Nat}{A:AR}{Y:Lay}{x:eR}{g:Th}{c:cA}{l:Li}{cs:List Value}
def mS (c:cA):Int×Int×Int:=((c.size:Int),(c.aG:Int),(c.batch:Int))
theorem SV (tb:List cA):(tb.map mS).map QI=tb:=by
 rw[lO]
 conv=>rhs;rw[←wj tb]
 apply ku;intro c _;rfl
theorem M6 {s:Sl}{tb:List cA}(h:cV s 3 (gH tb) U F):iu U s (tb.map mS):=by
 have D:=h.1;rw[Ux]at D;refine⟨by simp;omega,λi x y z j=>?_⟩;rw[zZ,oH]at j;obtain⟨c,A,m⟩:=j;obtain⟨p,E,w⟩:=yZ A;simp only[mS,Prod.mk.injEq]at m;obtain⟨rfl,rfl,rfl⟩:=m;obtain⟨b,o,d,g⟩:=h.cell p;obtain⟨B,r,a,u⟩:=h.cell E;rw[d]at a;cases a;obtain⟨B,r,a,C⟩:=h.cell w;rw[d]at a;cases a;exact⟨b,o,d,KY g,by rw[show o+i*3=o+3*i by omega];exact g,by rw[show o+i*3+1=o+(3*i+1) by omega];exact u,by rw[show o+i*3+2=o+(3*i+2) by omega];exact C⟩
def mX (tb:List cA):Prop:=QZ (tb.map mS)=true
def iS (tb:List cA)(kind size align addr:Int):Option Ph:=
 if kind=0 then(if 1<=size/\size<=16384 then(if Hl size align then(match gV tb size align with
  | some k=>some (.take k)
  | none=>some (.eP ((size+255).toNat/256)))else none)else none)
 else if kind=1 then some (.find addr)else if kind=2 then some .drain else none
theorem NC (h:HH U F L H)(hv:mX H.tb)(kind size align addr:Int){R:Value->Hp->Prop}(hR:∀σ',aF U σ'->R (nr (iS H.tb kind size align addr)) σ'):YI.c (aW L.p) kind size align addr U R:=by
 refine YI.o ?_;unfold YI.v;refine nw (cs:=[.int .i64 kind,.int .i64 size,.int .i64 align,.int .i64 addr]) λv M e u=>u.rI rfl ?_;have C:=h.bP e;have a:=hR v e;refine cO (λA=>?_) λA=>?_
 ·have i:kind=0:=by simpa using A
  have G:iS H.tb kind size align addr=(if 1<=size/\size<=16384 then(if Hl size align then(match gV H.tb size align with
   | some k=>some (.take k)
   | none=>some (.eP ((size+255).toNat/256)))else none)else none):=by unfold iS;rw[zC i]
  rw[G]at hR a;refine u.rI rfl (KD (λr w=>w=v/\r = !decide (1<=size/\size<=16384)) (λr w ⟨E,y⟩=>?_) λJ B=>?_)
  ·subst E;by_cases hs:1<=size/\size<=16384
   ·rw[zC hs]at hR;rw[zI hs]at y;refine cD (by rw[y];rfl) ⟨λm=>m=w,rfl,bL ⟨L.dF,λm x=>by rw[x,add_lit,C.hd.cell];rfl,⟨size,λm x=>by rw[x,add_lit,u.cell];rfl,⟨align,λm x=>by rw[x,add_lit,u.cell];rfl,?_⟩⟩⟩⟩;refine Re (M6 C.jS) hv size align λD e2=>?_;rw[SV];have z:=e2.bV u id;have b:=hR D (e.trans e2);cases hok:Hl size align with
    | false=>
     rw[hok]at b;exact cD rfl (cD rfl b)
    | true=>
     rw[hok]at b;simp only[zT]at b ⊢;cases hcl:gV H.tb size align with
     | some k=>rw[hcl]at b;exact cE rfl b
     | none=>
      rw[hcl]at b;refine cD rfl (cE rfl (z.rI rfl (ar O O (ar O O (nz aB (ar (by rw[Ye O];omega) (by rw[Ye O];omega) ?_))))));rw[Ye O];have:(size+256-1)/256=(((size+255).toNat/256:Nat):Int):=by omega
      rw[this];exact b
   ·rw[zB hs]at a;rw[zL hs]at y;exact cE (by rw[y];rfl) a
  ·refine cP (λK=>B _ _ ⟨rfl,?_⟩) λK=>u.rI rfl (B _ _ ⟨rfl,?_⟩)
   ·rw[zL O];rfl
   ·by_cases h2:size>16384
    ·rw[zI h2,zL O];rfl
    ·rw[zL h2,zI O];rfl
 ·have i:kind≠0:=by simpa using A
  refine cO (λj=>u.rI rfl ?_) λj=>?_
  ·have d:kind=1:=by simpa using j
   unfold iS at a;rw[zB i,zC d]at a;exact a
  ·have d:kind≠1:=by simpa using j
   refine cO (λs=>?_) λs=>?_
   ·have g:kind=2:=by simpa using s
    unfold iS at a;rw[zB i,zB d,zC g]at a;exact a
   ·have g:kind≠2:=by simpa using s
    unfold iS at a;rw[zB i,zB d,zB g]at a;exact a
def Vb (H:Hw)(thread kind size align addr:Int):Int ⊕ (Nat×Ph):=
 if 0<=thread/\thread<(H.bR.length:Int)then(match H.bR[thread.toNat]? with
  | some g=>(if g.ph=none then(match iS H.tb kind size align addr with
   | some p=>.inr (thread.toNat,p)
   | none=>.inl 1)else .inl 5)
  | none=>.inl 1)else .inl 1
theorem Whw (h:HH U F L H)(hv:mX H.tb)(thread kind size align addr:Int){R:aN}(h0:∀e,Vb H thread kind size align addr=.inl e->e≠0->∀σ',Ext F U σ'->HH σ' (Grow F U) L H->R e σ')
 (h1:∀t p,Vb H thread kind size align addr=.inr (t,p)->thread=(t:Int)->t<H.bR.length->∀σ',Ext F U σ'->HH σ' (Grow F U) L (eY H t (some p))->R 0 σ'):Zp.c (aW L.p) thread kind size align addr U R:=by
 refine Zp.o ?_;unfold Zp.v;refine nw (cs:=[.int .i64 kind,.int .i64 size,.int .i64 align,.int .i64 addr]) λv w e d=>?_;have K1:=(HK.start h).box e w;refine U7 K1.h (cD rfl (Dl K1.h thread ?_));by_cases hth:0<=thread/\thread<(H.bR.length:Int)
 ·obtain⟨t,rfl⟩:∃t:Nat,thread=(t:Int):=⟨thread.toNat,O⟩;have m:t<H.bR.length:=by omega
  obtain⟨x,g,j,i⟩:=h.th m;have a:Vb H (t:Int) kind size align addr=(if g.ph=none then(match iS H.tb kind size align addr with
   | some p=>.inr (t,p)
   | none=>.inl 1)else .inl 5):=by
   unfold Vb;rw[zC hth,dH,i]
  refine cD (by rw[zI hth];rfl) (bL (K1.h.hd.rS rfl (K1.h.tR j i ⟨vH _,?_⟩)));cases hp:g.ph with
  | some p=>
   rw[hp,zB aA]at a;exact cE (by rw[xS];rfl) (h0 5 a aB v K1.e (K1.fin h))
  | none=>
   rw[hp,zC rfl]at a;refine cD rfl (d.rI rfl (d.rI rfl (d.rI rfl (d.rI rfl (NC K1.h hv kind size align addr λv3 u=>⟨vH _,?_⟩)))));have K3:=K1.fr u;rw[xS];cases hq:iS H.tb kind size align addr with
   | none=>
    rw[hq]at a;exact cE rfl (h0 1 a aB v3 K3.e (K3.fin h))
   | some p=>
    rw[hq]at a;refine cD rfl (bL (K3.h.hd.rS rfl (K3.h.sG j i (some p) λs y z=>?_)));have K4:=K3.to y z λb _ d=>.inl d;have r:eY H t (some p) = {H with bR:=H.bR.set t {g with ph:=some p}}:=ZW i _;rw[←r]at K4;exact h1 t p a rfl m s K4.e (K4.fin h)
 ·have a:Vb H thread kind size align addr=.inl 1:=by unfold Vb;rw[zB hth]
  exact cE (by rw[zL hth];rfl) (h0 1 a aB v K1.e (K1.fin h))
theorem Ξ {p:Option Ph}(ht:t<H.bR.length):∃g,(eY H t p).bR[t]?=some g/\g.ph=p:=
 ⟨{H.bR[t]with ph:=p},by simp[eY,Hw.eC,tN,cW ht],rfl⟩
theorem Iq (hso:oz)(h:HH U F L H)(hv:mX H.tb)(thread kind size align addr:Int){R:Int->Int->Hp->Prop}(h0:∀e,Vb H thread kind size align addr=.inl e->e≠0->∀σ',Ext F U σ'->HH σ' (Grow F U) L H->R 0 e σ')
 (h1:∀t p,Vb H thread kind size align addr=.inr (t,p)->∃n H' a e,iI n (eY H t (some p)) t p H' a e/\∀σ' ts',Ext F U σ'->HH σ' (Grow F U) {L with ts:=ts'} H'->R a e σ'):Yp.c (aW L.p) thread kind size align addr U R:=by
 refine Yp.o ?_;unfold Yp.v;refine nw (cs:=[.int .i64 kind,.int .i64 size,.int .i64 align,.int .i64 addr]) λv hz e i=>i.rI rfl (i.rI rfl (i.rI rfl (i.rI rfl ?_)));have K1:=(HK.start h).box e hz;refine Whw K1.h hv thread kind size align addr (λx he y v1 e1 s=>?_) λt p W N ht v1 e1 s=>?_
 ·have K2:=K1.to e1 s λb _ i=>i;exact cE (by simpa using y) (h0 x he y v1 K2.e (K2.fin h))
 ·subst N;have K2:=K1.to e1 s λb _ i=>i;obtain⟨n,Hf,a,x,d,E⟩:=h1 t p W;refine cD rfl (DS (λn w=>∃(B P:Rg) (ts:List eR) (H:Hw) (p:Ph),HK F U B w P {L with ts:=ts} H/\(∃g,H.bR[t]?=some g/\g.ph=some p)/\iI n H t p Hf a x) ⟨n,_,_,L.ts,_,p,K2,Ξ ht,d⟩ ?_);rintro n w ⟨B,P,ts,H2,j,K,⟨g,hg,af⟩,d⟩ J hJ;have go:wx H2 t j->((WH H2 t j).2.1.isNone=true->(WH H2 t j).2.2.1=a/\(WH H2 t j).2.2.2=x/\Ke H2 t j=Hf)->((WH H2 t j).2.1.isNone=false->∃m M,m<n/\(WH H2 t j).2.1=some M/\iI m (Ke H2 t j) t M Hf a x)->Zu.c (aW L.p) (t:Int) w λaa A D t223 v3=>Nw (.cells #[.int .i64 0,.int .i64 0] 137 (0,0)) v3 λr v4=>dQ (r.add 0) (.int .i64 A) v4 λv5=>dQ (r.add 1) (.int .i64 D) v5 λu=>If aa (gI .i64 (r.add 0) u λae=>gI .i64 (r.add 1) u λag=>R ae ag u) (J u):=by
   intro hok hd hn;refine NZ hso K.h hg af hok λv3 z e3 ab=>?_;have K3:=K.to e3 ab λb _ i=>i;refine nw (cs:=[.int .i64 0,.int .i64 0]) λv4 X e4 S=>?_;have K4:=K3.box e4 X;refine S.s1 aA λv5 o5 b5=>b5.s1 aA λu o6 b6=>?_;have K6:=(K4.own o5 (.inr rfl)).own o6 (.inr rfl);refine cO (λY=>?_) λac=>?_
   ·obtain⟨q1,q2,q3⟩:=hd Y;rw[q3]at K6;refine b6.rI rfl (b6.rI rfl ?_);rw[q1,q2];exact E u z K6.e (K6.fin h)
   ·obtain⟨m,M,hm,Z,ad⟩:=hn ac;have Q:t<H2.bR.length:=(cY.1 hg).1;obtain⟨g',V,C⟩:=FY (p:=j) Q;exact hJ m u hm ⟨_,_,z,_,M,K6,⟨g',V,by rw[C,Z]⟩,ad⟩
  cases d with
  | done hok hnone=>exact go hok (λ_=>⟨rfl,rfl,rfl⟩) λG=>by rw[hnone]at G;cases G
  | next hok hsome hrun'=>exact go hok (λG=>by rw[hsome]at G;cases G) λ_=>⟨_,_,Nat.lt_succ_self _,hsome,hrun'⟩
end Go.Ar
namespace Go.Ar
open Go Go.Vc Go.Proofs
variable {U u w w':Hp}{F B P Q:Rg}{n:Nat}{cs:List Value}{tb:List cA}{cf:Cf}
def Uw (tb:List cA)(cf:Cf):Hw:=⟨tb,cf,V6 cf.aG,List.replicate cf.ic (fG cf.aG cf.room tb),List.replicate cf.threads ⟨List.replicate tb.length ir,[],none⟩,[]⟩
def sW (p a t b r:Int):Bool:=decide (32<=p)&&decide (p<=1024)&&(p%16==0)&&decide (1<=a)&&decide (a<=4)&&decide (1<=t)&&decide (t<=4)&&decide (0<=b)&&decide (b<=65536)&&decide (0<=r)&&decide (r<=8)
theorem lvl {K:aO}{r:Bool}{a:Addr}{x:Int}{k:IntKind}{f:Int->Bool}(hl:∀{K':Int->Prop},K' x->gI k a w K')(h:K (r&&f x) w):bX K λJ=>If r (gI k a w λt=>J (f t) w) (J false w):=
 bX.intro (cO (λb=>hl (by rw[b]at h;exact h)) λb=>by rw[b]at h;exact h)
theorem Mm (p a t b r:Int){R:aO}(hR:∀σ',aF U σ'->R (sW p a t b r) σ'):Ka.c p a t b r U R:=by
 refine Ka.o ?_;unfold Ka.v;refine nw (cs:=[.int .i64 p,.int .i64 a,.int .i64 t,.int .i64 b,.int .i64 r]) λv A e g=>g.rI rfl ?_;have i:=hR v e;unfold sW at i;refine KD (λj w=>w=v/\j=(decide (32<=p)&&decide (p<=1024))) (λj w ⟨u,x⟩=>?_) λJ m=>?_
 ·subst u;subst x;refine KD (λj z=>z=w/\j=(decide (32<=p)&&decide (p<=1024)&&(p%16==0))) (λj z ⟨u,x⟩=>?_) λJ m=>?_
  ·rw[u];subst x;exact lvl (λd=>g.rI rfl d) (lvl (λd=>g.rI rfl d) (lvl (λd=>g.rI rfl d) (lvl (λd=>g.rI rfl d) (lvl (λd=>g.rI rfl d) (lvl (λd=>g.rI rfl d) (lvl (λd=>g.rI rfl d) (lvl (λd=>g.rI rfl d) i)))))))
  ·refine cO (λs=>g.rI rfl (nz aB (m _ _ ⟨rfl,?_⟩))) λy=>m _ _ ⟨rfl,?_⟩
   ·simp only[zF,zV]at s;rw[Q1 O,zI s.1,zI s.2];rfl
   ·rw[y];rfl
 ·refine cP (λs=>g.rI rfl (m _ _ ⟨rfl,?_⟩)) λy=>m _ _ ⟨rfl,?_⟩
  ·rw[zI (by omega:32<=p)];rfl
  ·rw[zL O];rfl
structure pB where
 p:Nat
 dF:Sl
 lm:Nat
 hs:Option Nat
 hp:Option Nat
 aw:Sl
 al:List Nat
 ha:Sl
 tw:Sl
 tl:List Value
 ht:Sl
 ys:List Lay
 cs:List hU
def si (cf:Cf)(N:pB):List Value:=[.slice N.dF.a N.dF.len N.dF.cap,.int .i64 (cf.aG:Int),.int .i64 (cf.ic:Int),.int .i64 (cf.threads:Int),.int .i64 (cf.dD:Int),.int .i64 (cf.room:Int),
 .pointer (N.hp.map λq=>⟨q,0,none⟩),.slice N.ha.a N.ha.len N.ha.cap,.slice N.ht.a N.ht.len N.ht.cap,.map (some N.lm)]
def sD (n room:Nat)(tb:List cA)(y:Option Lay):Hp->Rg->Prop:=λU F=>match y with
 | some Y=>dJ U F Y (fG n room tb) (cM (fG n room tb) Y)
 | none=>True
def sJ (tb:List cA)(bud:Nat)(y:Option hU):Hp->Rg->Prop:=λU F=>match y with
 | some Y=>eN U F Y tb bud (List.replicate tb.length ir)
 | none=>True
def AK (n:Nat)(q:Option Nat):Hp->Rg->Prop:=λU F=>match q with
 | some q=>dO U F q (V6 n)
 | none=>True
def iX (tb:List cA)(cf:Cf)(N:pB):kZ->Hp->Rg->Prop
 | .hd=>iy N.p (si cf N)
 | .dF=>cV N.dF 3 (gH tb)
 | .sp=>AK cf.aG N.hs
 | .fU=>bT N.aw 1 (fO N.al)
 | .cS=>bT N.tw 3 N.tl
 | .live=>jM N.lm .i64 (.ag 4) []
 | .ar k=>sD cf.aG cf.room tb N.ys[k]?
 | .ca k=>sJ tb cf.dD N.cs[k]?
 | .hn _=>λ_ _=>True
theorem sD.loc (n room:Nat)(tb:List cA)(y:Option Lay):dN (sD n room tb y):=by
 intro U σ' F G h hz hs;cases y with
 | some Y=>exact dJ.loc _ _ _ _ h hz hs
 | none=>trivial
theorem sJ.loc (tb:List cA)(bud:Nat)(y:Option hU):dN (sJ tb bud y):=by
 intro U σ' F G h hz hs;cases y with
 | some Y=>exact eN.loc _ _ _ _ h hz hs
 | none=>trivial
theorem AK.loc (n:Nat)(q:Option Nat):dN (AK n q):=by
 intro U σ' F G h hz hs;cases q with
 | some q=>exact dO.loc _ _ _ _ h hz hs
 | none=>trivial
theorem iX.loc {N:pB}:∀i,dN (iX tb cf N i)
 | .hd=>iy.loc _ _
 | .dF=>cV.loc _ _ _
 | .sp=>AK.loc _ _
 | .fU=>bT.loc _ _ _
 | .cS=>bT.loc _ _ _
 | .live=>jM.loc _ _ _ _
 | .ar k=>sD.loc _ _ _ _
 | .ca k=>sJ.loc _ _ _
 | .hn _=>λ_ _ _ _ _ _ _=>trivial
structure NK (U:Hp) (B:Rg) (w:Hp) (P:Rg) (tb:List cA) (cf:Cf) (N:pB):Prop where
 sep:Sep (iX tb cf N) w P
 e:aF U w
 p:∀b,P b->U.size<=b/\¬B b/\b<w.size
 b:∀b,B b->U.size<=b/\b<w.size
variable {N N':pB}
theorem NK.fr (K:NK U B w P tb cf N)(e:aF w w'):NK U B w' P tb cf N:=
 ⟨(Sep.loc iX.loc).bP K.sep e,K.e.trans e,λb a=>⟨(K.p b a).1,(K.p b a).2.1,by have:=(K.p b a).2.2;have:=e.1;omega⟩,λb a=>by have:=K.b b a;have:=e.1;omega⟩
theorem NK.box (K:NK U B w P tb cf N)(e:aF w w')(hz:w'.size=w.size+1):NK U (λb=>B b\/b=w.size) w' P tb cf N:=by
 have h:=K.fr e;have i:=K.e.1;exact⟨h.sep,h.e,λb a=>⟨(K.p b a).1,λg=>g.elim (K.p b a).2.1 λd=>by have:=(K.p b a).2.2;omega,(h.p b a).2.2⟩,λb a=>a.elim (h.b b) λd=>O⟩
theorem NK.drop (K:NK U B w P tb cf N){B':Rg}(hb:∀b,B' b->B b):NK U B' w P tb cf N:=⟨K.sep,K.e,λb h=>⟨(K.p b h).1,λa=>(K.p b h).2.1 (hb b a),(K.p b h).2.2⟩,λb h=>K.b b (hb b h)⟩
theorem NK.put (K:NK U B w P tb cf N)(e:aF w w')(i:kZ)(hj:∀j,j≠i->iX tb cf N' j=iX tb cf N j)(hi:iX tb cf N' i w' (λb=>w.size<=b)):NK U B w' (λb=>P b\/w.size<=b/\b<w'.size) tb cf N':=by
 have h:=K.fr e;have m:=K.e.1;refine⟨h.sep.put iX.loc i (G:=λb=>w.size<=b/\b<w'.size) (λb a g=>by have:=(K.p b g).2.2;omega) hj ((iX.loc i).mono hi λb a d=>⟨d,a⟩) (iX.loc i),h.e,λb a=>?_,h.b⟩;rcases a with a|a
 ·exact h.p b a
 ·exact⟨O,λd=>by have:=(K.b b d).2;omega,a.2⟩
theorem NK.step (K:NK U B w P tb cf N)(i:kZ):∃G:Rg,(∀b,G b->P b)/\iX tb cf N i w G/\∀(w':Hp) (N':pB) (G':Rg),(∀j,j≠i->iX tb cf N' j=iX tb cf N j)->Ext G w w'->(∀b,G' b->G b\/w.size<=b/\¬B b)->iX tb cf N' i w' G'->(∀b,B b->b<w'.size) →
 NK U B w' (λb=>(P b/\¬G b\/G' b)/\b<w'.size) tb cf N':=by
 obtain⟨G,m,hi,_,g⟩:=K.sep.j5 iX.loc i;refine⟨G,m,hi,λw' N' G' u e r s x=>⟨?_,?_,λb a=>?_,λb a=>⟨(K.b b a).1,x b a⟩⟩⟩
 ·have:=g w' (iX tb cf N') G' u e (λb a=>(r b a).imp id λd=>d.1) s (iX.loc _);refine(Sep.loc iX.loc).mono this λb a d=>⟨?_,a⟩;exact d.imp (λd=>⟨d.1,d.2.2⟩) id
 ·exact Ext.dW K.e e λb a=>.inr (K.p b (m b a)).1
 ·have y:=K.e.1;rcases a.1 with h1|h1
  ·exact⟨(K.p b h1.1).1,(K.p b h1.1).2.1,a.2⟩
  ·rcases r b h1 with h2|h2
   ·exact⟨(K.p b (m b h2)).1,(K.p b (m b h2)).2.1,a.2⟩
   ·exact⟨O,h2.2,a.2⟩
theorem Br {K:eX [.p]}{body:eX [.p]->Prop}(P:Option Addr->Hp->Prop)(h1:∀r w,P r w->K r w)(h2:∀J:eX [.p],(∀r w,P r w->J r w)->body J):Jn [.p] K body:=Jn.intro (h2 K h1)
def gP:Sl:=⟨none,0,0⟩
def qA (cs:List hU):List Value:=cs.flatMap λc=>[.pointer (some ⟨c.p,0,none⟩),.slice none 0 0,.nilIface]
def N0 (p:Nat)(dF:Sl)(lm:Nat):pB:=⟨p,dF,lm,none,none,gP,[],gP,gP,[],gP,[],[]⟩
def NB (p:Nat)(dF:Sl)(lm q:Nat)(aw:Sl)(ys:List Lay)(tw:Sl)(cs:List hU):pB:=⟨p,dF,lm,some q,some q,aw,ys.map (·.p),aw,tw,qA cs,tw,ys,cs⟩
theorem Ey {p lm:Nat}{dF:Sl}{D:Rg}(e:aF U w)(hz:U.size<w.size)(hp:bY w p (si cf (N0 p dF lm)))(hm:dK w lm .i64 (.ag 4) [])(ht:cV dF 3 (gH tb) w D)(hD:∀b,D b->U.size<b/\b<w.size/\b≠p/\b≠lm)(hpl:p≠lm)(h1:U.size<p)(h2:U.size<lm) :
 NK U (· = U.size) w (λb=>D b\/b=p\/b=lm) tb cf (N0 p dF lm):=by
 have g:=hp.lt;have d:=hm.lt;refine⟨⟨λb=>if b=p then .hd else if b=lm then .live else .dF,λi=>?_⟩,e,λb a=>?_,λb a=>O⟩
 ·cases i with
  | hd=>exact⟨⟨.inr (.inl rfl),zC rfl⟩,hp⟩
  | live=>exact⟨⟨.inr (.inr rfl),by show(if lm=p then kZ.hd else if lm=lm then kZ.live else kZ.dF)=.live;rw[zB (Ne.symm hpl),zC rfl]⟩,hm⟩
  | dF=>exact aH.mono ht λb _ a=>⟨.inl a,by show(if b=p then kZ.hd else if b=lm then kZ.live else kZ.dF)=.dF;rw[zB (hD b a).2.2.1,zB (hD b a).2.2.2]⟩
  | sp=>trivial
  | fU=>exact bT.nil _ _ _ _
  | cS=>exact bT.nil _ _ _ _
  | ar k=>trivial
  | ca k=>trivial
  | hn k=>trivial
 ·rcases a with a|a|a
  ·have:=hD b a;omega
  ·omega
  ·omega
theorem NK.Az (K:NK U B w P tb cf N):P N.p/\bY w N.p (si cf N):=by
 obtain⟨G,b,a⟩:=K.sep.get .hd;exact⟨b _ a.1,a.2⟩
theorem NK.sd (K:NK U B w P tb cf N)(N':pB)(hN':∀j,j≠.hd->iX tb cf N' j=iX tb cf N j)(hp:N'.p=N.p){i:Nat}{v:Value}(hs:(si cf N).set i v=si cf N')(hi:i<10){Kk:aP}(hK:∀w' P',NK U B w' P' tb cf N'->Kb w w' N.p->Kk w'):dQ (Addr.add ⟨N.p,0,none⟩ i) v w Kk:=by
 obtain⟨G,r,d,a⟩:=K.step .hd;have d:iy N.p (si cf N) w G:=d;refine d.2.s1 (by simpa[si]using hi) λw' o m=>hK w' _ (a w' N' G hN' (o.ext.sub λx g=>by rw[g];exact d.1) (λx g=>.inl g) ?_ λx g=>by have:=(K.b x g).2;have:=o.1;omega) o;show iy N'.p (si cf N') w' G;rw[zH,hs]at m;rw[hp];exact⟨d.1,m⟩
theorem NV {Y:Lay}(h:N'.ys=N.ys++[Y])(hr:∀j,(∀k,j≠.ar k)->iX tb cf N' j=iX tb cf N j):∀j,j≠kZ.ar N.ys.length->iX tb cf N' j=iX tb cf N j:=by
 intro j hj;cases j with
 | ar k=>
  have a:k≠N.ys.length:=λe=>hj (by rw[e]);show sD _ _ _ N'.ys[k]?=sD _ _ _ N.ys[k]?;rw[h]
  congr 1
  rcases Nat.lt_or_gt_of_ne a with h1|h1
  ·rw[zd h1]
  ·rw[zX aE,zX O]
 | _=>exact hr _ (λk e=>by cases e)
theorem Me {Y:hU}(h:N'.cs=N.cs++[Y])(hr:∀j,(∀k,j≠.ca k)->iX tb cf N' j=iX tb cf N j):∀j,j≠kZ.ca N.cs.length->iX tb cf N' j=iX tb cf N j:=by
 intro j hj;cases j with
 | ca k=>
  have a:k≠N.cs.length:=λe=>hj (by rw[e]);show sJ _ _ N'.cs[k]?=sJ _ _ N.cs[k]?;rw[h]
  congr 1
  rcases Nat.lt_or_gt_of_ne a with h1|h1
  ·rw[zd h1]
  ·rw[zX aE,zX O]
 | _=>exact hr _ (λk e=>by cases e)
end Go.Ar
namespace Go.Ar
open Go Go.Vc Go.Proofs
variable {U u w w':Hp}{F B P Q:Rg}{n:Nat}{cs:List Value}{tb:List cA}{cf:Cf}{N:pB}
theorem Ff (p a t b r:Int):sW p a t b r=true↔(32<=p/\p<=1024/\p%16=0)/\(1<=a/\a<=4)/\(1<=t/\t<=4)/\(0<=b/\b<=65536)/\0<=r/\r<=8:=by
 simp only[sW,zF,zV,zU];omega
theorem DU (g:Gl U)(gd:Gd U):jd (λb=>U.size<=b)/\¬(U.size<=1):=by
 refine⟨?_,λh=>by have:=Bo gd;omega⟩;have d:jd (λ_=>False):=λb a=>a.elim;exact(d.grow g).sub λb a=>.inr a
theorem WmK (cs:List hU)(ls:List Li):ia (cs.map λc=>⟨c,gP⟩) (List.replicate cs.length ⟨ls,[],none⟩)=qA cs:=by
 induction cs with
 | nil=>rfl
 | cons c cs ih=>
  have e1:ia ((c::cs).map λc=>(⟨c,gP⟩:eR)) (List.replicate (c::cs).length ⟨ls,[],none⟩)=jJ (⟨c,gP⟩,⟨ls,[],none⟩)++ia (cs.map λc=>(⟨c,gP⟩:eR)) (List.replicate cs.length ⟨ls,[],none⟩):=rfl;rw[e1,ih];rfl
theorem PV (cs:List hU):(qA cs).length=cs.length*3:=by
 induction cs with
 | nil=>rfl
 | cons c cs ih=>simp only[qA,nY,zK,zS,lf]at *;omega
set_option maxRecDepth 8000 in
theorem BP {s:Sl}{xs:List (Int×Int×Int)}(ha:iu U s xs)(g:Gl U)(gd:Gd U)(p a t b r:Int){R:Option Addr->Int->Hp->Prop}
 (h2:QZ xs=false->∀σ',aF U σ'->R none 2 σ')
 (h1:QZ xs=true->sW p a t b r=false->∀σ',aF U σ'->R none 1 σ')
 (h0:QZ xs=true->sW p a t b r=true->∀σ' L,aF U σ'->HH σ' (λq=>U.size<=q) L (Uw (xs.map QI) ⟨p.toNat,a.toNat,t.toNat,b.toNat,r.toNat⟩)->R (some ⟨L.p,0,none⟩) 0 σ') :
 Vj.c s p a t b r U R:=by
 refine Vj.o ?_;unfold Vj.v;refine nw (cs:=[.int .i64 p,.int .i64 a,.int .i64 t,.int .i64 b,.int .i64 r]) λv hz e y=>?_;refine Bh (Qv ha e) λv1 e1=>?_;cases hv:QZ xs with
 | false=>exact cE rfl (h2 hv v1 (e.trans e1))
 | true=>
 have X:=e1.bV y id;refine cD rfl (X.rI rfl (X.rI rfl (X.rI rfl (X.rI rfl (X.rI rfl (Mm p a t b r λv2 e2=>?_))))));have V:=(e.trans e1).trans e2;cases hc:sW p a t b r with
 | false=>exact cE rfl (h1 hv hc v2 V)
 | true=>
 have hcf:=(Ff p a t b r).1 hc;obtain⟨p,rfl⟩:∃n:Nat,p=(n:Int):=⟨p.toNat,O⟩;obtain⟨a,rfl⟩:∃n:Nat,a=(n:Int):=⟨a.toNat,O⟩;obtain⟨t,rfl⟩:∃n:Nat,t=(n:Int):=⟨t.toNat,O⟩;obtain⟨b,rfl⟩:∃n:Nat,b=(n:Int):=⟨b.toNat,O⟩;obtain⟨r,rfl⟩:∃n:Nat,r=(n:Int):=⟨r.toNat,O⟩;simp only[dH]at h0;have h0:=h0 hv hc;have A:=e2.bV X id;have hxl:=(QU xs).1 hv;have hz2:=V.1;have hz02:U.size<v2.size:=A.lt;generalize hcfd:(⟨p,a,t,b,r⟩:Cf)=cf at h0;generalize htbd:xs.map QI=tb at h0;have hdE:∀(q:Nat) (dF:Sl) (C:Nat),si cf (N0 q dF C)=[.slice dF.a dF.len dF.cap,.int .i64 (p:Int),.int .i64 (a:Int),.int .i64 (t:Int),.int .i64 (b:Int),.int .i64 (r:Int),.pointer none,.slice none 0 0,.slice none 0 0,.map (some C)]:=λq dF C=>by rw[←hcfd];rfl
 refine cD rfl (Br (λvh w=>∃P q dF C,vh=some ⟨q,0,none⟩/\NK U (· = U.size) w P tb cf (N0 q dF C)/\bY w U.size [.int .i64 (p:Int),.int .i64 (a:Int),.int .i64 (t:Int),.int .i64 (b:Int),.int .i64 (r:Int)]) (λvh w ⟨P,q,dF,C,hvh,K,hbw⟩=>?_) λJ hJ=>?_)
 ·subst hvh;refine hbw.rI rfl (M0 (n:=p) O O λv4 sp e4 _ hS=>?_);have hp:cf.aG=p:=by rw[←hcfd]
  have hroom:cf.room=r:=by rw[←hcfd]
  have hbud:cf.dD=b:=by rw[←hcfd]
  have K1:NK U (· = U.size) v4 _ tb cf {N0 q dF C with hs:=some sp}:=K.put e4 .sp (λj H=>by cases j<;>first|rfl|exact absurd rfl H) (by
   show dO v4 _ sp (V6 cf.aG);rw[hp];exact hS)
  have hbw4:=e4.bV hbw id;refine bL (K1.sd (NB q dF C sp gP [] gP []) (λj H=>by cases j<;>first|rfl|exact absurd rfl H) rfl (i:=6) rfl O λv5 P5 K5 o5=>?_)
  have af:∀{w:Hp} {P:Rg} {N:pB},NK U (· = U.size) w P tb cf N->U.size≠N.p:=λK e=>(K.p _ K.Az.1).2.1 e.symm;have hbw5:=WF o5 hbw4 (af K1);refine hbw5.rI rfl ?_;refine Qz (a:=bO) (λ(z:Int) w=>∃(P:Rg) (aw:Sl) (ys:List Lay),z=(ys.length:Int)/\ys.length<=a/\(∀Y∈ys,Y.hs=sp)/\NK U (· = U.size) w P tb cf (NB q dF C sp aw ys gP [])/\bY w U.size [.int .i64 (p:Int),.int .i64 (a:Int),.int .i64 (t:Int),.int .i64 (b:Int),.int .i64 (r:Int)]) (λz _=>a-z.toNat) ⟨P5,gP,[],rfl,by simp,by simp,K5,hbw5⟩ ?_;rintro(z:Int) w6 ⟨P6,aw,ys,rfl,hyl,hys,K6,hbw6⟩;refine cP (λhlt=>?_) λhge=>?_
  ·refine⟨λu=>u=w6,rfl,bL ⟨some ⟨sp,0,none⟩,λu hu=>by cases hu;rw[add_lit];exact(bY.cell (b:=q) K6.Az.2).trans rfl,⟨(r:Int),λu hu=>by cases hu;rw[add_lit,hbw6.cell];rfl,?_⟩⟩⟩;obtain⟨GS,hGS,hSp⟩:=K6.sep.get .sp;have hSp:dO w6 GS sp (V6 cf.aG):=hSp;have hnl:(V6 cf.aG).st.length=p:=by rw[hp];simp[V6]
   have hnE:lH xs (V6 cf.aG).st.length (r:Int)=0:=by
    unfold lH;rw[zC hv,hnl,zC O]
   refine Rf (Qv ha K6.e) hSp (r:Int) (λhne=>absurd hnE hne) λ_ v7 Y e7 hYh hA=>?_;rw[hnl,dH,htbd]at hA;have K7:NK U (· = U.size) v7 _ tb cf {NB q dF C sp aw ys gP []with ys:=ys++[Y]}:=K6.put e7 (.ar ys.length) (NV (N:=NB q dF C sp aw ys gP []) rfl (λj H=>by
    cases j with
    | ar k=>exact absurd rfl (H k)
    | _=>rfl)) (by
    show sD cf.aG cf.room tb (ys++[Y])[ys.length]? v7 _;rw[zr (zD _),pK,hp,hroom];exact hA)
   have Q:=e7.bV hbw6 id;refine bL (K7.Az.2.rS (a:=aw.a) (n:=aw.len) (c:=aw.cap) rfl (nw (cs:=[.pointer (some ⟨Y.p,0,none⟩)]) λv8 hz8 e8 hb8=>?_));have K8:=K7.box e8 hz8;obtain⟨G,hG,d,ac⟩:=K8.step .fU;have d:bT aw 1 (fO (ys.map (·.p))) v8 G:=d;have hal:aw.len=ys.length:=by have:=d.1;simp[fO]at this;omega
   refine d.app (ys:=[.pointer (some ⟨Y.p,0,none⟩)]) rfl rfl ?_ (by simp[dV]) ?_ ?_ nh λs' v9 _ e9 hr9=>?_
   ·intro j u hu;rw[add_lit,zH,hb8.cell];exact hu
   ·simp only;omega
   ·simp only;omega
   have hz9:=e9.1;have hbw9:bY v9 U.size _:=e9.bV (e8.bV Q id) λF=>(K8.p _ (hG _ F)).2.1 (.inl rfl);have K9:=(ac v9 {NB q dF C sp aw ys gP []with ys:=ys++[Y],aw:=s',al:=(ys++[Y]).map (·.p)} (λb=>Grow G v8 b/\b<v9.size) (λj H=>by cases j<;>first|rfl|exact absurd rfl H) e9 (λb y=>y.1.imp id λF=>⟨F,λhB=>by have:=(K8.b b hB).2;omega⟩) (by
    show bT s' 1 (fO ((ys++[Y]).map (·.p))) v9 _;have:fO ((ys++[Y]).map (·.p))=fO (ys.map (·.p))++[.pointer (some ⟨Y.p,0,none⟩)]:=by simp[fO]
    rw[this];exact aI.mono hr9 λb y F=>⟨F,y⟩) λb hB=>by have:=(K8.b b hB).2;omega).drop (B':=(· = U.size)) λb y=>.inl y
   refine bL (K9.sd (NB q dF C sp s' (ys++[Y]) gP []) (λj H=>by cases j<;>first|rfl|exact absurd rfl H) rfl (i:=7) rfl O λad P10 K10 gA=>?_)
   have M:=WF gA hbw9 (af K9);exact cT (m:=ys.length+1) O O ⟨⟨P10,s',ys++[Y],by simp,by simp;omega,λZ hZ=>(zM.1 hZ).elim (hys Z) λh=>by
    rw[zN]at h;rw[h];exact hYh,K10,M⟩,O⟩
  ·have hya:ys.length=a:=by omega
   refine hbw6.rI rfl ?_;refine Qz (a:=bO) (λ(z:Int) w=>∃(P:Rg) (tw:Sl) (cs:List hU),z=(cs.length:Int)/\cs.length<=t/\NK U (· = U.size) w P tb cf (NB q dF C sp aw ys tw cs)/\bY w U.size [.int .i64 (p:Int),.int .i64 (a:Int),.int .i64 (t:Int),.int .i64 (b:Int),.int .i64 (r:Int)]) (λz _=>t-z.toNat) ⟨P6,gP,[],rfl,by simp,K6,hbw6⟩ ?_;rintro(z:Int) w7 ⟨P7,tw,cs,rfl,hcsl,K7,Q⟩;refine cP (λhlt=>?_) λhge2=>?_
   ·refine Q.rI rfl (TG (Qv ha K7.e) (b:Int) (λhvf=>by rw[hv]at hvf;cases hvf) (λ_ hn=>absurd ⟨O,O⟩ hn) λ_ _ _ v8 Y e8 hC=>?_);rw[dH,htbd]at hC;have K8:NK U (· = U.size) v8 _ tb cf {NB q dF C sp aw ys tw cs with cs:=cs++[Y]}:=K7.put e8 (.ca cs.length) (Me (N:=NB q dF C sp aw ys tw cs) rfl (λj H=>by
     cases j with
     | ca k=>exact absurd rfl (H k)
     | _=>rfl)) (by
     show sJ tb cf.dD (cs++[Y])[cs.length]? v8 _;rw[zr (zD _),pK,hbud];exact hC)
    have hbw8:=e8.bV Q id;refine bL (K8.Az.2.rS (a:=tw.a) (n:=tw.len) (c:=tw.cap) rfl (nw (cs:=[.pointer (some ⟨Y.p,0,none⟩),.slice none 0 0,.nilIface]) λv9 hz9 e9 hb9=>?_));have K9:=K8.box e9 hz9;obtain⟨G,hG,d,ac⟩:=K9.step .cS;have d:bT tw 3 (qA cs) v9 G:=d;have hal:tw.len=cs.length:=by have:=d.1;rw[PV]at this;omega
    refine d.app (ys:=[.pointer (some ⟨Y.p,0,none⟩),.slice none 0 0,.nilIface]) rfl rfl ?_ (by simp[dV]) ?_ ?_ nh λs' ad _ e10 hr10=>?_
    ·intro j u hu;rw[add_lit,zH,hb9.cell];exact hu
    ·simp only;omega
    ·simp only;omega
    have hz10:=e10.1;have M:bY ad U.size _:=e10.bV (e9.bV hbw8 id) λF=>(K9.p _ (hG _ F)).2.1 (.inl rfl);have K10:=(ac ad {NB q dF C sp aw ys tw cs with cs:=cs++[Y],tw:=s',tl:=qA (cs++[Y])} (λb=>Grow G v9 b/\b<ad.size) (λj H=>by cases j<;>first|rfl|exact absurd rfl H) e10 (λb y=>y.1.imp id λF=>⟨F,λhB=>by have:=(K9.b b hB).2;omega⟩) (by
     show bT s' 3 (qA (cs++[Y])) ad _;have:qA (cs++[Y])=qA cs++[.pointer (some ⟨Y.p,0,none⟩),.slice none 0 0,.nilIface]:=by simp[qA]
     rw[this];exact aI.mono hr10 λb y F=>⟨F,y⟩) λb hB=>by have:=(K9.b b hB).2;omega).drop (B':=(· = U.size)) λb y=>.inl y
    refine bL (K10.sd (NB q dF C sp aw ys s' (cs++[Y])) (λj H=>by cases j<;>first|rfl|exact absurd rfl H) rfl (i:=8) rfl O λv11 P11 K11 o11=>?_)
    have hbw11:=WF o11 M (af K10);exact cT (m:=cs.length+1) O O ⟨⟨P11,s',cs++[Y],by simp,by simp;omega,K11,hbw11⟩,O⟩
   ·have hct:cs.length=t:=by omega
    have S:cf.threads=cs.length:=by rw[←hcfd,hct]
    have aj:cf.ic=ys.length:=by rw[←hcfd,hya]
    have hN:=DU g gd;refine h0 w7 ⟨q,sp,C,dF,aw,tw,ys,cs.map λc=>⟨c,gP⟩⟩ K7.e ⟨⟨?_,hys,?_,?_,?_,?_,?_,?_⟩,?_,g.bP K7.e,gd.bP K7.e,hN.1,hN.2⟩
    ·simp[Uw,aj]
    ·simp[Uw,S]
    ·simp[Uw,aj];omega
    ·simp[Uw,aj];omega
    ·simp[Uw,S];omega
    ·simp[Uw,S];omega
    ·intro B hB;have:=Dq hB;rw[this];rfl
    ·refine(Sep.loc CH.loc).mono (G:=λq=>U.size<=q) ?_ λb _ y=>y;obtain⟨ρ,hs⟩:=(Sep.loc iX.loc).mono K7.sep (G:=λq=>U.size<=q) λb _ y=>(K7.p b y).1;refine⟨ρ,λi=>?_⟩;have hi:=hs i;cases i with
     | hd=>exact hi
     | dF=>exact hi
     | sp=>exact hi
     | fU=>exact bT.fW hi
     | cS=>
      show bT tw 3 (ia (cs.map λc=>⟨c,gP⟩) (List.replicate cf.threads ⟨List.replicate tb.length ir,[],none⟩)) w7 _;rw[S,WmK];exact hi
     | live=>exact hi
     | ar k=>
      show oE ys[k]? (List.replicate cf.ic (fG cf.aG cf.room tb))[k]? w7 _;have hi:sD cf.aG cf.room tb ys[k]? w7 _:=hi;unfold oE;by_cases hk:k<ys.length
      ·rw[mI,zC O,cW hk];rw[cW hk]at hi;exact hi
      ·rw[zX O];trivial
     | ca k=>
      show qV (cs.map λc=>(⟨c,gP⟩:eR))[k]? (List.replicate cf.threads (⟨List.replicate tb.length ir,[],none⟩:Th))[k]? tb cf.dD w7 _;have hi:sJ tb cf.dD cs[k]? w7 _:=hi;unfold qV;by_cases hk:k<cs.length
      ·rw[mI,zC O,zZ,cW hk];rw[cW hk]at hi;exact hi
      ·rw[zZ,zX O];trivial
     | hn k=>
      show qy (cs.map λc=>(⟨c,gP⟩:eR))[k]? (List.replicate cf.threads (⟨List.replicate tb.length ir,[],none⟩:Th))[k]? w7 _;unfold qy;by_cases hk:k<cs.length
      ·rw[mI,zC O,zZ,cW hk];exact iz.nil _ _ _
      ·rw[zZ,zX O];trivial
 ·have rd:∀(i:Nat) (x:Int),[Value.int .i64 (p:Int),.int .i64 (a:Int),.int .i64 (t:Int),.int .i64 (b:Int),.int .i64 (r:Int)][i]?=some (.int .i64 x)->∀m,bY m U.size [.int .i64 (p:Int),.int .i64 (a:Int),.int .i64 (t:Int),.int .i64 (b:Int),.int .i64 (r:Int)]->cell m (Addr.add ⟨U.size,0,none⟩ i)=some (.int .i64 x):=λi x F m hm=>by
   rw[add_lit,hm.cell,zH];exact F
  refine⟨λm=>bY m U.size [.int .i64 (p:Int),.int .i64 (a:Int),.int .i64 (t:Int),.int .i64 (b:Int),.int .i64 (r:Int)],A,⟨(p:Int),rd 0 _ rfl,⟨(a:Int),rd 1 _ rfl,⟨(t:Int),rd 2 _ rfl,⟨(b:Int),rd 3 _ rfl,⟨(r:Int),rd 4 _ rfl,⟨?_,?_⟩⟩⟩⟩⟩⟩⟩
  ·refine Uq (Qv ha V) hv λdF v16 aa E=>⟨aa.bV A id,uL λv17 z17 ah hm=>⟨ah.bV (aa.bV A id) id,?_⟩⟩;rw[htbd]at E;have hz16:=aa.1;refine nw (cs:=[.slice dF.a dF.len dF.cap,.int .i64 (p:Int),.int .i64 (a:Int),.int .i64 (t:Int),.int .i64 (b:Int),.int .i64 (r:Int),.pointer none,.slice none 0 0,.slice none 0 0,.map (some v16.size)]) λv18 z18 ae hb18=>⟨ae.bV (ah.bV (aa.bV A id) id) id,hJ _ _ ⟨_,v17.size,dF,v16.size,rfl,Ey (D:=λq=>v2.size<=q/\q<v16.size) (((V.trans aa).trans ah).trans ae) O (by rw[hdE];exact hb18) (ae.fV (hm .i64 (.ag 4)) id) ?_ (λb y=>O) O O O,ae.bV (ah.bV (aa.bV A id) id) id⟩⟩;exact aH.bP (aH.bP (aH.mono E (G:=λq=>v2.size<=q/\q<v16.size) λb y F=>⟨F,y⟩) ah) ae
  ·refine uL λv19 z19 W hm=>⟨W.bV A id,Uq (Qv ha (V.trans W)) hv λdF v20 ab E=>⟨ab.bV (W.bV A id) id,?_⟩⟩;rw[htbd]at E;have hz20:=ab.1;refine nw (cs:=[.slice dF.a dF.len dF.cap,.int .i64 (p:Int),.int .i64 (a:Int),.int .i64 (t:Int),.int .i64 (b:Int),.int .i64 (r:Int),.pointer none,.slice none 0 0,.slice none 0 0,.map (some v2.size)]) λv21 z21 ai hb21=>⟨ai.bV (ab.bV (W.bV A id) id) id,hJ _ _ ⟨_,v20.size,dF,v2.size,rfl,Ey (D:=λq=>v19.size<=q/\q<v20.size) (((V.trans W).trans ab).trans ai) O (by rw[hdE];exact hb21) (ai.fV (ab.fV (hm .i64 (.ag 4)) id) id) ?_ (λb y=>O) O O O,ai.bV (ab.bV (W.bV A id) id) id⟩⟩;exact aH.bP (aH.mono E (G:=λq=>v19.size<=q/\q<v20.size) λb y F=>⟨F,y⟩) ai
end Go.Ar
namespace Go.Ar
open Go Go.Vc Go.Proofs
variable {U u w w':Hp}{F B P Q:Rg}{L:dE}{H:Hw}{t:Nat}{g:Th}
theorem WjV (u:Value){R:ByteArray->Hp->Prop}(h:Wg Tryz.prog 379 #[u] [.one .str] U R):jh Tryz.prog (.iface 235 u) "freehold/heap.name" [] [.one .str] U R :=
 ⟨235,u,379,rfl,λw=>by kernel_rfl,λxs w=>by kernel_rfl,h⟩
theorem Α (u:Value){R:ByteArray->Hp->Prop}(h:Wg Tryz.prog 383 #[u] [.one .str] U R):jh Tryz.prog (.iface 245 u) "freehold/heap.name" [] [.one .str] U R :=
 ⟨245,u,383,rfl,λw=>by kernel_rfl,λxs w=>by kernel_rfl,h⟩
theorem TE (u:Value){R:ByteArray->Hp->Prop}(h:Wg Tryz.prog 385 #[u] [.one .str] U R):jh Tryz.prog (.iface 248 u) "freehold/heap.name" [] [.one .str] U R :=
 ⟨248,u,385,rfl,λw=>by kernel_rfl,λxs w=>by kernel_rfl,h⟩
theorem LW (u:Value){R:ByteArray->Hp->Prop}(h:Wg Tryz.prog 386 #[u] [.one .str] U R):jh Tryz.prog (.iface 250 u) "freehold/heap.name" [] [.one .str] U R :=
 ⟨250,u,386,rfl,λw=>by kernel_rfl,λxs w=>by kernel_rfl,h⟩
theorem TB (u:Value){R:ByteArray->Hp->Prop}(h:Wg Tryz.prog 384 #[u] [.one .str] U R):jh Tryz.prog (.iface 247 u) "freehold/heap.name" [] [.one .str] U R :=
 ⟨247,u,384,rfl,λw=>by kernel_rfl,λxs w=>by kernel_rfl,h⟩
theorem MB (u:Value){R:ByteArray->Hp->Prop}(h:Wg Tryz.prog 380 #[u] [.one .str] U R):jh Tryz.prog (.iface 237 u) "freehold/heap.name" [] [.one .str] U R :=
 ⟨237,u,380,rfl,λw=>by kernel_rfl,λxs w=>by kernel_rfl,h⟩
theorem Ou (u:Value){R:ByteArray->Hp->Prop}(h:Wg Tryz.prog 381 #[u] [.one .str] U R):jh Tryz.prog (.iface 239 u) "freehold/heap.name" [] [.one .str] U R :=
 ⟨239,u,381,rfl,λw=>by kernel_rfl,λxs w=>by kernel_rfl,h⟩
theorem NG (u:Value){R:ByteArray->Hp->Prop}(h:Wg Tryz.prog 387 #[u] [.one .str] U R):jh Tryz.prog (.iface 255 u) "freehold/heap.name" [] [.one .str] U R :=
 ⟨255,u,387,rfl,λw=>by kernel_rfl,λxs w=>by kernel_rfl,h⟩
theorem PY (u:Value){R:ByteArray->Hp->Prop}(h:Wg Tryz.prog 388 #[u] [.one .str] U R):jh Tryz.prog (.iface 258 u) "freehold/heap.name" [] [.one .str] U R :=
 ⟨258,u,388,rfl,λw=>by kernel_rfl,λxs w=>by kernel_rfl,h⟩
theorem LS (u:Value){R:ByteArray->Hp->Prop}(h:Wg Tryz.prog 389 #[u] [.one .str] U R):jh Tryz.prog (.iface 262 u) "freehold/heap.name" [] [.one .str] U R :=
 ⟨262,u,389,rfl,λw=>by kernel_rfl,λxs w=>by kernel_rfl,h⟩
theorem WiK (u:Value){R:ByteArray->Hp->Prop}(h:Wg Tryz.prog 382 #[u] [.one .str] U R):jh Tryz.prog (.iface 241 u) "freehold/heap.name" [] [.one .str] U R :=
 ⟨241,u,382,rfl,λw=>by kernel_rfl,λxs w=>by kernel_rfl,h⟩
def om (s:ByteArray):Prop:=(s.toList==(ByteArray.mk #[]).toList)=false
theorem SJ (p:Ph){R:ByteArray->Hp->Prop}(hR:∀s σ',aF U σ'->om s->R s σ'):jh Tryz.prog (nr (some p)) "freehold/heap.name" [] [.one .str] U R := by
 cases p with
 | take k=>
  refine WjV _ (Qk.o ?_);unfold Qk.v;exact nw (cs:=[.int .i64 (k:Int)]) λv hz e hb=>hR _ v e (by unfold om;decide +kernel)
 | cJ k w=>
  refine Α _ (Zn.o ?_);unfold Zn.v;exact nw (cs:=[.int .i64 (k:Int),.int .i64 (w:Int)]) λv hz e hb=>hR _ v e (by unfold om;decide +kernel)
 | cL k w=>
  refine TE _ (ZI.o ?_);unfold ZI.v;exact nw (cs:=[.int .i64 (k:Int),.int .i64 (w:Int)]) λv hz e hb=>hR _ v e (by unfold om;decide +kernel)
 | grow k w=>
  refine LW _ (Qo.o ?_);unfold Qo.v;exact nw (cs:=[.int .i64 (k:Int),.int .i64 (w:Int)]) λv hz e hb=>hR _ v e (by unfold om;decide +kernel)
 | fill=>
  refine TB _ (Qi.o ?_);unfold Qi.v;exact nw (cs:=[]) λv hz e hb=>hR _ v e (by unfold om;decide +kernel)
 | eP m=>
  refine MB _ (Z6.o ?_);unfold Z6.v;exact nw (cs:=[.int .i64 (m:Int)]) λv hz e hb=>hR _ v e (by unfold om;decide +kernel)
 | find x=>
  refine Ou _ (Qt.o ?_);unfold Qt.v;exact nw (cs:=[.int .i64 x]) λv hz e hb=>hR _ v e (by unfold om;decide +kernel)
 | put k x=>
  refine NG _ (QH.o ?_);unfold QH.v;exact nw (cs:=[.int .i64 (k:Int),.int .i64 x]) λv hz e hb=>hR _ v e (by unfold om;decide +kernel)
 | back=>
  refine PY _ (Qm.o ?_);unfold Qm.v;exact nw (cs:=[]) λv hz e hb=>hR _ v e (by unfold om;decide +kernel)
 | dG s a=>
  refine LS _ (Qh.o ?_);unfold Qh.v;exact nw (cs:=[.int .i64 s,.int .i64 a]) λv hz e hb=>hR _ v e (by unfold om;decide +kernel)
 | drain=>
  refine WiK _ (Z7.o ?_);unfold Z7.v;exact nw (cs:=[]) λv hz e hb=>hR _ v e (by unfold om;decide +kernel)
def UE (H:Hw)(thread:Int):Option Ph:=if 0<=thread/\thread<(H.bR.length:Int)then(match H.bR[thread.toNat]? with
 | some g=>g.ph
 | none=>none)else none
theorem F4 (h:HH U F L H)(thread:Int){R:ByteArray->Hp->Prop}(hR:∀s σ',aF U σ'->(s.toList==(ByteArray.mk #[]).toList)=(UE H thread).isNone->R s σ'):YZ.c (aW L.p) thread U R:=by
 refine YZ.o ?_;unfold YZ.v;have i:UE H thread=none->R (ByteArray.mk #[]) U:=λd=>hR _ U (Ext.refl _ _) (by rw[d];decide +kernel);refine U7 h (KD (λr w=>w=U/\r = !decide (0<=thread/\thread<(H.bR.length:Int))) (λr w ⟨y,A⟩=>?_) λJ C=>cD rfl (Dl h thread (C _ _ ⟨rfl,rfl⟩)));subst y;refine KD (λr B=>B=w/\r=(UE H thread).isNone) (λr B ⟨y,b⟩=>?_) λJ1 j=>?_
 ·rw[y];cases d:UE H thread with
  | none=>rw[d]at b;exact cE (by rw[b];rfl) (i d)
  | some p=>
   rw[d]at b;have a:=d;unfold UE at a;split at a
   ·rename_i hth;obtain⟨t,rfl⟩:∃t:Nat,thread=(t:Int):=⟨thread.toNat,O⟩;have m:t<H.bR.length:=by omega
    obtain⟨x,g,z,u⟩:=h.th m;rw[dH,u]at a;simp only at a;refine cD (by rw[b];rfl) (bL (h.hd.rS rfl (h.tR z u ?_)));rw[a];exact SJ p λs σ' e m=>hR s σ' e (by rw[d];exact m)
   ·cases a
 ·by_cases hth:0<=thread/\thread<(H.bR.length:Int)
  ·obtain⟨t,rfl⟩:∃t:Nat,thread=(t:Int):=⟨thread.toNat,O⟩;have m:t<H.bR.length:=by omega
   obtain⟨x,g,z,u⟩:=h.th m;refine cD (by rw[A,zI hth];rfl) (bL (h.hd.rS rfl (h.tR z u ⟨vH _,j _ _ ⟨rfl,?_⟩⟩)));rw[xS];unfold UE;rw[zC hth,dH,u]
  ·refine cE (by rw[A,zL hth];rfl) (j _ _ ⟨rfl,?_⟩);unfold UE;rw[zB hth];rfl
def iT (H:Hw):Prop:=1<=H.cf.aG/\H.cf.threads=H.bR.length/\mX H.tb
end Go.Ar
namespace Go.Ar
open Go Go.Vc Go.Proofs
open Go.Bu (fA)
variable {U u w w':Hp}{F B P Q:Rg}{L:dE}{H H':Hw}{t:Nat}{g:Th}
def Χ:List Value:=[.slice none 0 0,.int .i64 0,.int .i64 0,.int .i64 0,.int .i64 0,.int .i64 0,.pointer none,.slice none 0 0,.slice none 0 0,.map none]
def CR (vh:Option Addr)(U:Hp):Prop:=vh=none\/∃n,vh=some ⟨n,0,none⟩/\bY U n Χ
theorem CR.bP {vh:Option Addr}(h:CR vh U)(e:aF U w):CR vh w:=h.imp id λ⟨n,a,b⟩=>⟨n,a,e.bV b id⟩
def KN (H:Hw)(thread kind size align addr:Int)(H':Hw)(a e:Int):Prop:=
 (Vb H thread kind size align addr=.inl e/\e≠0/\H'=H/\a=0)\/∃t p n,Vb H thread kind size align addr=.inr (t,p)/\iI n (eY H t (some p)) t p H' a e
theorem EJ (hso:oz)(h:HH U F L H)(hv:mX H.tb){thread kind size align addr:Int}{a e:Int}(hw:KN H thread kind size align addr H' a e){R:Int->Int->Hp->Prop}
 (hR:∀σ' ts',Ext F U σ'->HH σ' (Grow F U) {L with ts:=ts'} H'->R a e σ'):Yp.c (aW L.p) thread kind size align addr U R:=by
 rcases hw with⟨hs,hne,rfl,rfl⟩|⟨t,p,n,hs,hr⟩
 ·exact Iq hso h hv thread kind size align addr (λg b _ σ' i d=>by
   rw[hs]at b;cases b;exact hR σ' L.ts i d) λt p b=>by rw[hs]at b;cases b
 ·exact Iq hso h hv thread kind size align addr (λg b=>by rw[hs]at b;cases b) λm j b=>by
   rw[hs]at b;cases b;exact⟨n,H',a,e,hr,hR⟩
theorem TO (hso:oz)(h:HH U F L H)(hv:mX H.tb){thread size align:Int}{a e:Int}(hw:KN H thread 0 size align 0 H' a e){R:Int->Int->Hp->Prop}
 (hR:∀σ' ts',Ext F U σ'->HH σ' (Grow F U) {L with ts:=ts'} H'->R a e σ'):Y4.c (aW L.p) thread size align U R:=by
 refine Y4.o ?_;unfold Y4.v;exact EJ hso h hv hw hR
theorem Ss (hso:oz)(h:HH U F L H)(hv:mX H.tb){thread addr:Int}{a e:Int}(hw:KN H thread 1 0 0 addr H' a e){R:aN}
 (hR:∀σ' ts',Ext F U σ'->HH σ' (Grow F U) {L with ts:=ts'} H'->R e σ'):ZP.c (aW L.p) thread addr U R:=by
 refine ZP.o ?_;unfold ZP.v;exact EJ hso h hv hw hR
def Q2 (H' H:Hw):Prop:=H'.tb=H.tb/\H'.cf=H.cf/\H'.bR.length=H.bR.length/\H'.bZ.length=H.bZ.length
theorem Q2.refl (H:Hw):Q2 H H:=⟨rfl,rfl,rfl,rfl⟩
theorem Q2.trans {H1 H2 H3:Hw}(a:Q2 H2 H1)(b:Q2 H3 H2):Q2 H3 H1:=⟨b.1.trans a.1,b.2.1.trans a.2.1,b.2.2.1.trans a.2.2.1,b.2.2.2.trans a.2.2.2⟩
theorem Vz (H:Hw)(t:Nat)(f:Th->Th):Q2 (H.eC t f) H:=⟨rfl,rfl,by simp[Hw.eC],rfl⟩
theorem Vv (H:Hw)(k:Nat)(A:AR)(sp:Sp):Q2 {H.cF k A with sp:=sp} H:=⟨rfl,rfl,rfl,by simp[Hw.cF]⟩
theorem S2 (H:Hw)(k:Nat)(part:Nat->List Int)(j:Nat):Q2 (VS H k part (List.range j)) H:=by
 induction j with
 | zero=>exact Q2.refl H
 | succ j ih=>
  rw[VI];split
  ·split
   ·exact ih
   ·exact ih.trans (Vv _ _ _ _)
  ·exact ih
theorem O5 (H:Hw)(own k:Nat)(xs:List Int):Q2 (GV H own k xs) H:=by
 unfold GV;split
 ·split
  ·exact Vv _ _ _ H.sp
  ·refine Q2.trans ?_ (S2 _ _ _ _);split
   ·exact Vv _ _ _ H.sp
   ·exact Q2.refl H
 ·exact Q2.refl H
theorem TJ (H:Hw)(t k:Nat)(x:Int):Q2 (iD H t k x) H:=by
 unfold iD;simp only;split<;>split<;>exact⟨rfl,rfl,by simp[Hw.eC,Kr],rfl⟩
theorem Wji (H:Hw)(t:Nat)(p:Ph):Q2 (WH H t p).1 H:=by
 cases p with
 | take k=>simp only[WH];split<;>exact⟨rfl,rfl,by simp[V9,Kr,Hw.eC,Hw.cF],by simp[V9,Kr,Hw.eC,Hw.cF]⟩
 | cJ k w=>
  simp only[WH];split
  ·split
   ·exact(Vv _ _ _ H.sp).trans (Vz _ _ _)
   ·exact Q2.refl H
  ·exact Q2.refl H
 | cL k w=>
  simp only[WH];split
  ·exact Vv _ _ _ H.sp
  ·exact(Vv _ _ _ H.sp).trans (Vz _ _ _)
 | grow k w=>simp only[WH];split<;>exact Vv _ _ _ _
 | fill=>
  simp only[WH];split
  ·exact⟨rfl,rfl,by simp[V9,Kr,Hw.eC,Hw.cF],by simp[V9,Kr,Hw.eC,Hw.cF]⟩
  ·exact Q2.refl H
 | eP m=>simp only[WH];split<;>exact⟨rfl,rfl,by simp[V9,Kr,Hw.eC,Hw.cF],by simp[V9,Kr,Hw.eC,Hw.cF]⟩
 | find x=>
  simp only[WH,HC];split
  ·exact Q2.refl H
  ·split
   ·exact⟨rfl,rfl,rfl,rfl⟩
   ·exact Q2.trans (H2:={H with live:=Go.Vc.cN H.live x}) ⟨rfl,rfl,rfl,rfl⟩ (Vz _ _ _)
 | put k x=>exact TJ H t k x
 | back=>
  simp only[WH];split
  ·exact(Vz _ _ _).trans (O5 _ _ _ _)
  ·exact Q2.refl H
 | dG s a=>
  simp only[WH];split
  ·exact Vv _ _ _ H.sp
  ·exact Q2.refl H
 | drain=>exact Vz _ _ _
theorem U8 (H:Hw)(t:Nat)(p:Ph):Q2 (Ke H t p) H:=(Wji H t p).trans (Vz _ _ _)
theorem IG {n:Nat}{H H':Hw}{t:Nat}{p:Ph}{a e:Int}(h:iI n H t p H' a e):Q2 H' H:=by
 induction h with
 | done=>exact U8 _ _ _
 | next _ _ _ ih=>exact(U8 _ _ _).trans ih
theorem iT.bS (h:iT H)(k:Q2 H' H):iT H':=⟨by rw[k.2.1];exact h.1,by rw[k.2.1,k.2.2.1];exact h.2.1,by rw[k.1];exact h.2.2⟩
end Go.Ar