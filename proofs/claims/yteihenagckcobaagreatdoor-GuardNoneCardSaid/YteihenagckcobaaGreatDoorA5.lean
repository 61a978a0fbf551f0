/- Texts joined. -/
import Derived.Test.YteihenagckcobaaGreatDoorA4
set_option linter.unusedVariables false
set_option linter.unusedSimpArgs false
namespace Go.Proofs
open Go.Vc
set_option maxRecDepth 100000
def Xs.h:Hn:=.q .o2 (.q (.q .o3 .aJ) (.q (.o 12) (.q (.q .o2 .aJ) (.q .o4 .l))))
def Xs.v (a:R2)(b:Int)(c:Hp)(d:Int->Int->Hp->Prop):Prop:=WZ.c a c λe f=>If (!e) (d 0 5 f) (bI a 9 f λh=>Lk .i64 (.ag 4) h b f λi=>aV #[.I 0,.I 0,.I 0,.I 0] 112 f λj k=>aR j 0 (.I ((i.getD (0,0,0,0)).1)) k λl=>aR j 1 (.I ((i.getD (0,0,0,0)).2.1)) l λm=>aR j 2 (.I ((i.getD (0,0,0,0)).2.2.1)) m λn=>aR j 3 (.I ((i.getD (0,0,0,0)).2.2.2)) n λo=>If (!i.isSome) (d 0 8 o) (aQ j 1 o λp=>d p 0 o))
theorem Xs.o {a b c d}(e:Xs.v a b c d):Xs.c a b c d:=Wa Tryz.func25 (x:=Xs.h) (R0 e)
def Xb.h:Hn:=.q .o1 (.q .o6 .l)
def Xb.v (a:R2)(b c:Int)(d:Hp)(e:aN):Prop:=Ym.c a d λf g=>X9.c f b c g λh i=>e h i
theorem Xb.o {a b c d e}(f:Xb.v a b c d e):Xb.c a b c d e:=Wa Tryz.func27 (x:=Xb.h) (R0 f)
def Yu.h:Hn:=.q .o2 (.q .gG .l)
def Yu.v (a:R2)(b c d:Int)(e:Hp)(f:Int->Int->Hp->Prop):Prop:=XP.c a b 0 c d 0 e λg h i=>f g h i
theorem Yu.o {a b c d e f}(g:Yu.v a b c d e f):Yu.c a b c d e f:=Wa Tryz.func43 (x:=Yu.h) (R0 g)
def Yz.h:Hn:=.q .o2 (.q .o8 .l)
def Yz.v (a:R2)(b:Int)(c:Hp)(d:Int->Int->Hp->Prop):Prop:=Ym.c a c λe f=>Yw.c e b f λg h i=>d g h i
theorem Yz.o {a b c d}(e:Yz.v a b c d):Yz.c a b c d:=Wa Tryz.func49 (x:=Yz.h) (R0 e)
def WZ.h:Hn:=.q .o1 (.q (.cS (.seq [.op,.op,.op,.cO true 6 (RI.ops 6),.op])) .l)
def WZ.v (a:R2)(b:Hp)(c:aO):Prop:=bR (λd e=>c d e) λf=>If (!a.isNone) (bE a 8 b λh=>f (decide (((h.len:Nat):Int)>0)) b) (f false b)
theorem WZ.o {a b c}(d:WZ.v a b c):WZ.c a b c:=Wa Tryz.func58 (x:=WZ.h) (R0 d)
def Ym.h:Hn:=.q .o1 (.q (.q .o3 .aK) (.q .o5 .l))
def Ym.v (a:R2)(b:Hp)(c:Option Addr->Hp->Prop):Prop:=WZ.c a b λd e=>If (!d) (c none e) (bF a 6 e λg=>c g e)
theorem Ym.o {a b c}(d:Ym.v a b c):Ym.c a b c:=Wa Tryz.func61 (x:=Ym.h) (R0 d)
def Zb.h:Hn:=.q .o1 (.q .gG .aL)
def Zb.v (a:R2)(b c:Int)(d:Hp)(e:aN):Prop:=XP.c a b 1 0 0 c d λf g h=>e g h
theorem Zb.o {a b c d e}(f:Zb.v a b c d e):Zb.c a b c d e:=Wa Tryz.func70 (x:=Zb.h) (R0 f)
def YO.h:Hn:=.q .o2 (.q (.k (.q .o4 (.c .aM (.q .o5 (.c .aM (.q .gG .aK)))))) (.q .o4 (.q (.q .o2 .aK) (.q .o9 .aM))))
def YO.v (a:R2)(b c d e f:Int)(g:Hp)(h:aN):Prop:=aV #[.I c,.I d,.I e,.I f] 123 g λi j=>WZ.c a j λk l=>If (!k) (h 5 l) (XS.c a b l λm n=>If (!m) (h 1 n) (bE a 8 n λp=>Ix p.a p.len b 3 λq=>bA q 2 n λr=>And (iK r) <| If (!(j0 r)) (h 5 n) (aQ i 0 n λs=>aQ i 1 n λt=>aQ i 2 n λu=>aQ i 3 n λv=>X7.c a s t u v n λw x=>And (iK w) <| If (j0 w) (h 1 x) (bE a 8 x λz=>Ix z.a z.len b 3 λaa=>And (iK w) <| aR aa 2 (w) x λab=>h 0 ab))))
theorem YO.o {a b c d e f g h}(i:YO.v a b c d e f g h):YO.c a b c d e f g h:=Wa Tryz.func72 (x:=YO.h) (R0 i)
def YU.h:Hn:=.q .o3 (.q (.k (.q .o4 (.c (.q .o4 .l) (.q .o5 (.c (.q .o4 .l) (.q .gG (.c (.q .o4 .l) .l))))))) (.q (.o 17) (.q .o9 (.q (.cS (.tail 4 (RI.ops 4) [.op,.op])) .l))))
def YU.v (a:R2)(b:Int)(c:Hp)(d:Bool->Int->Int->Int->Hp->Prop):Prop:=aV #[.I 0,.I 0] 125 c λe f=>WZ.c a f λg h=>If (!g) (aR e 0 (.I 0) h λi=>aR e 1 (.I 0) i λj=>aQ e 0 j λk=>aQ e 1 j λl=>d false k l 5 j) (XS.c a b h λm n=>If (!m) (aR e 0 (.I 0) n λo=>aR e 1 (.I 0) o λp=>aQ e 0 p λq=>aQ e 1 p λr=>d false q r 1 p) (bE a 8 n λt=>Ix t.a t.len b 3 λu=>bA u 2 n λv=>And (iK v) <| If (j0 v) (aR e 0 (.I 0) n λw=>aR e 1 (.I 0) w λx=>aQ e 0 x λy=>aQ e 1 x λz=>d false y z 5 x) (bE a 8 n λab=>Ix ab.a ab.len b 3 λac=>bA ac 2 n λad=>Zc.c a b (ad) n λae af ag ah=>aV #[.I 0,.I 0] 125 ah λai aj=>aR ai 0 (.I af) aj λak=>aR ai 1 (.I ag) ak λal=>bE a 8 al λan=>Ix an.a an.len b 3 λao=>And (iK ae) <| aR ao 2 (ae) al λap=>And (iK ae) <| aQ ai 0 ap λaq=>aQ ai 1 ap λar=>aR e 0 (.I aq) ap λau=>aR e 1 (.I ar) au λav=>aQ e 0 av λaw=>aQ e 1 av λax=>d (j0 ae) aw ax 0 av)))
theorem YU.o {a b c d}(e:YU.v a b c d):YU.c a b c d:=Wa Tryz.func73 (x:=YU.h) (R0 e)
def XP.h:Hn:=.q .o3 (.q (.q .o5 (.q .o2 (.c (.q .o3 .l) .l))) (.k (.loop [] (.k (.q (.o 11) (.q .o1 (.c (.q (.oq 6) .l) .l)))))))
def XP.v (a:R2)(b c d e f:Int)(g:Hp)(h:Int->Int->Hp->Prop):Prop:=aV #[.I c,.I d,.I e,.I f] 123 g λi j=>aQ i 0 j λk=>aQ i 1 j λl=>aQ i 2 j λm=>aQ i 3 j λn=>YO.c a b k l m n j λo p=>If (o != 0) (h 0 o p) (YC [] (λq=>q p) λr s=>YU.c a b s λt u v w x=>aV #[.I 0,.I 0] 125 x λy z=>aR y 0 (.I u) z λaa=>aR y 1 (.I v) aa λab=>If t (aQ y 0 ab λac=>aQ y 1 ab λad=>h ac ad ab) (r ab))
theorem XP.o {a b c d e f g h}(i:XP.v a b c d e f g h):XP.c a b c d e f g h:=Wa Tryz.func81 (x:=XP.h) (R0 i)
def Xk.h:Hn:=.q .o1 (.q (.q .o3 .aJ) (.q .o5 .l))
def Xk.v (a:R2)(b:Hp)(c:Int->Int->Int->Int->Int->Hp->Prop):Prop:=aV #[.I 0,.I 0,.I 0,.I 0,.I 0] 23 b λd e=>WZ.c a e λf g=>If (!f) (aR d 0 (.I 0) g λh=>aR d 1 (.I 0) h λi=>aR d 2 (.I 0) i λj=>aR d 3 (.I 0) j λk=>aR d 4 (.I 0) k λl=>aQ d 0 l λm=>aQ d 1 l λn=>aQ d 2 l λo=>aQ d 3 l λp=>aQ d 4 l λq=>c m n o p q l) (bT a λr=>bM ((r.add 1).add 0) g λs=>bM ((r.add 1).add 1) g λt=>bM ((r.add 1).add 2) g λu=>bM ((r.add 1).add 3) g λv=>bM ((r.add 1).add 4) g λw=>aR d 0 (.I s) g λx=>aR d 1 (.I t) x λy=>aR d 2 (.I u) y λz=>aR d 3 (.I v) z λaa=>aR d 4 (.I w) aa λab=>aQ d 0 ab λac=>aQ d 1 ab λad=>aQ d 2 ab λae=>aQ d 3 ab λaf=>aQ d 4 ab λag=>c ac ad ae af ag ab)
theorem Xk.o {a b c}(d:Xk.v a b c):Xk.c a b c:=Wa Tryz.func92 (x:=Xk.h) (R0 d)
def Q9.h:Hn:=.q .o3 (.q (.k (.q .o4 (.c .aL (.q .o4 .aJ)))) (.q (.cS (.gQ true [] [(6,.one .p)] (.take 0 (.take 2 (.all [(1,.all [(3,.take 4 (.all [(5,.take 6 (.done))]))]),(3,.all [(1,.take 4 (.all [(5,.take 6 (.done))]))])]))))) (.q .gG (.q (.q .o3 (.k (.loop [(36,.I)] (.q .o1 (.q (.c .l .l) (.q (.k (.q (.cS (.held true [7] (.take 0 (.take 1 (.take 2 (.take 3 (.take 4 (.take 5 (.take 6 (.all [(7,.take 8 (.take 9 (.take 10 (.take 11 (.take 12 (.done))))))])))))))))) (.o 11))) .o2)))))) (.q (.q .o3 (.k (.loop [(62,.I)] (.q .o1 (.q (.c .l .l) (.q (.k (.q .o9 (.o 12))) .o2)))))) (.q .o3 .l))))))
def Q9.v (a:Sl)(b c d e f:Int)(g:Hp)(h:Option Addr->Int->Hp->Prop):Prop:=aV #[.I b,.I c,.I d,.I e,.I f] 23 g λi j=>Zm.c a j λk l=>If (!k) (h none 2 l) (aQ i 0 l λm=>aQ i 1 l λn=>aQ i 2 l λo=>aQ i 3 l λp=>aQ i 4 l λq=>Qf.c m n o p q l λr s=>If (!r) (h none 1 s) (Jn [.p] (λ(t:R2) u=>aQ i 0 u λv=>QE.c v u λw x y=>bT t λz=>aR z 6 (.pointer w) y λaa=>aQ i 1 aa λab=>YC [bN] (λac=>ac 0 aa) λad (ae:Int) af=>If (ae<ab) (eN af λag=>bT t λah=>aU ag ah 6 λai=>aS ag i 4 λaj=>QC.c a ai aj af λak al am=>bE t 7 am λao=>aV #[.pointer ak] 138 am λap aq=>App ao 1 8 138 [.pointer none] ⟨some ap,1,1⟩ aq λar au=>bT t λav=>aR av 7 (.slice ar.a ar.len ar.cap) au λaw=>bL (ae+1) λax=>ad ax aw) (aQ i 2 af λay=>YC [bN] (λaz=>az 0 af) λa0 (a1:Int) a2=>If (a1<ay) (aQ i 3 a2 λa3=>QB.c a a3 a2 λa4 a5 a6=>bE t 8 a6 λa8=>aV #[.pointer a4,.slice none 0 0,.nilIface] 133 a6 λa9 ba=>App a8 3 48 133 [.pointer none,.slice none 0 0,.nilIface] ⟨some a9,1,1⟩ ba λbb bc=>bT t λbd=>aR bd 8 (.slice bb.a bb.len bb.cap) bc λbe=>bL (a1+1) λbf=>a0 bf be) (h t 0 a2))) λbg=>eN s λbh=>aS bh i 0 λbi=>aS bh i 1 λbj=>
 aS bh i 2 λbk=>aS bh i 3 λbl=>aS bh i 4 λbm=>(Wi.c a s λbn bo=>And (bh bo) <| Nw (.map #[] 0) bo λbp bq=>And (bh bq) <| aV #[.slice bn.a bn.len bn.cap,.I bi,.I bj,.I bk,.I bl,.I bm,.pointer none,.slice none 0 0,.slice none 0 0,.map (some bp.block)] 81 bq λbr bs=>And (bh bs) <| bg (some br) bs) ∧ (Nw (.map #[] 0) s λbt bu=>And (bh bu) <| Wi.c a bu λbv bw=>And (bh bw) <| aV #[.slice bv.a bv.len bv.cap,.I bi,.I bj,.I bk,.I bl,.I bm,.pointer none,.slice none 0 0,.slice none 0 0,.map (some bt.block)] 81 bw λbx bz=>And (bh bz) <| bg (some bx) bz)))
theorem Q9.o {a b c d e f g h}(i:Q9.v a b c d e f g h):Q9.c a b c d e f g h:=Wa Tryz.func101 (x:=Q9.h) (R0 i)
def XS.h:Hn:=.q .o1 (.q (.cS (.seq [.op,.op,.op,.cO true 7 (RI.ops 7),.op])) .l)
def XS.v (a:R2)(b:Int)(c:Hp)(d:aO):Prop:=bR (λe f=>d e f) λg=>If (b≥0) (bE a 8 c λi=>g (decide (b<((i.len:Nat):Int))) c) (g false c)
theorem XS.o {a b c d}(e:XS.v a b c d):XS.c a b c d:=Wa Tryz.func102 (x:=XS.h) (R0 e)
def X7.h:Hn:=.q .o2 (.q (.q .o2 (.k (.q .o2 (.c (.q (.q (.cS (.seq [.op,.op,.op,.op,.cO false 3 (RI.ops 3)])) .aK) (.q (.cS (.held true [8] (.tk [0,1,2,3,4,5,6,7] (.all [(8,.tk [9,10,11,12,13] (.done))])))) (.q .o1 (.k (.q .o2 (.c (.q .o4 .l) (.q .o2 (.c (.q .o8 .l) .l)))))))) (.q .o2 (.c (.q .o5 .l) (.q .o2 (.c (.q .o3 .l) .l)))))))) .aM)
def X7.v (a:R2)(b c d e:Int)(f:Hp)(g:Value->Hp->Prop):Prop:=aV #[.I b,.I c,.I d,.I e] 123 f λh i=>aQ h 0 i λj=>If (j==0) (aQ h 1 i λk=>bR (λl m=>If l (g (.nilIface) m) (eN m λn=>bT a λo=>aT n o 0 λp=>aS n h 1 λq=>aS n h 2 λr=>ZW.c p q r m λs t u=>If (t==0) (g (.iface 218 (.agg #[.I s])) u) (If (t==4) (aQ h 1 u λv=>bL (v+256) λw=>bL (w-1) λx=>Nz 256<|bL (x.tdiv 256) λy=>g (.iface 220 (.agg #[.I y])) u) (g (.nilIface) u)))) λz=>If (k<1) (z true i) (aQ h 1 i λaa=>z (decide (aa>16384)) i)) (If (j==1) (aQ h 3 i λab=>g (.iface 222 (.agg #[.I ab])) i) (If (j==2) (g (.iface 224 (.agg #[])) i) (g (.nilIface) i)))
theorem X7.o {a b c d e f g}(h:X7.v a b c d e f g):X7.c a b c d e f g:=Wa Tryz.func103 (x:=X7.h) (R0 h)
def Zc.h:Hn:=.q .o2 (.q .o7 (.q (.cS (.held true [] (.tk [0,1,2,3,4,5] (.all [(6,.take 7 (.all [(8,.take 9 (.done))]))])))) (.jT [] (.q .o1 (.k (.q .o3 (.c (.q .o2 (.q (.q (.cS (.held true [6] (.tk [0,1,2,3,4,5] (.all [(6,.tk [7,8,9,10,11] (.done))])))) (.q .o2 (.c (.q (.cS (.held true [17] (.tk [0,1,2,3,4,5,6,7,8,9,10,11,12] (.all [(13,.tk [14,15,16] (.all [(17,.done)]))])))) .l) .l))) (.q (.cS (.held true [6] (.tk [0,1,2,3,4,5] (.all [(6,.tk [7,8,9,10,11] (.done))])))) (.q .o8 .l)))) (.q .o3 (.c (.q .o2 (.jT [] (.q (.oq 12) (.c (.q .o9 (.q .o2 (.c (.q .o6 (.q .o5 .l)) .l))) .l)) (.q .o5 .l))) (.q .o3 (.c (.q .o2 (.q (.q (.o 11) (.q .o3 (.c (.q .o6 (.q .o5 .l)) .l))) (.q .o5 .l))) (.q .o3 (.c (.q .o2 (.q (.q .o5 (.q .o2 (.c (.q .o4 .l) .l))) (.q .o5 .l))) (.q .o3 (.c (.q .o2 (.q .o8 (.q .o4 (.q (.cS (.tail 9 (RI.ops 9) [.op])) (.q (.cS (.held true [20] (.tk [0,1,2,3,4,5,6,7,8,9,10,11,12,13,14,15] (.all [(16,.tk [17,18,19] (.all [(20,.done)]))])))) .l))))) (.q .o3 (.c (.q .o2 (.q .o9 (.q (.q .o2 (.c (.q .o4 .l) .l)) (.q (.o 11) .l)))) (.q .o3 (.c (.q .o2 (.q .o9 .l)) (.q .o3 (.c (.q .o2 (.jT [] (.q (.cS (.held true [8] (.tk [0,1,2,3,4,5,6,7] (.all [(8,.tk [9,10,11,12,13] (.done))])))) (.q .o3 (.c .o6 .l))) (.q .o9 (.jT [] (.q .o5 (.c (.cS (.held true [13] (.tk [0,1,2,3,4,5,6,7,8] (.all [(9,.all [(10,.take 11 (.take 12 (.all [(13,.done)])))])])))) .l)) (.q .o6 .l))))) (.q .o3 (.c (.q .o2 (.q .o8 (.q .gG (.q (.cS (.held true [5] (.take 0 (.take 1 (.take 2 (.take 4 (.all [(3,.all [(5,.done)])]))))))) (.q .o6 .l))))) (.q .o3 (.c (.q .o2 (.cS (.tail 10 (RI.ops 10) [.op]))) (.q .o3 (.c (.q .o2 (.q .o9 (.q .o6 .l))) .l)))))))))))))))))))))))) (.q .o3 .l))))
def Zc.v (a:R2)(b:Int)(c:Value)(d:Hp)(e:Value->Int->Int->Hp->Prop):Prop:=aV #[.I 0,.I 0] 125 d λf g=>bE a 8 g λi=>Ix i.a i.len b 3 λj=>eN g λk=>bT a λl=>aT k l 7 λm=>Zi.c a b g λn o=>And (k o) <| Ix m.a m.len n 1 λp=>fQ p o λq=>And (k o) <| Jn [] (λr=>aR f 0 (.I 0) r λs=>aR f 1 (.I 0) s λt=>aQ f 0 t λu=>aQ f 1 t λv=>e (.nilIface) u v t) λw=>∃t52:Int,∃is:Bool,jL c 218 [.I t52] [.I 0] is ∧ (If is (aV #[.I 0] 218 o λx y=>eP x (.I t52) y λz=>eN z λaa=>bT (some j) λab=>aU aa ab 0 λac=>aS aa x 0 λad=>XW.c ac ad z λae af ag=>If (af==0) (eN ag λah=>bT a λai=>aT ah ai 0 λaj=>aS ah x 0 λak=>Ix aj.a aj.len ak 3 λal=>aS ah al 0 λam=>aS ah x 0 λan=>Yr.c a ae am an ag λao ap aq ar=>And (ah ar) <| aR f 0 (.I ap) ar λau=>aR f 1 (.I aq) au λav=>aQ f 0 av λaw=>aQ f 1 av λax=>e (ao) aw ax av) (eN ag λay=>bT (some j) λaz=>aU ay az 0 λa0=>aS ay x 0 λa1=>XM.c a0 a1 ag λa2 a3 a4=>aQ x 0 a4 λa5=>aR f 0 (.I 0) a4 λa6=>aR f 1 (.I 0) a6 λa7=>aQ f 0 a7 λa8=>aQ f 1 a7 λa9=>e (.iface 228 (.agg #[.I a5,.I a2])) a8 a9 a7)) (∃t99:Int,∃t991:Int,∃is1:Bool,jL c 228 [.I t99,.I t991] [.I 0,.I 0] is1 ∧
 (If is1 (aV #[.I 0,.I 0] 228 o λba bb=>aR ba 0 (.I t99) bb λbc=>aR ba 1 (.I t991) bc λbd=>Jn [] (λbe=>aQ ba 0 be λbf=>aQ ba 1 be λbg=>aR f 0 (.I 0) be λbh=>aR f 1 (.I 0) bh λbi=>aQ f 0 bi λbj=>aQ f 1 bi λbk=>e (.iface 231 (.agg #[.I bf,.I bg])) bj bk bi) λbl=>aQ ba 1 bd λbm=>bE a 0 bd λbo=>aQ ba 0 bd λbp=>Ix bo.a bo.len bp 3 λbq=>aQ bq 2 bd λbr=>If (bm==br) (aQ ba 0 bd λbs=>Wz.c q bs bd λbt bu bv=>If (bu==0) (aQ ba 0 bv λbw=>X2.c a b bw bt bv λbx=>aR f 0 (.I 0) bx λbz=>aR f 1 (.I 0) bz λb0=>aQ f 0 b0 λb1=>aQ f 1 b0 λb2=>e (.iface 230 (.agg #[])) b1 b2 b0) (bl bv)) (bl bd)) (∃t135:Int,∃t1351:Int,∃is2:Bool,jL c 231 [.I t135,.I t1351] [.I 0,.I 0] is2 ∧ (If is2 (aV #[.I 0,.I 0] 231 o λb3 b4=>aR b3 0 (.I t135) b4 λb5=>aR b3 1 (.I t1351) b5 λb6=>aQ b3 0 b6 λb7=>aQ b3 1 b6 λb8=>WB.c q b7 b8 b6 λb9 ca cb=>If (((b9.len:Nat):Int)>0) (aQ b3 0 cb λcc=>X2.c a b cc b9 cb λcd=>aR f 0 (.I 0) cd λce=>aR f 1 (.I 0) ce λcf=>aQ f 0 cf λcg=>aQ f 1 cf λch=>e (.iface 230 (.agg #[])) cg ch cf) (aQ b3 0 cb λci=>aQ b3 1 cb λcj=>aR f 0 (.I 0) cb λck=>aR f 1 (.I 0) ck λcl=>aQ f 0 cl λcm=>aQ f 1 cl λcn=>
 e (.iface 233 (.agg #[.I ci,.I cj])) cm cn cl)) (∃t162:Int,∃t1621:Int,∃is3:Bool,jL c 233 [.I t162,.I t1621] [.I 0,.I 0] is3 ∧ (If is3 (aV #[.I 0,.I 0] 233 o λco cp=>aR co 0 (.I t162) cp λcq=>aR co 1 (.I t1621) cq λcr=>aQ co 0 cr λcs=>XL.c q cs cr λct cu=>If (ct != 0) (aR f 0 (.I 0) cu λcv=>aR f 1 (.I ct) cv λcw=>aQ f 0 cw λcx=>aQ f 1 cw λcy=>e (.nilIface) cx cy cw) (aQ co 0 cu λcz=>aQ co 1 cu λc0=>aR f 0 (.I 0) cu λc1=>aR f 1 (.I 0) c1 λc2=>aQ f 0 c2 λc3=>aQ f 1 c2 λc4=>e (.iface 231 (.agg #[.I cz,.I c0])) c3 c4 c2)) (∃is4:Bool,jL c 230 [] [] is4 ∧ (If is4 (aV #[] 230 o λc5 c6=>bE (some j) 1 c6 λc8=>Ix c8.a c8.len 0 2 λc9=>aQ c9 0 c6 λda=>aX c9 1 c6 λdb=>aV #[.I 0,.slice none 0 0] 135 c6 λdc dd=>aR dc 0 (.I da) dd λde=>aR dc 1 (.slice db.a db.len db.cap) de λdf=>bT (some j) λdg=>aR dg 1 (.slice none 0 0) df λdh=>bF (some j) 0 dh λdj=>aQ dc 0 dh λdk=>aX dc 1 dh λdl=>eY dl 1 1 (dl.len:Nat) (dl.cap:Nat) λdm=>XO.c dj dk dm dh λdn dp=>eN dp λdq=>aT dq dc 1 λdr=>Ix dr.a dr.len 0 1 λds=>fV dq bN ds λ(dt:Int)=>bT a λdu=>aT dq du 0 λdv=>aS dq dc 0 λdw=>Ix dv.a dv.len dw 3 λdx=>aS dq dx 0 λdy=>
 aS dq dc 0 λdz=>Yr.c a dt dy dz dp λd0 d1 d2 d3=>And (dq d3) <| aR f 0 (.I d1) d3 λd4=>aR f 1 (.I d2) d4 λd5=>aQ f 0 d5 λd6=>aQ f 1 d5 λd7=>e (d0) d6 d7 d5) (∃t217:Int,∃is5:Bool,jL c 220 [.I t217] [.I 0] is5 ∧ (If is5 (aV #[.I 0] 220 o λd8 d9=>eP d8 (.I t217) d9 λea=>aQ d8 0 ea λeb=>WJ.c q eb 1 ea λec ed ee=>If (ed != 0) (aR f 0 (.I 0) ee λef=>aR f 1 (.I ed) ef λeg=>aQ f 0 eg λeh=>aQ f 1 eg λei=>e (.nilIface) eh ei eg) (bL (ec*256) λej=>aQ d8 0 ee λek=>bL (ek*256) λel=>Yr.c a ej el (-1) ee λem en eo ep=>aR f 0 (.I en) ep λeq=>aR f 1 (.I eo) eq λer=>aQ f 0 er λes=>aQ f 1 er λet=>e (em) es et er)) (∃t240:Int,∃is6:Bool,jL c 222 [.I t240] [.I 0] is6 ∧ (If is6 (aV #[.I 0] 222 o λeu ev=>eP eu (.I t240) ev λew=>aQ eu 0 ew λex=>Ze.c a b ex ew λey ez e0 e1=>aR f 0 (.I ez) e1 λe2=>aR f 1 (.I e0) e2 λe3=>aQ f 0 e3 λe4=>aQ f 1 e3 λe5=>e (ey) e4 e5 e3) (∃t250:Int,∃t2501:Int,∃is7:Bool,jL c 238 [.I t250,.I t2501] [.I 0,.I 0] is7 ∧ (If is7 (aV #[.I 0,.I 0] 238 o λe6 e7=>aR e6 0 (.I t250) e7 λe8=>aR e6 1 (.I t2501) e8 λe9=>Jn [] (λfa=>bE (some j) 1 fa λfc=>eY fc 2 1 (fc.len:Nat) (fc.cap:Nat) λfd=>bT (some j) λfe=>aR fe 1 (.slice fd.a fd.len fd.cap) fa λff=>Jn [] (λfg=>
 WR.c a b fg λfh fi=>aR f 0 (.I 0) fi λfj=>aR f 1 (.I 0) fj λfk=>aQ f 0 fk λfl=>aQ f 1 fk λfm=>e (fh) fl fm fk) λfn=>bF (some j) 0 ff λfp=>XQ.c fp ff λfq fr=>If fq (eN fr λfs=>bT (some j) λft=>aT fs ft 1 λfu=>bT (some j) λfv=>aU fs fv 0 λfw=>WV.c fw fr λfx fy=>And (fs fy) <| App fu 2 32 135 [.I 0,.slice none 0 0] fx fy λfz f0=>And (fs f0) <| bT (some j) λf1=>aR f1 1 (.slice fz.a fz.len fz.cap) f0 λf2=>fn f2) (fn fr)) λf3=>eN e9 λf4=>bT (some j) λf5=>aU f4 f5 0 λf6=>aS f4 e6 0 λf7=>aS f4 e6 1 λf8=>Yo.c f6 f7 f8 e9 λf9 ga gb=>If (((f9.len:Nat):Int)>0) (aQ e6 0 gb λgc=>X2.c a b gc f9 gb λgd=>f3 gd) (f3 gb)) (∃is8:Bool,jL c 241 [] [] is8 ∧ (If is8 (aV #[] 241 o λge gf=>bE (some j) 1 gf λgh=>Ix gh.a gh.len 0 2 λgi=>aQ gi 0 gf λgj=>aX gi 1 gf λgk=>aV #[.I 0,.slice none 0 0] 135 gf λgl gm=>aR gl 0 (.I gj) gm λgn=>aR gl 1 (.slice gk.a gk.len gk.cap) gn λgo=>bE (some j) 1 go λgq=>eY gq 2 1 (gq.len:Nat) (gq.cap:Nat) λgr=>Wp.c gr go λgs gt=>bT (some j) λgu=>aR gu 1 (.slice gs.a gs.len gs.cap) gt λgv=>eN gv λgw=>aS gw gl 0 λgx=>aT gw gl 1 λgy=>Zi.c a b gv λgz g0=>And (gw g0) <| Zf.c a gz gx gy g0 λg1=>
 WR.c a b g1 λg2 g3=>aR f 0 (.I 0) g3 λg4=>aR f 1 (.I 0) g4 λg5=>aQ f 0 g5 λg6=>aQ f 1 g5 λg7=>e (g2) g6 g7 g5) (∃t332:Int,∃t3321:Int,∃is9:Bool,jL c 245 [.I t332,.I t3321] [.I 0,.I 0] is9 ∧ (If is9 (aV #[.I 0,.I 0] 245 o λg8 g9=>aR g8 0 (.I t332) g9 λha=>aR g8 1 (.I t3321) ha λhb=>bE a 7 hb λhd=>aQ g8 1 hb λhe=>Ix hd.a hd.len he 1 λhf=>fQ hf hb λhg=>aQ g8 0 hb λhh=>WG.c hg hh hb λhi hj=>w hj) (∃is10:Bool,jL c 224 [] [] is10 ∧ (If is10 (aV #[] 224 o λhk hl=>bF (some j) 0 hl λhn=>Xz.c hn hl λho hp=>bT (some j) λhq=>aR hq 1 (.slice ho.a ho.len ho.cap) hp λhr=>WR.c a b hr λhs ht=>aR f 0 (.I 0) ht λhu=>aR f 1 (.I 0) hu λhv=>aQ f 0 hv λhw=>aQ f 1 hv λhx=>e (hs) hw hx hv) (w o))))))))))))))))))))))
theorem Zc.o {a b c d e}(f:Zc.v a b c d e):Zc.c a b c d e:=Wa Tryz.func104 (x:=Zc.h) (R0 f)
def YQ.h:Hn:=.q .o1 (.q (.q (.cS (.seq [.op,.op,.op,.op,.cO false 4 (RI.ops 4),.op,.cO false 9 (RI.ops 9)])) .aK) (.q .gG .l))
def YQ.v (a:R2)(b:Int)(c:Hp)(d:ByteArray->Hp->Prop):Prop:=WZ.c a c λe f=>bR (λg h=>bR (λi j=>If i (d (ByteArray.mk #[]) j) (bE a 8 j λl=>Ix l.a l.len b 3 λm=>bA m 2 j λn=>iJ Tryz.prog n "freehold/heap.name" [] [.one .str] j fun t33 v3 =>d t33 v3)) λo=>If g (o true h) (bE a 8 h λq=>Ix q.a q.len b 3 λr=>bA r 2 h λs=>And (iK s) <| o (j0 s) h)) λt=>If (!e) (t true f) (XS.c a b f λu v=>t (!u) v)
theorem YQ.o {a b c d}(e:YQ.v a b c d):YQ.c a b c d:=Wa Tryz.func131 (x:=YQ.h) (R0 e)
def Qf.h:Hn:=.q .o2 (.q (.cS (.seq [.op,.op,.op,.op,.cO true 3 (RI.ops 3),.op,.cO true 4 (RI.ops 4),.op,.cO true 3 (RI.ops 3),.op,.cO true 3 (RI.ops 3),.op,.cO true 3 (RI.ops 3),.op,.cO true 3 (RI.ops 3),.op,.cO true 3 (RI.ops 3),.op,.cO true 3 (RI.ops 3),.op,.cO true 3 (RI.ops 3),.op,.cO true 3 (RI.ops 3),.op])) .l)
def Qf.v (a b c d e:Int)(f:Hp)(g:aO):Prop:=aV #[.I a,.I b,.I c,.I d,.I e] 23 f λh i=>aQ h 0 i λj=>bR (λk l=>bR (λm n=>bR (λo p=>bR (λq r=>bR (λs t=>bR (λu v=>bR (λw x=>bR (λy z=>bR (λaa ab=>bR (λac ad=>g ac ad) λae=>If aa (aQ h 4 ab λaf=>ae (decide (af<=8)) ab) (ae false ab)) λag=>If y (aQ h 4 z λah=>ag (decide (ah≥0)) z) (ag false z)) λai=>If w (aQ h 3 x λaj=>ai (decide (aj<=65536)) x) (ai false x)) λak=>If u (aQ h 3 v λal=>ak (decide (al≥0)) v) (ak false v)) λam=>If s (aQ h 2 t λan=>am (decide (an<=4)) t) (am false t)) λao=>If q (aQ h 2 r λap=>ao (decide (ap≥1)) r) (ao false r)) λaq=>If o (aQ h 1 p λar=>aq (decide (ar<=4)) p) (aq false p)) λau=>If m (aQ h 1 n λav=>au (decide (av≥1)) n) (au false n)) λaw=>If k (aQ h 0 l λax=>Nz 16 <| aw ((ax.tmod 16)==0) l) (aw false l)) λay=>If (j≥32) (aQ h 0 i λaz=>ay (decide (az<=1024)) i) (ay false i)
theorem Qf.o {a b c d e f g}(h:Qf.v a b c d e f g):Qf.c a b c d e f g:=Wa Tryz.func141 (x:=Qf.h) (R0 h)
def Zi.h:Hn:=.q .o1 (.q .o8 .l)
def Zi.v (a:R2)(b:Int)(c:Hp)(d:aN):Prop:=bE a 7 c λf=>Nz ((f.len:Nat):Int) <| d (b.tmod ((f.len:Nat):Int)) c
theorem Zi.o {a b c d}(e:Zi.v a b c d):Zi.c a b c d:=Wa Tryz.func146 (x:=Zi.h) (R0 e)
def Yr.h:Hn:=.q .o2 (.q (.cS (.held true [12] (.tk [0,1,2,3,4,5,6,7,8,9] (.all [(10,.take 11 (.all [(12,.done)]))])))) (.q .o4 .l))
def Yr.v (a:R2)(b c d:Int)(e:Hp)(f:Value->Int->Int->Hp->Prop):Prop:=aV #[.I 0,.I 0] 125 e λg h=>eN h λi=>bT a λj=>fV i .m (j.add 9) λ(k:Option Nat)=>XY.c a b h λl m=>And (i m) <| j2 .i64 (.ag 4) k b (b,c,d,l) m λn=>aR g 0 (.I b) n λo=>aR g 1 (.I 0) o λp=>aQ g 0 p λq=>aQ g 1 p λr=>f (.nilIface) q r p
theorem Yr.o {a b c d e f}(g:Yr.v a b c d e f):Yr.c a b c d e f:=Wa Tryz.func148 (x:=Yr.h) (R0 g)
def X2.h:Hn:=.cS (.held true [20] (.tk [0,1,2,3,4,5,6,7,8,9,10,11,12,13,14,15] (.all [(16,.all [(17,.take 18 (.take 19 (.all [(20,.done)])))])])))
def X2.v (a:R2)(b c:Int)(d:Sl)(e:Hp)(f:aP):Prop:=eN e λg=>bT a λh=>aT g h 8 λi=>bT a λj=>aT g j 8 λk=>Ix k.a k.len b 3 λl=>aT g l 1 λm=>aV #[.I c,.slice d.a d.len d.cap] 135 e λn o=>And (g o) <| App m 2 32 135 [.I 0,.slice none 0 0] ⟨some n,1,1⟩ o λp q=>And (g q) <| Ix i.a i.len b 3 λr=>aR r 1 (.slice p.a p.len p.cap) q λs=>f s
theorem X2.o {a b c d e f}(g:X2.v a b c d e f):X2.c a b c d e f:=Wa Tryz.func151 (x:=X2.h) (R0 g)
def Ze.h:Hn:=.q .o2 (.q (.o 12) (.q (.q .o2 (.c (.jT [] (.q .o4 (.q .o2 (.c (.q (.o 16) (.q (.cS (.seq [.op,.op,.op,.cO true 2 [.op,.op],.op,.cO true 3 (RI.ops 3)])) (.c (.q .o3 .l) .l))) .l))) (.q .o3 .l)) .l)) (.q .o6 (.q (.q .o3 (.c (.q .o9 .l) .l)) (.q .o7 (.q .o8 .l))))))
def Ze.v (a:R2)(b c:Int)(d:Hp)(e:Value->Int->Int->Hp->Prop):Prop:=aV #[.I 0,.I 0] 125 d λf g=>bI a 9 g λi=>Lk .i64 (.ag 4) i c g λj=>aV #[.I 0,.I 0,.I 0,.I 0] 112 g λk l=>aR k 0 (.I ((j.getD (0,0,0,0)).1)) l λm=>aR k 1 (.I ((j.getD (0,0,0,0)).2.1)) m λn=>aR k 2 (.I ((j.getD (0,0,0,0)).2.2.1)) n λo=>aR k 3 (.I ((j.getD (0,0,0,0)).2.2.2)) o λp=>If (!j.isSome) (Jn [] (λq=>aR f 0 (.I 0) q λr=>aR f 1 (.I 8) r λs=>aQ f 0 s λt=>aQ f 1 s λu=>e (.nilIface) t u s) λv=>XY.c a c p λw x=>If (w≥0) (bE a 7 x λz=>Ix z.a z.len w 1 λaa=>fQ aa x λab=>Yx.c ab c x λac ad ae af=>bR (λag ah=>bR (λai aj=>If ai (aR f 0 (.I 0) aj λak=>aR f 1 (.I 9) ak λal=>aQ f 0 al λam=>aQ f 1 al λan=>e (.nilIface) am an al) (v aj)) λao=>If ag (ao (ad==c) ah) (ao false ah)) λap=>If (ae==0) (ap (decide (ac≥0)) af) (ap false af)) (v x)) (bI a 9 p λar=>kY .i64 (.ag 4) ar c p λau=>aQ k 2 au λav=>If (av<0) (Nz 256<|bL (c.tdiv 256) λaw=>aQ k 3 au λax=>aR f 0 (.I 0) au λay=>aR f 1 (.I 0) ay λaz=>aQ f 0 az λa0=>aQ f 1 az λa1=>e (.iface 245 (.agg #[.I aw,.I ax])) a0 a1 az) (aQ k 2 au λa2=>aV #[.I c] 3 au λa3 a4=>X2.c a b a2 ⟨some a3,1,1⟩ a4 λa5=>aQ k 2 a5 λa6=>aR f 0 (.I 0) a5 λa7=>
 aR f 1 (.I 0) a7 λa8=>aQ f 0 a8 λa9=>aQ f 1 a8 λba=>e (.iface 238 (.agg #[.I a6,.I c])) a9 ba a8))
theorem Ze.o {a b c d e}(f:Ze.v a b c d e):Ze.c a b c d e:=Wa Tryz.func156 (x:=Ze.h) (R0 f)
def WR.h:Hn:=.q .o1 (.q (.q .gG .aK) (.q .o3 .l))
def WR.v (a:R2)(b:Int)(c:Hp)(d:Value->Hp->Prop):Prop:=bE a 8 c λf=>Ix f.a f.len b 3 λg=>aX g 1 c λh=>If (((h.len:Nat):Int)==0) (d (.nilIface) c) (d (.iface 241 (.agg #[])) c)
theorem WR.o {a b c d}(e:WR.v a b c d):WR.c a b c d:=Wa Tryz.func160 (x:=WR.h) (R0 e)
def Zf.h:Hn:=.q .o1 (.q .o7 (.q (.q .o4 (.k (.loop [(23,.I)] (.q .o1 (.q (.c .l .l) (.q (.k (.q .o3 (.q .o4 (.o 11)))) .o2)))))) (.jT [] (.q (.oq 9) (.c (.q (.cS (.held true [] (.tk [0,1,2,3,4,5,6,7,8,9,10] (.all [(11,.tk [12,13,14,15,16] (.done))])))) (.q (.cS (.seq [.op,.op,.cO true 2 [.op,.op]])) (.c .l .l))) .l)) (.q .o3 (.k (.loop [(72,.I)] (.q .o1 (.q (.c .l .l) (.q (.k (.q .o5 (.q .o3 (.c (.cS (.tail 10 (RI.ops 10) [.op])) .l)))) .o2)))))))))
def Zf.v (a:R2)(b c:Int)(d:Sl)(e:Hp)(f:aP):Prop:=aV #[.I c,.slice d.a d.len d.cap] 135 e λg h=>bT a λi=>aX i 7 h λj=>Mk ((j.len:Nat):Int) ((j.len:Nat):Int) 24 34 [.slice none 0 0] h λk l=>aX g 1 l λm=>YC [bN] (λn=>n 0 l) λo (p:Int) q=>If (p<((m.len:Nat):Int)) (Ix m.a m.len p 1 λr=>bM r q λs=>XY.c a s q λt u=>Ix k.a k.len t 1 λv=>ja v u λw=>aV #[.I s] 3 u λx y=>App w 1 8 3 [.I 0] ⟨some x,1,1⟩ y λz aa=>Ix k.a k.len t 1 λab=>eP ab (.slice z.a z.len z.cap) aa λac=>bL (p+1) λad=>o ad ac) (Jn [] (λae=>YC [bN] (λaf=>af 0 ae) λag (ah:Int) ai=>If (ah<((k.len:Nat):Int)) (Ix k.a k.len ah 1 λaj=>ja aj ai λak=>If (((ak.len:Nat):Int)>0) (bE a 7 ai λam=>Ix am.a am.len ah 1 λan=>fQ an ai λao=>aQ g 0 ai λap=>WK.c ao ap ak ai λaq ar=>bL (ah+1) λau=>ag au ar) (bL (ah+1) λav=>ag av ai)) (f ai)) λaw=>Ix k.a k.len b 1 λax=>ja ax q λay=>aX g 1 q λaz=>If (((ay.len:Nat):Int)==((az.len:Nat):Int)) (eN q λa0=>bT a λa1=>aT a0 a1 7 λa2=>Ix a2.a a2.len b 1 λa3=>fV a0 .p a3 λ(a4:R2)=>aS a0 g 0 λa5=>aT a0 g 1 λa6=>WE.c a4 a5 a6 q λa7 a8 a9=>And (a0 a9) <| bR (λba bb=>If ba (f bb) (aw bb)) λbc=>If a7 (bc (a8==0) a9) (bc false a9)) (aw q))
theorem Zf.o {a b c d e f}(g:Zf.v a b c d e f):Zf.c a b c d e f:=Wa Tryz.func162 (x:=Zf.h) (R0 g)
def XY.h:Hn:=.q .o2 (.q (.q .o2 .aK) (.q .o7 .l))
def XY.v (a:R2)(b:Int)(c:Hp)(d:aN):Prop:=aV #[.I b] 3 c λe f=>bM e f λg=>If (g<0) (d (-1) f) (bE a 7 f λi=>Wk.c i ⟨250,#[],#[.pointer (some e)]⟩ f λj k=>d j k)
theorem XY.o {a b c d}(e:XY.v a b c d):XY.c a b c d:=Wa Tryz.func205 (x:=XY.h) (R0 e)
def YH.h:Hn:=.q .o1 (.q .o5 .l)
def YH.v (a:R2)(b:Addr)(c:Hp)(d:aO):Prop:=bM b c λe=>Nz 256<|bL (e.tdiv 256) λf=>YB.c a f c λg h=>d g h
theorem YH.o {a b c d}(e:YH.v a b c d):YH.c a b c d:=Wa Tryz.func250 (x:=YH.h) (R0 e)
def ZF.h:Hn:=.q .o2 .aM
def ZF.v (a:Int)(b:Hp)(c:ByteArray->Hp->Prop):Prop:=aV #[.I a] 218 b λd e=>c (ByteArray.mk #[116,97,107,101]) e
theorem ZF.o {a b c}(d:ZF.v a b c):ZF.c a b c:=Wa Tryz.func346 (x:=ZF.h) (R0 d)
def Zu.h:Hn:=.q .o2 .aM
def Zu.v (a:Int)(b:Hp)(c:ByteArray->Hp->Prop):Prop:=aV #[.I a] 220 b λd e=>c (ByteArray.mk #[108,97,114,103,101]) e
theorem Zu.o {a b c}(d:Zu.v a b c):Zu.c a b c:=Wa Tryz.func347 (x:=Zu.h) (R0 d)
def ZC.h:Hn:=.q .o2 .aM
def ZC.v (a:Int)(b:Hp)(c:ByteArray->Hp->Prop):Prop:=aV #[.I a] 222 b λd e=>c (ByteArray.mk #[102,105,110,100]) e
theorem ZC.o {a b c}(d:ZC.v a b c):ZC.c a b c:=Wa Tryz.func348 (x:=ZC.h) (R0 d)
def Zt.h:Hn:=.q .o2 .aM
def Zt.v (a:Hp)(b:ByteArray->Hp->Prop):Prop:=aV #[] 224 a λc d=>b (ByteArray.mk #[100,114,97,105,110]) d
theorem Zt.o {a b}(c:Zt.v a b):Zt.c a b:=Wa Tryz.func349 (x:=Zt.h) (R0 c)
def YG.h:Hn:=.q .o2 .aM
def YG.v (a b:Int)(c:Hp)(d:ByteArray->Hp->Prop):Prop:=aV #[.I a,.I b] 228 c λe f=>d (ByteArray.mk #[116,114,97,110,115,102,101,114]) f
theorem YG.o {a b c d}(e:YG.v a b c d):YG.c a b c d:=Wa Tryz.func350 (x:=YG.h) (R0 e)
def ZD.h:Hn:=.q .o2 .aM
def ZD.v (a:Hp)(b:ByteArray->Hp->Prop):Prop:=aV #[] 230 a λc d=>b (ByteArray.mk #[102,105,108,108]) d
theorem ZD.o {a b}(c:ZD.v a b):ZD.c a b:=Wa Tryz.func351 (x:=ZD.h) (R0 c)
def Y5.h:Hn:=.q .o2 .aM
def Y5.v (a b:Int)(c:Hp)(d:ByteArray->Hp->Prop):Prop:=aV #[.I a,.I b] 231 c λe f=>d (ByteArray.mk #[99,101,110,116,114,97,108]) f
theorem Y5.o {a b c d}(e:Y5.v a b c d):Y5.c a b c d:=Wa Tryz.func352 (x:=Y5.h) (R0 e)
def ZB.h:Hn:=.q .o2 .aM
def ZB.v (a b:Int)(c:Hp)(d:ByteArray->Hp->Prop):Prop:=aV #[.I a,.I b] 233 c λe f=>d (ByteArray.mk #[103,114,111,119]) f
theorem ZB.o {a b c d}(e:ZB.v a b c d):ZB.c a b c d:=Wa Tryz.func353 (x:=ZB.h) (R0 e)
def ZR.h:Hn:=.q .o2 .aM
def ZR.v (a b:Int)(c:Hp)(d:ByteArray->Hp->Prop):Prop:=aV #[.I a,.I b] 238 c λe f=>d (ByteArray.mk #[112,117,116]) f
theorem ZR.o {a b c d}(e:ZR.v a b c d):ZR.c a b c d:=Wa Tryz.func354 (x:=ZR.h) (R0 e)
def ZH.h:Hn:=.q .o2 .aM
def ZH.v (a:Hp)(b:ByteArray->Hp->Prop):Prop:=aV #[] 241 a λc d=>b (ByteArray.mk #[98,97,99,107]) d
theorem ZH.o {a b}(c:ZH.v a b):ZH.c a b:=Wa Tryz.func355 (x:=ZH.h) (R0 c)
def ZE.h:Hn:=.q .o2 .aM
def ZE.v (a b:Int)(c:Hp)(d:ByteArray->Hp->Prop):Prop:=aV #[.I a,.I b] 245 c λe f=>d (ByteArray.mk #[103,105,118,101]) f
theorem ZE.o {a b c d}(e:ZE.v a b c d):ZE.c a b c d:=Wa Tryz.func356 (x:=ZE.h) (R0 e)
end Go.Proofs
namespace Go.Ar
open Go Go.Vc Go.Proofs
def l6:Option Ph->Value
 | none=>.nilIface
 | some (.take k)=>.iface 218 (.agg #[.int .i64 (k:Int)])
 | some (.cH k w)=>.iface 228 (.agg #[.int .i64 (k:Int),.int .i64 (w:Int)])
 | some (.cI k w)=>.iface 231 (.agg #[.int .i64 (k:Int),.int .i64 (w:Int)])
 | some (.grow k w)=>.iface 233 (.agg #[.int .i64 (k:Int),.int .i64 (w:Int)])
 | some .fill=>.iface 230 (.agg #[])
 | some (.eB m)=>.iface 220 (.agg #[.int .i64 (m:Int)])
 | some (.find x)=>.iface 222 (.agg #[.int .i64 x])
 | some (.put k x)=>.iface 238 (.agg #[.int .i64 (k:Int),.int .i64 x])
 | some .back=>.iface 241 (.agg #[])
 | some (.dA s a)=>.iface 245 (.agg #[.int .i64 s,.int .i64 a])
 | some .drain=>.iface 224 (.agg #[])
theorem sH (p:Option Ph):iK (l6 p):=by
 cases p with
 | none=>exact .inl rfl
 | some p=>cases p<;>exact .inr ⟨_,_,rfl⟩
theorem G5 (p:Option Ph):j0 (l6 p)=p.isNone:=by
 cases p with
 | none=>rfl
 | some p=>cases p<;>rfl
inductive j8 where
 | hd|dB|sp|fI|cN|live
 | ar (k:Nat)
 | ca (k:Nat)
 | hn (k:Nat)
 deriving DecidableEq
structure eC where
 c:gp
 h:Sl
structure dP where
 p:Nat
 hs:Nat
 lm:Nat
 dB:Sl
 fI:Sl
 cN:Sl
 ys:List Lay
 ts:List eC
def wS (L:dP)(c:Cf):List Value:=[.slice L.dB.a L.dB.len L.dB.cap,.int .i64 (c.aF:Int),.int .i64 (c.gL:Int),.int .i64 (c.threads:Int),.int .i64 (c.cZ:Int),.int .i64 (c.room:Int),
 .pointer (some ⟨L.hs,0,none⟩),.slice L.fI.a L.fI.len L.fI.cap,.slice L.cN.a L.cN.len L.cN.cap,.map (some L.lm)]
def jg (x:eC×Th):List Value:=[.pointer (some ⟨x.1.c.p,0,none⟩),.slice x.1.h.a x.1.h.len x.1.h.cap,l6 x.2.ph]
def gF (ts:List eC)(bQ:List Th):List Value:=(ts.zip bQ).flatMap jg
theorem U2:∀{ts:List eC} {bQ:List Th},ts.length=bQ.length->(gF ts bQ).length=bQ.length*3
 | [],[],_=>rfl
 | x::ts,h::bQ,e=>by
  have e1:gF (x::ts) (h::bQ)=jg (x,h)++gF ts bQ:=rfl;have a:(jg (x,h)).length=3:=rfl;rw[e1,zQ,U2 (by simpa using e),a,zW];omega
 | [],_::_,e=>by simp at e
 | _::_,[],e=>by simp at e
theorem Ax:∀{ts:List eC} {bQ:List Th} {i:Nat} {x:eC} {h:Th},ts[i]?=some x->bQ[i]?=some h->∀{d:Nat},d<3->(gF ts bQ)[3*i+d]?=(jg (x,h))[d]?
 | [],_,_,_,_,h1,_,_,_=>by simp at h1
 | _::_,[],_,_,_,_,h2,_,_=>by simp at h2
 | y::ts,g::bQ,0,x,h,h1,h2,d,hd=>by
  have e1:gF (y::ts) (g::bQ)=jg (y,g)++gF ts bQ:=rfl;have a:(jg (y,g)).length=3:=rfl;simp at h1 h2;subst h1;subst h2;rw[e1,zg O];congr 1;omega
 | y::ts,g::bQ,i+1,x,h,h1,h2,d,hd=>by
  have e1:gF (y::ts) (g::bQ)=jg (y,g)++gF ts bQ:=rfl;have a:(jg (y,g)).length=3:=rfl;rw[e1,zn O,a,show 3*(i+1)+d-3=3*i+d by omega];exact Ax (by simpa using h1) (by simpa using h2) hd
theorem wa:∀{ts:List eC} {bQ:List Th} {i:Nat} {x:eC} {h:Th},ts[i]?=some x->bQ[i]?=some h->∀{d:Nat} {v:Value} {x':eC} {h':Th},d<3->jg (x',h')=(jg (x,h)).set d v →
 (gF ts bQ).set (3*i+d) v=gF (ts.set i x') (bQ.set i h')
 | [],_,_,_,_,h1,_,_,_,_,_,_,_=>by simp at h1
 | _::_,[],_,_,_,_,h2,_,_,_,_,_,_=>by simp at h2
 | y::ts,g::bQ,0,x,h,h1,h2,d,v,x',h',hd,e=>by
  have e1:gF (y::ts) (g::bQ)=jg (y,g)++gF ts bQ:=rfl;have e2:gF ((y::ts).set 0 x') ((g::bQ).set 0 h')=jg (x',h')++gF ts bQ:=rfl;have a:(jg (y,g)).length=3:=rfl;simp at h1 h2;subst h1;subst h2;rw[e1,e2,List.set_append_left _ _ O,e,show 3*0+d=d by omega]
 | y::ts,g::bQ,i+1,x,h,h1,h2,d,v,x',h',hd,e=>by
  have e1:gF (y::ts) (g::bQ)=jg (y,g)++gF ts bQ:=rfl;have e2:gF ((y::ts).set (i+1) x') ((g::bQ).set (i+1) h')=jg (y,g)++gF (ts.set i x') (bQ.set i h'):=rfl;have a:(jg (y,g)).length=3:=rfl;rw[e1,e2,List.set_append_right _ _ O,a,show 3*(i+1)+d-3=3*i+d by omega];rw[wa (by simpa using h1) (by simpa using h2) hd e]
def nf (y:Option Lay)(a:Option AR):Hp->Rg->Prop:=λU F=>match y,a with
 | some Y,some A=>dE U F Y A (cJ A Y)
 | _,_=>True
def pS (x:Option eC)(h:Option Th)(tb:List bZ)(bud:Nat):Hp->Rg->Prop:=λU F=>match x,h with
 | some x,some h=>dX U F x.c tb bud h.ls
 | _,_=>True
def oC (x:Option eC)(h:Option Th):Hp->Rg->Prop:=λU F=>match x,h with
 | some x,some h=>gY x.h h.bP U F
 | _,_=>True
def CH (H:Hw)(L:dP):j8->Hp->Rg->Prop
 | .hd=>ib L.p (wS L H.cf)
 | .dB=>cT L.dB 3 (fT H.tb)
 | .sp=>λU F=>dJ U F L.hs H.sp
 | .fI=>cT L.fI 1 (fC (L.ys.map (·.p)))
 | .cN=>bW L.cN 3 (gF L.ts H.bQ)
 | .live=>jk L.lm .i64 (.ag 4) H.live
 | .ar k=>nf L.ys[k]? H.bV[k]?
 | .ca t=>pS L.ts[t]? H.bQ[t]? H.tb H.cf.cZ
 | .hn t=>oC L.ts[t]? H.bQ[t]?
theorem nf.loc (y:Option Lay)(a:Option AR):dK (nf y a):=by
 intro U σ' F G h hz hs;unfold nf at *;split at h
 ·exact dE.loc _ _ _ _ h hz hs
 ·trivial
theorem pS.loc (x:Option eC)(h:Option Th)(tb:List bZ)(bud:Nat):dK (pS x h tb bud):=by
 intro U σ' F G h hz hs;unfold pS at *;split at h
 ·exact dX.loc _ _ _ _ h hz hs
 ·trivial
theorem oC.loc (x:Option eC)(h:Option Th):dK (oC x h):=by
 intro U σ' F G h hz hs;unfold oC at *;split at h
 ·exact gY.loc _ _ _ _ _ _ h hz hs
 ·trivial
theorem CH.loc {H:Hw}{L:dP}:∀i,dK (CH H L i)
 | .hd=>ib.loc _ _
 | .dB=>cT.loc _ _ _
 | .sp=>dJ.loc
 | .fI=>cT.loc _ _ _
 | .cN=>bW.loc _ _ _
 | .live=>jk.loc _ _ _ _
 | .ar k=>nf.loc _ _
 | .ca t=>pS.loc _ _ _ _
 | .hn t=>oC.loc _ _
structure HS (L:dP) (H:Hw):Prop where
 ys:L.ys.length=H.bV.length
 hs:∀Y∈L.ys,Y.hs=L.hs
 ts:L.ts.length=H.bQ.length
 a1:1<=H.bV.length
 a2:H.bV.length<=4
 t1:1<=H.bQ.length
 t2:H.bQ.length<=4
 tb:∀A∈H.bV,A.tb=H.tb
structure HH (U:Hp) (F:Rg) (L:dP) (H:Hw):Prop where
 s:HS L H
 sep:Sep (CH H L) U F
 g:Gl U
 gd:Gd U
 o:iC F
 o2:¬F 1
variable {U:Hp}{F:Rg}{L:dP}{H:Hw}{t k:Nat}
theorem HH.bO (h:HH U F L H){σ':Hp}(e:bK U σ'):HH σ' F L H:=⟨h.s,(Sep.loc CH.loc).bO h.sep e,h.g.bO e,h.gd.bO e,h.o,h.o2⟩
theorem HH.bS (h:HH U F L H){σ':Hp}{T:Rg}(e:Ext T U σ')(hT:∀b,b<U.size->F b->¬T b)(hg:iC T)(hg2:¬T 1):HH σ' F L H:=⟨h.s,(Sep.loc CH.loc).bS h.sep e hT,h.g.bS e hg,h.gd.bS e hg2,h.o,h.o2⟩
theorem yU {U:Hp}(g:Gd U):1<U.size:=g.lt
theorem HH.mono (h:HH U F L H){G:Rg}(hs:∀b,b<U.size->F b->G b)(o:iC G)(o2:¬G 1):HH U G L H:=⟨h.s,(Sep.loc CH.loc).mono h.sep hs,h.g,h.gd,o,o2⟩
theorem HH.oG (h:HH U F L H):iC (Grow F U):=h.o.grow h.g
theorem HH.pK (h:HH U F L H):¬Grow F U 1:=λa=>by
 rcases a with a|a
 ·exact h.o2 a
 ·have:=yU h.gd;omega
theorem HH.sub (h:HH U F L H){G:Rg}(hs:∀b,b<U.size->F b->G b)(hg:∀b,G b->F b\/U.size<=b):HH U G L H:=
 h.mono hs (h.oG.sub hg) λa=>h.pK (hg _ a)
theorem HH.tD {v v':Hp}{G T:Rg}{L0:dP}{H0:Hw}(h0:HH U F L0 H0)(h:HH v G L H)(e:Ext T v v')(hT:∀b,T b->U.size<=b)(hG:∀b,b<v.size->G b->¬T b):HH v' G L H:=
 h.bS e hG (h0.oG.sub λb a=>.inr (hT b a)) λa=>h0.pK (.inr (hT _ a))
theorem HH.grown {σ':Hp}{R:Rg}{L':dP}{H':Hw}(h:HH U F L H)(h':HH σ' R L' H')(hr:∀b,b<σ'.size->R b->Grow F U b):HH σ' (Grow F U) L' H':=h'.mono hr h.oG h.pK
theorem HH.cut (h:HH U F L H):HH U (Cut F U) L H:=h.sub (λb a d=>⟨d,a⟩) λb a=>.inl a.1
theorem HH.kQ (h:HH U F L H)(i:j8):∃G:Rg,(∀b,G b->F b)/\CH H L i U G/\(∀j,j≠i->∃D:Rg,(∀b,D b->F b)/\(∀b,D b->¬G b)/\CH H L j U D) ∧
 ∀(σ':Hp) (H':Hw) (L':dP) (G':Rg),HS L' H'->(∀j,j≠i->CH H' L' j=CH H L j)->Ext G U σ'->(∀b,G' b->Grow G U b)->CH H' L' i σ' G' →
  Ext F U σ'/\HH σ' (λb=>F b/\b<U.size/\¬G b\/G' b) L' H':=by
 obtain⟨G,p,x,hd,d⟩:=h.sep.jA CH.loc i;refine⟨G,p,x,hd,λσ' H' L' G' u y e s w=>?_⟩;have r:=e.sub p;have m:∀b,(F b/\b<U.size/\¬G b\/G' b)->Grow F U b:=λb a=>by
  rcases a with a|a
  ·exact .inl a.1
  ·exact(s b a).imp (p b) id
 refine⟨r,u,d σ' (CH H' L') G' y e s w (CH.loc _),h.g.bS r h.o,h.gd.bS r h.o2,λb a=>(h.o.grow h.g) b (m b a),λa=>?_⟩;rcases m _ a with h1|h1
 ·exact h.o2 h1
 ·have:=yU h.gd;omega
theorem _root_.Go.Vc.Sep.qH {L:Type}{C:L->Hp->Rg->Prop}{U:Hp}{F:Rg}(hC:∀i,dK (C i))(h:Sep C U F)(i j:L)(hij:i≠j)(N:Rg)(hN:∀b,b<U.size->F b->¬N b):∃G D:Rg,(∀b,G b->F b)/\(∀b,D b->F b)/\(∀b,G b->¬D b)/\C i U G/\C j U D/\(∀m,m≠i->m≠j->∃E:Rg,(∀b,E b->F b)/\(∀b,E b->¬(G b\/D b))/\C m U E) ∧
 ∀(σ':Hp) (C':L->Hp->Rg->Prop) (G' D':Rg),(∀k,k≠i->k≠j->C' k=C k)->Ext (λb=>G b\/D b) U σ'->(∀b,G' b->(G b\/D b)\/N b)->(∀b,D' b->(G b\/D b)\/N b)->(∀b,G' b->¬D' b)->C' i σ' G'->C' j σ' D'->(∀k,dK (C' k)) →
 Sep C' σ' λb=>F b/\b<U.size/\¬(G b\/D b)\/G' b\/D' b:=by
 obtain⟨ρ,h⟩:=h
 let G:Rg:=λb=>F b/\ρ b=i
 let D:Rg:=λb=>F b/\ρ b=j
 refine⟨G,D,λb a=>a.1,λb a=>a.1,λb x w=>hij (x.2.symm.trans w.2),h i,h j,λm x w=>⟨λb=>F b/\ρ b=m,λb a=>a.1,λb a d=>d.elim (λu=>x (a.2.symm.trans u.2)) λu=>w (a.2.symm.trans u.2),h m⟩,λσ' C' G' D' z e A H hd J B y=>?_⟩
 open Classical in
 refine⟨λb=>if G' b then i else if D' b then j else ρ b,λk=>?_⟩
 by_cases hki:k=i
 ·subst hki;exact(y _).mono J λb _ a=>⟨.inr (.inl a),zC a⟩
 by_cases hkj:k=j
 ·subst hkj;exact(y _).mono B λb _ a=>⟨.inr (.inr a),by show(if G' b then i else if D' b then k else ρ b)=k;rw[zB λd=>hd b d a,zC a]⟩
 ·rw[z k hki hkj];refine hC k _ _ _ _ (h k) e.1 λb a g=>?_;have s:¬(G b\/D b):=by
   rintro(d|d)
   ·exact hki (g.2.symm.trans d.2)
   ·exact hkj (g.2.symm.trans d.2)
  have r:¬G' b:=λd=>(A b d).elim s (hN b a g.1);have p:¬D' b:=λd=>(H b d).elim s (hN b a g.1);exact⟨⟨.inl ⟨g.1,a,s⟩,by show(if G' b then i else if D' b then j else ρ b)=k;rw[zB r,zB p];exact g.2⟩,e.2 b a s⟩
theorem HH.nh (h:HH U F L H)(i j:j8)(hij:i≠j)(N:Rg)(hN:∀b,b<U.size->F b->¬N b)(oN:iC N)(oN2:¬N 1):∃G D:Rg,(∀b,G b->F b)/\(∀b,D b->F b)/\(∀b,G b->¬D b)/\CH H L i U G/\CH H L j U D/\(∀m,m≠i->m≠j->∃E:Rg,(∀b,E b->F b)/\(∀b,E b->¬(G b\/D b))/\CH H L m U E) ∧
 ∀(σ':Hp) (H':Hw) (L':dP) (G' D':Rg),HS L' H'->(∀m,m≠i->m≠j->CH H' L' m=CH H L m)->Ext (λb=>G b\/D b) U σ'->(∀b,G' b->(G b\/D b)\/N b)->(∀b,D' b->(G b\/D b)\/N b)->(∀b,G' b->¬D' b)->CH H' L' i σ' G'->CH H' L' j σ' D' →
  Ext F U σ'/\HH σ' (λb=>F b/\b<U.size/\¬(G b\/D b)\/G' b\/D' b) L' H':=by
 obtain⟨G,D,u,s,hd,P,C,r,d⟩:=h.sep.qH CH.loc i j hij N hN;refine⟨G,D,u,s,hd,P,C,r,λσ' H' L' G' D' B J e z A y M K=>?_⟩;have x:Ext F U σ':=e.sub λb a=>a.elim (u b) (s b);have p:∀b,(F b/\b<U.size/\¬(G b\/D b)\/G' b\/D' b)->F b\/N b:=λb a=>by
  rcases a with a|a|a
  ·exact .inl a.1
  ·exact(z b a).imp (λw=>w.elim (u b) (s b)) id
  ·exact(A b a).imp (λw=>w.elim (u b) (s b)) id
 refine⟨x,B,d σ' (CH H' L') G' D' J e z A y M K CH.loc,h.g.bS x h.o,h.gd.bS x h.o2,λb a=>(p b a).elim (h.o b) (oN b),λa=>?_⟩;exact(p _ a).elim h.o2 oN2
theorem HH.lY (h:HH U F L H):iC (λb=>U.size<=b)/\¬(U.size<=1):=⟨h.oG.sub λb a=>.inr a,λa=>h.pK (.inr a)⟩
theorem HH.nm (h:HH U F L H)(i j:j8)(hij:i≠j):∃G D:Rg,(∀b,G b->F b)/\(∀b,D b->F b)/\(∀b,G b->¬D b)/\CH H L i U G/\CH H L j U D/\(∀m,m≠i->m≠j->∃E:Rg,(∀b,E b->F b)/\(∀b,E b->¬(G b\/D b))/\CH H L m U E) ∧
 ∀(σ':Hp) (H':Hw) (L':dP) (G' D':Rg),HS L' H'->(∀m,m≠i->m≠j->CH H' L' m=CH H L m)->Ext (λb=>G b\/D b) U σ'->(∀b,G' b->(G b\/D b)\/U.size<=b)->(∀b,D' b->(G b\/D b)\/U.size<=b)->(∀b,G' b->¬D' b)->CH H' L' i σ' G'->CH H' L' j σ' D' →
  Ext F U σ'/\HH σ' (λb=>F b/\b<U.size/\¬(G b\/D b)\/G' b\/D' b) L' H':=
 h.nh i j hij _ (λb a _=>O) h.lY.1 h.lY.2
theorem HH.hd (h:HH U F L H):bX U L.p (wS L H.cf):=by obtain⟨G,b,a⟩:=h.sep.get .hd;exact a.2
theorem HH.ji (h:HH U F L H):cT L.dB 3 (fT H.tb) U F:=by
 obtain⟨G,d,a⟩:=h.sep.get .dB;exact aH.mono a λb _ a=>d b a
theorem HH.nN (h:HH U F L H):L.dB.len=H.tb.length:=by
 have:=h.ji.1;rw[Vk]at this;omega
theorem HH.l4 (h:HH U F L H):cT L.fI 1 (fC (L.ys.map (·.p))) U F:=by
 obtain⟨G,d,a⟩:=h.sep.get .fI;exact aH.mono a λb _ a=>d b a
theorem HH.l5 (h:HH U F L H):L.fI.len=H.bV.length:=by
 have:=h.l4.1;have:=h.s.ys;simp[fC]at *;omega
theorem HH.mh (h:HH U F L H):cT L.cN 3 (gF L.ts H.bQ) U F:=by
 obtain⟨G,d,a⟩:=h.sep.get .cN;exact aH.mono (bW.ig a) λb _ a=>d b a
theorem HH.k6 (h:HH U F L H):L.cN.len=H.bQ.length:=by
 have:=h.mh.1;rw[U2 h.s.ts]at this;omega
theorem HH.mc (h:HH U F L H):dI U L.lm .i64 (.ag 4) H.live:=by obtain⟨G,b,a⟩:=h.sep.get .live;exact a.2
theorem HH.Mv (h:HH U F L H):dJ U F L.hs H.sp:=by
 obtain⟨G,d,a⟩:=h.sep.get .sp;exact dK.mono dJ.loc a λb _ a=>d b a
theorem HH.ar (h:HH U F L H){A:AR}(hk:H.bV[k]?=some A):∃Y,L.ys[k]?=some Y/\Y.hs=L.hs/\dE U F Y A (cJ A Y):=by
 have e:=(cX.1 hk).1;have d:L.ys[k]?=some (L.ys[k]'(by rw[h.s.ys];exact e)):=cW _;obtain⟨G,g,a⟩:=h.sep.get (.ar k);simp only[CH,hk,d,nf]at a;exact⟨_,d,h.s.hs _ (zG d),a.mono λb _ a=>g b a⟩
theorem HH.rA (h:HH U F L H){Y:Lay}(hy:L.ys[k]?=some Y){K:Option Addr->Prop}(hK:K (some ⟨Y.p,0,none⟩)):Ix L.fI.a L.fI.len (k:Int) 1 λa=>fQ a U K:=
 yG h.l4 (by simp[hy]) hK
theorem HH.th (h:HH U F L H)(ht:t<H.bQ.length):∃x g,L.ts[t]?=some x/\H.bQ[t]?=some g:=⟨L.ts[t]'(by rw[h.s.ts];exact ht),H.bQ[t],cW _,cW _⟩
theorem Ge {s:Sl}{ts:List eC}{bQ:List Th}(h:cT s 3 (gF ts bQ) U F){x:eC}{g:Th}(hx:ts[t]?=some x)(hg:bQ[t]?=some g){d:Nat}(hd:d<3){v:Value}(hv:(jg (x,g))[d]?=some v):∃b o,s.a=some ⟨b,o,none⟩/\cell U ⟨b,o+(3*t+d),none⟩=some v:=
 h.cell ((Ax hx hg hd).trans hv)
theorem xS {s:Sl}{ts:List eC}{bQ:List Th}(hs:cT s 3 (gF ts bQ) U F)(hl:ts.length=bQ.length){x:eC}{g:Th}(hx:ts[t]?=some x)(hg:bQ[t]?=some g){d:Nat}(hd:d<3){v:Value}(hv:(jg (x,g))[d]?=some v){K:Addr->Prop}
 (hK:∀b o,s.a=some ⟨b,o,none⟩->cell U (Addr.add ⟨b,o+3*t,none⟩ d)=some v->K ⟨b,o+3*t,none⟩):Ix s.a s.len (t:Int) 3 K:=by
 have m:=(cX.1 hg).1;have e:=hs.1;rw[U2 hl]at e;obtain⟨b,o,i,j⟩:=Ge hs hx hg hd hv;rw[i];refine ix O O ?_;rw[add_lit,show o+(t:Int).toNat*3=o+3*t by omega];exact hK b o i (by rw[add_lit,show o+3*t+d=o+(3*t+d) by omega];exact j)
theorem HH.DL (h:HH U F L H){x:eC}{g:Th}(hx:L.ts[t]?=some x)(hg:H.bQ[t]?=some g){d:Nat}(hd:d<3){v:Value}(hv:(jg (x,g))[d]?=some v){K:Addr->Prop}
 (hK:∀b o,cell U (Addr.add ⟨b,o+3*t,none⟩ d)=some v->K ⟨b,o+3*t,none⟩):Ix L.cN.a L.cN.len (t:Int) 3 K:=
 xS h.mh h.s.ts hx hg hd hv λb o _ e=>hK b o e
theorem HH.tS (h:HH U F L H){x:eC}{g:Th}(hx:L.ts[t]?=some x)(hg:H.bQ[t]?=some g){K:Sl->Prop}(hK:K x.h):Ix L.cN.a L.cN.len (t:Int) 3 λa=>ja (a.add 1) U K:=
 h.DL hx hg (d:=1) O rfl λb o e=>m4 e hK
theorem HH.tR (h:HH U F L H){x:eC}{g:Th}(hx:L.ts[t]?=some x)(hg:H.bQ[t]?=some g){K:Value->Prop}(hK:K (l6 g.ph)):Ix L.cN.a L.cN.len (t:Int) 3 λa=>vI (a.add 2) U K:=
 h.DL hx hg (d:=2) O rfl λb o e=>⟨_,e,hK⟩
theorem HS.dQ (h:HS L H){bQ:List Th}{ts:List eC}(e:ts.length=bQ.length)(e2:bQ.length=H.bQ.length):HS {L with ts:=ts} {H with bQ:=bQ}:=⟨h.ys,h.hs,e,h.a1,h.a2,by rw[e2];exact h.t1,by rw[e2];exact h.t2,h.tb⟩
theorem HS.cC (h:HS L H){A:AR}{sp:Sp}(e:A.tb=H.tb):HS L {H.cC k A with sp:=sp}:=⟨by simp[Hw.cC,h.ys],h.hs,h.ts,by simp[Hw.cC,h.a1],by simp[Hw.cC,h.a2],h.t1,h.t2,λB a=>by
 rcases vT a with h1|h1
 ·exact h.tb B h1
 ·subst h1;exact e⟩
theorem CB {A:AR}:∀j,j≠j8.ar k->CH (H.cC k A) L j=CH H L j:=by
 intro j hj;cases j<;>try rfl
 rename_i m;have a:m≠k:=λe=>hj (by rw[e]);simp only[CH,Hw.cC,ze (Ne.symm a)]
theorem BD {sp:Sp}:∀j,j≠j8.sp->CH {H with sp:=sp} L j=CH H L j:=by
 intro j hj;cases j<;>first|rfl|exact absurd rfl hj
theorem Mw {l:List (Int×Bk)}:∀j,j≠j8.live->CH {H with live:=l} L j=CH H L j:=by
 intro j hj;cases j<;>first|rfl|exact absurd rfl hj
theorem HH.u9 (h:HH U F L H){A:AR}(hk:H.bV[k]?=some A):∃(Y:Lay) (G:Rg),L.ys[k]?=some Y/\Y.hs=L.hs/\(∀b,G b->F b)/\dE U G Y A (cJ A Y)/\∀(σ':Hp) (A':AR) (G':Rg),A'.tb=A.tb->Ext G U σ'->(∀b,G' b->Grow G U b)->dE σ' G' Y A' (cJ A' Y) →
 Ext F U σ'/\HH σ' (λb=>F b/\b<U.size/\¬G b\/G' b) L (H.cC k A'):=by
 have g:=(cX.1 hk).1;have d:L.ys[k]?=some (L.ys[k]'(by rw[h.s.ys];exact g)):=cW _;generalize (L.ys[k]'(by rw[h.s.ys];exact g))=Y at d;obtain⟨G,r,j,_,a⟩:=h.kQ (.ar k);simp only[CH,hk,d,nf]at j;refine⟨Y,G,d,h.s.hs _ (zG d),r,j,λσ' A' G' i e m p=>?_⟩;refine a σ' (H.cC k A') L G' (h.s.cC (sp:=H.sp) (i.trans (h.s.tb A (zG hk)))) CB e m ?_;simp only[CH,Hw.cC,d,zJ g,nf];exact p
theorem HH.nQ (h:HH U F L H){A:AR}(hk:H.bV[k]?=some A):∃(Y:Lay) (G D:Rg),L.ys[k]?=some Y/\Y.hs=L.hs/\W2 U G D Y A (cJ A Y) H.sp/\∀(σ':Hp) (A':AR) (sp':Sp) (G' D':Rg),A'.tb=A.tb->Ext (iB G D) U σ'->Fits U G D G' D'->W2 σ' G' D' Y A' (cJ A' Y) sp' →
 Ext F U σ'/\HH σ' (Grow F U) L {H.cC k A' with sp:=sp'}:=by
 have C:=(cX.1 hk).1;have i:L.ys[k]?=some (L.ys[k]'(by rw[h.s.ys];exact C)):=cW _;generalize (L.ys[k]'(by rw[h.s.ys];exact C))=Y at i;obtain⟨G,D,J,y,hd,N,B,_,r⟩:=h.nm (.ar k) .sp (by intro e;cases e);simp only[CH,hk,i,nf]at N;have B:dJ U D L.hs H.sp:=B;have p:=h.s.hs _ (zG i);refine⟨Y,G,D,i,p,⟨N,by rw[p];exact B,hd,h.g,h.o.sub J,h.o.sub y⟩,λσ' A' sp' G' D' z e M E=>?_⟩;have u:∀b,G' b->(G b\/D b)\/U.size<=b:=λb x=>(M.1 b x).imp .inl id;have w:∀b,D' b->(G b\/D b)\/U.size<=b:=λb x=>.inl (.inr (M.2 b x));have R:∀m,m≠j8.ar k->m≠j8.sp->CH {H.cC k A' with sp:=sp'} L m=CH H L m:=λm K Q=>
  (CB (H:={H with sp:=sp'}) (L:=L) (A:=A') m K).trans (BD m Q)
 have P:CH {H.cC k A' with sp:=sp'} L (.ar k) σ' G':=by
  simp only[CH,Hw.cC,i,zJ C,nf];exact E.a
 have S:CH {H.cC k A' with sp:=sp'} L .sp σ' D':=by
  show dJ σ' D' L.hs sp';rw[←p];exact E.s
 obtain⟨e1,K⟩:=r σ' {H.cC k A' with sp:=sp'} L G' D' (h.s.cC (z.trans (h.s.tb A (zG hk)))) R e u w E.d P S;refine⟨e1,h.grown K λb x j=>?_⟩;rcases j with j|j|j
 ·exact .inl j.1
 ·exact(u b j).imp (λi=>i.elim (J b) (y b)) id
 ·exact(w b j).imp (λi=>i.elim (J b) (y b)) id
theorem HH.uw (h:HH U F L H):∃G:Rg,(∀b,G b->F b)/\dJ U G L.hs H.sp/\iC G/\∀(σ':Hp) (sp':Sp),Ext G U σ'->dJ σ' (Grow G U) L.hs sp'->Ext F U σ'/\HH σ' (Grow F U) L {H with sp:=sp'}:=by
 obtain⟨G,g,m,_,a⟩:=h.kQ .sp;refine⟨G,g,m,h.o.sub g,λσ' sp' e hs=>?_⟩;obtain⟨e1,j⟩:=a σ' {H with sp:=sp'} L (Grow G U) ⟨h.s.ys,h.s.hs,h.s.ts,h.s.a1,h.s.a2,h.s.t1,h.s.t2,h.s.tb⟩ BD e (λb i=>i) hs;exact⟨e1,h.grown j λb i d=>by
  rcases d with d|d
  ·exact .inl d.1
  ·exact d.imp (g b) id⟩
theorem HH.qk (h:HH U F L H):F L.lm/\∀(σ':Hp) (l:List (Int×Bk)),Qg U σ' L.lm->dI σ' L.lm .i64 (.ag 4) l->Ext F U σ'/\HH σ' F L {H with live:=l}:=by
 obtain⟨G,i,e,_,a⟩:=h.kQ .live;have e:jk L.lm .i64 (.ag 4) H.live U G:=e;refine⟨i _ e.1,λσ' l p j=>?_⟩;obtain⟨e1,m⟩:=a σ' {H with live:=l} L G ⟨h.s.ys,h.s.hs,h.s.ts,h.s.a1,h.s.a2,h.s.t1,h.s.t2,h.s.tb⟩ Mw (p.ext.sub λb g=>by rw[g];exact e.1) (λb g=>.inl g) ⟨e.1,j⟩;exact⟨e1,m.mono (λb _ d=>by
  rcases d with d|d
  ·exact d.1
  ·exact i b d) h.o h.o2⟩
theorem HH.ny (h:HH U F L H){x:eC}{g:Th}(hx:L.ts[t]?=some x)(hg:H.bQ[t]?=some g):∃G:Rg,(∀b,G b->F b)/\dX U G x.c H.tb H.cf.cZ g.ls/\∀(σ':Hp) (ls:List Li) (Y':gp) (G':Rg),Y'.p=x.c.p->Ext G U σ'->(∀b,G' b->Grow G U b)->dX σ' G' Y' H.tb H.cf.cZ ls →
 Ext F U σ'/\HH σ' (λb=>F b/\b<U.size/\¬G b\/G' b) {L with ts:=L.ts.set t {x with c:=Y'}} {H with bQ:=H.bQ.set t {g with ls:=ls}}:=by
 have r:=(cX.1 hx).1;have i:=(cX.1 hg).1;obtain⟨G,D,z,_,a⟩:=h.kQ (.ca t);simp only[CH,hx,hg,pS]at z;refine⟨G,D,z,λσ' ls Y' G' A e w B=>?_⟩;have y:gF (L.ts.set t {x with c:=Y'}) (H.bQ.set t {g with ls:=ls})=gF L.ts H.bQ:=by
  have C:(gF L.ts H.bQ).set (3*t+0) (.pointer (some ⟨x.c.p,0,none⟩))=gF L.ts H.bQ:=Z1 (Ax hx hg O);rw[←C];exact(wa hx hg (d:=0) O (by simp[jg,A])).symm
 refine a σ' {H with bQ:=H.bQ.set t {g with ls:=ls}} {L with ts:=L.ts.set t {x with c:=Y'}} G' (h.s.dQ (by simp[h.s.ts]) aA) (λj E=>?_) e w ?_
 ·cases j<;>try rfl
  ·simp only[CH,y]
  ·rename_i m;have u:m≠t:=λe=>E (by rw[e]);simp only[CH,ze (Ne.symm u)]
  ·rename_i m;by_cases u:m=t
   ·subst u;simp only[CH,zJ r,zJ i,hx,hg];rfl
   ·simp only[CH,ze (Ne.symm u)]
 ·simp only[CH,zJ r,zJ i,pS];exact B
theorem HH.qj (h:HH U F L H){x:eC}{g:Th}(hx:L.ts[t]?=some x)(hg:H.bQ[t]?=some g)(N:Rg)(hN:∀b,b<U.size->F b->¬N b)(oN:iC N)(oN2:¬N 1):∃G D:Rg,(∀b,G b->F b)/\(∀b,D b->F b)/\(∀b,G b->¬D b)/\gY x.h g.bP U G/\bW L.cN 3 (gF L.ts H.bQ) U D/\(∃E:Rg,(∀b,E b->¬G b)/\(∀b,E b->¬D b)/\ib L.p (wS L H.cf) U E) ∧
 ∀(σ':Hp) (s:Sl) (bs:List Bt) (G' D':Rg),Ext (λb=>G b\/D b) U σ'->(∀b,G' b->(G b\/D b)\/N b)->(∀b,D' b->(G b\/D b)\/N b)->(∀b,G' b->¬D' b)->gY s bs σ' G'->bW L.cN 3 ((gF L.ts H.bQ).set (3*t+1) (.slice s.a s.len s.cap)) σ' D' →
  Ext F U σ'/\HH σ' (λb=>F b/\b<U.size/\¬(G b\/D b)\/G' b\/D' b) {L with ts:=L.ts.set t {x with h:=s}} {H with bQ:=H.bQ.set t {g with bP:=bs}}:=by
 have u:=(cX.1 hx).1;have r:=(cX.1 hg).1;obtain⟨G,D,W,Q,hd,M,B,j,i⟩:=h.nh (.hn t) .cN (by intro e;cases e) N hN oN oN2;simp only[CH,hx,hg,oC]at M;have B:bW L.cN 3 (gF L.ts H.bQ) U D:=B;obtain⟨E,_,P,J⟩:=j .hd (by intro e;cases e) (by intro e;cases e);refine⟨G,D,W,Q,hd,M,B,⟨E,λb y hx=>P b y (.inl hx),λb y hx=>P b y (.inr hx),J⟩,λσ' s bs G' D' e z C K V S=>?_⟩;have A:gF (L.ts.set t {x with h:=s}) (H.bQ.set t {g with bP:=bs})=(gF L.ts H.bQ).set (3*t+1) (.slice s.a s.len s.cap):=(wa hx hg (d:=1) O (by simp[jg])).symm;refine i σ' {H with bQ:=H.bQ.set t {g with bP:=bs}} {L with ts:=L.ts.set t {x with h:=s}} G' D' (h.s.dQ (by simp[h.s.ts]) aA) (λm X R=>?_) e z C K ?_ ?_
 ·cases m<;>first|rfl|exact absurd rfl R|skip
  ·rename_i m;by_cases w:m=t
   ·subst w;simp only[CH,zJ u,zJ r,hx,hg];rfl
   ·simp only[CH,ze (Ne.symm w)]
  ·rename_i m;have w:m≠t:=λe=>X (by rw[e]);simp only[CH,ze (Ne.symm w)]
 ·simp only[CH,zJ u,zJ r,oC];exact V
 ·simp only[CH,A];exact S
theorem HH.qB (h:HH U F L H){x:eC}{g:Th}(hx:L.ts[t]?=some x)(hg:H.bQ[t]?=some g)(p:Option Ph){K:aP}(hK:∀σ',Ext F U σ'->HH σ' F L {H with bQ:=H.bQ.set t {g with ph:=p}}->K σ') :
 Ix L.cN.a L.cN.len (t:Int) 3 λa=>And (iK (l6 p)) (eP (a.add 2) (l6 p) U K):=by
 have B:=(cX.1 hx).1;have r:=(cX.1 hg).1;have A:=h.k6;obtain⟨G,J,y,_,i⟩:=h.kQ .cN;have y:bW L.cN 3 (gF L.ts H.bQ) U G:=y;have C:=U2 h.s.ts;obtain⟨b,w⟩:∃b,L.cN.a=some ⟨b,0,none⟩:=by
  rcases y.2 with⟨h0,_⟩|⟨b,_,_,ha,_⟩
  ·omega
  ·exact⟨b,ha⟩
 rw[w];refine ix O O ⟨sH p,?_⟩;refine y.st (j:=3*t+2) O (λN u=>by rw[w]at u;cases u;rw[add_lit,add_lit];congr 1;omega) λσ' e E=>?_;have z:gF L.ts (H.bQ.set t {g with ph:=p})=(gF L.ts H.bQ).set (3*t+2) (l6 p):=by
  have:=wa hx hg (d:=2) (v:=l6 p) (x':=x) (h':={g with ph:=p}) O (by simp[jg]);rw[this,Z1 hx]
 obtain⟨e1,M⟩:=i σ' {H with bQ:=H.bQ.set t {g with ph:=p}} L G (h.s.dQ (ts:=L.ts) (by simp[h.s.ts]) aA) (λj D=>by
  cases j<;>first|rfl|exact absurd rfl D|skip
  ·rename_i m;by_cases hm:t=m
   ·subst hm;simp only[CH,zJ r,hx,hg];rfl
   ·simp only[CH,ze hm]
  ·rename_i m;by_cases hm:t=m
   ·subst hm;simp only[CH,zJ r,hx,hg];rfl
   ·simp only[CH,ze hm]) e (λb w=>.inl w) (by simp only[CH,z];exact E)
 exact hK σ' e1 (M.mono (λb _ hx=>by
  rcases hx with hx|hx
  ·exact hx.1
  ·exact J b hx) h.o h.o2)
end Go.Ar
namespace Go.Ar
open Go Go.Vc Go.Proofs
open Go.Bu (Y4 Ql YW)
variable {U:Hp}{F H:Rg}{p hs:Nat}{A:AR}{sp:Sp}{Y:Lay}{T:Nat->Hp->Rg->Prop}
end Go.Ar
namespace Go.Ar
open Go Go.Vc Go.Proofs
variable {U:Hp}{F:Rg}{L:dP}{H:Hw}{t k:Nat}
theorem V0 (h:HH U F L H){R:aO}(hR:R true U):WZ.c (aW L.p) U R:=by
 refine WZ.o ?_;unfold WZ.v;have a:=h.k6;have b:=h.s.t1;refine bR.intro (cB rfl (aG (h.hd.rS rfl ?_)));rw[zK aC];exact hR
theorem GX (h:HH U F L H)(x:Int){R:aO}(hR:R (decide (0<=x/\x<(H.bQ.length:Int))) U):XS.c (aW L.p) x U R:=by
 refine XS.o ?_;unfold XS.v;have a:=h.k6;refine bR.intro (cR (λb=>aG (h.hd.rS rfl ?_)) λb=>?_)
 ·have:decide (x<((L.cN.len:Nat):Int))=decide (0<=x/\x<(H.bQ.length:Int)):=by rw[decide_eq_decide,a];omega
  simp only[this];exact hR
 ·rw[zM O]at hR;exact hR
theorem AZ (h:HH U F L H)(t:Nat){R:aN}(hR:R ((H.own t:Nat):Int) U):Zi.c (aW L.p) (t:Int) U R:=by
 refine Zi.o ?_;unfold Zi.v;have a:=h.l5;have b:=h.s.a1;refine aG (h.hd.rS rfl (nz aC ?_));have:((t:Int).tmod ((L.fI.len:Nat):Int))=((H.own t:Nat):Int):=by rw[Qz O,a];unfold Hw.own;omega
 simp only[this];exact hR
theorem GZ (h:HH U F L H)(x:Int)(hx9:x<=9223372036854775807){R:aN}(hR:∀σ',bK U σ'->R (Yf H.bV x) σ'):XY.c (aW L.p) x U R:=by
 refine XY.o ?_;unfold XY.v;refine nw (cs:=[.int .i64 x]) λv hz e Q=>Q.se rfl ?_;have P:=h.bO e;by_cases hx:x<0
 ·have:=hR v e;unfold Yf at this;rw[zC hx]at this;exact kW hx this
 refine fM hx (aG (P.hd.rS rfl ?_));have hl:=h.l5;have W:=h.s.a2;refine Wk.o ?_;unfold Wk.v;refine Z5 (a:=bN) (λ(z:Int) w=>∃i:Nat,z=(i:Int)/\i<=H.bV.length/\bK U w/\HH w F L H/\bX w U.size [.int .i64 x]/\∀j A,j<i->H.bV[j]?=some A->H9 A (x/256)=false) (λz _=>H.bV.length-z.toNat) ⟨0,rfl,O,e,P,Q,λj A d=>O⟩ ?_;rintro z w ⟨i,rfl,hi,D,M,r,b⟩;refine cR (λE=>?_) λN=>?_
 ·simp only at E;have K:i<H.bV.length:=by omega
  have g:H.bV[i]?=some H.bV[i]:=cW K;generalize H.bV[i]=A at g;obtain⟨Y,V,Z,y⟩:=M.ar g;refine M.rA V (oS (all := #[.pointer (some ⟨Y.p,0,none⟩),.pointer (some ⟨U.size,0,none⟩)]) (by kernel_rfl) aA ?_);refine YH.o ?_;unfold YH.v;refine r.se rfl (nz aB (ar (by rw[Yi O];omega) (by rw[Yi O];omega) ?_));rw[Yi O];refine OL y (x/256) (cY (λS=>?_) λX=>?_)
  ·have:Yf H.bV x=(i:Int):=by
    unfold Yf;rw[zB hx];have:H.bV.findIdx? (λA=>H9 A (x/256))=some i:=by
     obtain⟨G,rfl⟩:=cX.1 g;exact mQ.2 ⟨G,S,λj d=>by rw[b j _ d (cW O)];simp⟩
    rw[this]
   have u:=hR w D;rw[this]at u;exact u
  ·exact cQ (m:=i+1) O O ⟨⟨i+1,rfl,O,D,M,r,λj B d J=>by
    by_cases e:j=i
    ·subst e;rw[g]at J;cases J;exact X
    ·exact b j B O J⟩,O⟩
 ·have C:i=H.bV.length:=by simp only at N;omega
  subst C;have:Yf H.bV x = -1:=by
   unfold Yf;rw[zB hx];have:H.bV.findIdx? (λA=>H9 A (x/256))=none:=by
    rw[sN];intro A g;obtain⟨j,d⟩:=zO g;exact b j A (cX.1 d).1 d
   rw[this]
  have u:=hR w D;rw[this]at u;exact u
theorem CZ (h:HH U F L H){R:Int->Int->Int->Int->Int->Hp->Prop}(hR:∀σ',bK U σ'->R (H.cf.aF:Int) (H.cf.gL:Int) (H.cf.threads:Int) (H.cf.cZ:Int) (H.cf.room:Int) σ'):Xk.c (aW L.p) U R:=by
 refine Xk.o ?_;unfold Xk.v;refine nw (cs:=[.int .i64 0,.int .i64 0,.int .i64 0,.int .i64 0,.int .i64 0]) λv u e i=>V0 (h.bO e) (cE rfl ?_);have hd:=(h.bO e).hd;refine aG (hd.fR rfl (hd.fR rfl (hd.fR rfl (hd.fR rfl (hd.fR rfl ?_)))));refine i.s1 aA λs o1 j=>j.s1 aA λr o2 m=>m.s1 aA λv3 o3 b=>b.s1 aA λw o4 d=>d.s1 aA λg o5 a=>?_;refine a.rI rfl (a.rI rfl (a.rI rfl (a.rI rfl (a.rI rfl (hR g ?_)))));exact((((e.only o1 (.inr (zD _))).only o2 (.inr (zD _))).only o3 (.inr (zD _))).only o4 (.inr (zD _))).only o5 (.inr (zD _))
theorem DT (h:HH U F L H){R:Option Addr->Hp->Prop}(hR:R (some ⟨L.hs,0,none⟩) U):Ym.c (aW L.p) U R:=by
 refine Ym.o ?_;unfold Ym.v;exact V0 h (cE rfl (aG (h.hd.rP rfl hR)))
theorem O6 (h:HH U F L H)(x:Int)(hx:x<=9223372036854775807){R:Int->Int->Hp->Prop}(hR:∀σ',bK U σ'->R (if fG H.sp x=0 then H.sp.wd (x.toNat/8)else 0) (fG H.sp x) σ'):Yz.c (aW L.p) x U R:=by
 refine Yz.o ?_;unfold Yz.v;exact DT h (NI h.Mv h.g x hx hR)
theorem Ou (h:HH U F L H)(gc:Gc U)(x v:Int)(hx:x<=9223372036854775807){R:aN}(hR:∀σ',Ext F U σ'->HH σ' (Grow F U) L {H with sp:=ZL H.sp x v}->R (fG H.sp x) σ'):Xb.c (aW L.p) x v U R:=by
 refine Xb.o ?_;unfold Xb.v;obtain⟨G,m,i,d,a⟩:=h.uw;refine DT h (II i h.g gc x hx v λσ' e b=>?_);obtain⟨e1,j⟩:=a σ' _ e b;exact hR σ' e1 j
theorem EW (h:HH U F L H)(x:Int){R:Int->Int->Hp->Prop}(hR:∀σ',bK U σ'->R ((bY H.live x).elim 0 λb=>b.2.1) (if(bY H.live x).isSome then 0 else 8) σ'):Xs.c (aW L.p) x U R:=by
 refine Xs.o ?_;unfold Xs.v;refine V0 h (cE rfl (aG (h.hd.rM rfl ⟨_,h.mc,?_⟩)));refine nw (cs:=[.int .i64 0,.int .i64 0,.int .i64 0,.int .i64 0]) λv y e i=>?_;refine i.s1 aA λu o1 j=>j.s1 aA λw o2 m=>m.s1 aA λv3 o3 d=>d.s1 aA λv4 o4 r=>?_;have g:bK U v4:=(((e.only o1 (.inr (zD _))).only o2 (.inr (zD _))).only o3 (.inr (zD _))).only o4 (.inr (zD _));have a:=hR v4 g;cases hm:bY H.live x with
 | none=>
  rw[hm]at a;exact cB rfl a
 | some b=>
  rw[hm]at a;refine cE rfl (r.rI rfl ?_);have s:((bY H.live x).getD ((0,0,0,0):Bk)).2.1=b.2.1:=by rw[hm];rfl
  rw[s];exact a
theorem Vw (h:HH U F L H)(ht:t<H.bQ.length){R:Value->Hp->Prop}(hR:R (l6 (jI H t)) U):WR.c (aW L.p) (t:Int) U R:=by
 refine WR.o ?_;unfold WR.v;obtain⟨x,g,d,a⟩:=h.th ht;refine aG (h.hd.rS rfl (h.tS d a ?_));obtain⟨G,i,b⟩:=h.sep.get (.hn t);simp only[CH,d,a,oC]at b;have e:=b.len;unfold jI at hR;rw[a]at hR;simp only at hR;by_cases h0:g.bP=[]
 ·rw[zC h0]at hR;exact cB (by rw[e,h0];rfl) hR
 ·rw[zB h0]at hR;have:=pn.2 h0;exact cE (by simp only[lM];omega) hR
theorem y8 (h:HH U F L H)(x size cls:Int)(hx9:x<=9223372036854775807){R:Value->Int->Int->Hp->Prop}(hR:∀σ',Ext F U σ'->HH σ' F L (Va H x size cls)->R .nilIface x 0 σ'):Yr.c (aW L.p) x size cls U R:=by
 refine Yr.o ?_;unfold Yr.v;refine nw (cs:=[.int .i64 0,.int .i64 0]) λv G e a=>?_;have j:=h.cut.bO e;refine⟨λu=>bK v u,Ext.refl _ _,aG ⟨some L.lm,λu z=>by rw[add_lit,((j.bO z).hd).cell];rfl,?_⟩⟩;refine GZ j x hx9 λE e1=>⟨e1,?_⟩;have w:=j.bO e1;obtain⟨C,d⟩:=w.qk;refine⟨L.lm,_,rfl,w.mc,λi o2 m=>?_⟩;obtain⟨e2,A⟩:=d i _ o2 m;have r:bX i U.size [.int .i64 0,.int .i64 0]:=Wr o2 (e1.bU a id) (by have:=C.2;omega);refine r.s1 aA λv3 o3 y=>y.s1 aA λv4 o4 s=>s.rI rfl (s.rI rfl (hR v4 ?_ ?_))
 ·exact(((bK.to (e.trans e1)).trans (e2.sub λb a=>a.1)).only o3 (.inr (zD _))).only o4 (.inr (zD _))
 ·have g:Ext (· = U.size) i v4:=o3.ext.trans o4.ext;have B:=h.tD A g (λb a=>O) (λb _ a D=>by have:=a.2;omega);exact B.mono (λb _ a=>a.1) h.o h.o2
theorem HM (h:HH U F L H)(ht:t<H.bQ.length)(k:Nat){s:Sl}{xs:List Int}{X:Rg}(hs:cT s 1 (Wx xs) U X)(hc:s.len<=s.cap)(hxs:xs≠[])(hX:∀b,b<U.size->X b->¬F b)(oX:iC X)(oX2:¬X 1)(hlen:∀g,H.bQ[t]?=some g->g.bP.length<=1000){R:aP}
 (hR:∀σ' ts',Ext F U σ'->HH σ' (λb=>Grow F U b\/X b) {L with ts:=ts'} (Qq H t k xs)->R σ'):X2.c (aW L.p) (t:Int) (k:Int) s U R:=by
 refine X2.o ?_;unfold X2.v;obtain⟨x,g,r,hg⟩:=h.th ht;have htl:=U2 h.s.ts;have hrl:=h.k6;have hlen:=hlen g hg;obtain⟨G,D,hG,Q,hd,hB,hr,⟨E,hE1,hE2,hhd⟩,aa⟩:=h.cut.qj r hg (λb=>U.size<=b\/b<U.size/\X b) (λb m hf hn=>by
  rcases hn with hn|hn
  ·omega
  ·exact hX b m hn.2 hf.1) (λb m=>m.elim (h.lY.1 b) λm=>oX b m.2) (λm=>m.elim h.lY.2 λm=>oX2 m.2)
 obtain⟨W,Dn,B,M,C,hj,P⟩:=hB;have A:∀u,Ext G U u->bX u L.p (wS L H.cf):=λu z=>((ib.loc _ _).bS hhd z λb _ m r=>hE1 b m r).2;have hr':∀u,Ext G U u->bW L.cN 3 (gF L.ts H.bQ) u D:=λu z=>aI.bS hr z λb _ m r=>hd b r m;refine⟨λu=>Ext G U u,Ext.refl _ _,aG ⟨L.cN,λu z=>by rw[add_lit,(A u z).cell];rfl,aG ⟨L.cN,λu z=>by rw[add_lit,(A u z).cell];rfl,?_⟩⟩⟩;refine xS (bW.ig hr) h.s.ts r hg (d:=1) O rfl λb o ha _=>⟨x.h,λu z=>?_,?_⟩
 ·obtain⟨b',o',V,hc'⟩:=Ge (bW.ig (hr' u z)) r hg (d:=1) O rfl;rw[ha]at V;cases V;rw[add_lit,show o+3*t+1=o+(3*t+1) by omega];exact hc'
 refine nw (cs:=[.int .i64 (k:Int),.slice s.a s.len s.cap]) λv hz e m=>⟨bK.to e,?_⟩;have N:=(dF.loc _ _ _).bO ((dF.loc _ _ _).cut B) e;have Z:=(jS.loc _ _).bO ((jS.loc _ _).cut M) e;have hs1:=aH.bO (aH.cut hs) e;have hpl:x.h.len=W.length:=by have:=B.1;rw[Kg]at this;omega
 have hpg:W.length=g.bP.length:=M.1;refine N.app (ys:=ng (k,s)) rfl rfl ?_ (λv hv=>Uy (l:=[(k,s)]) v (by simpa[eV]using hv)) ?_ ?_ mI λs' v2 hl2 e2 hr2=>?_
 ·intro j u z;rw[add_lit,zH,m.cell];exact z
 ·simp only;have:(x.h.len+1)*32<=1001*32:=lp O O;omega
 ·simp only;omega
 have hs2:=e2.1;have eG:Ext G U v2:=(bK.to e).trans (e2.sub λb m=>m.1.1);refine⟨eG,?_⟩;obtain⟨b0,S⟩:∃b,L.cN.a=some ⟨b,0,none⟩:=by
  rcases hr.2 with⟨h0,_⟩|⟨b,_,_,ha,_⟩
  ·omega
  ·exact⟨b,ha⟩
 rw[S];refine ix O O ?_;refine(hr' v2 eG).st (j:=3*t+1) O (λb' hb'=>by rw[S]at hb';cases hb';rw[add_lit,add_lit];congr 1;omega) λσ' Y hr3=>?_;have hs3:=Y.1;have e03:Ext (λb=>G b\/D b) U σ':=(eG.sub λb m=>.inl m).trans (Y.sub λb m=>.inr m);have hr4:=(dF.loc _ _ _).bS ((dF.loc _ _ _).cut hr2) Y λb _ m r=>by
  rcases m.1 with h1|h1
  ·exact hd b h1.1.1 r
  ·have:=(Q b r).2;omega
 have hB4:=(jS.loc _ _).bS ((jS.loc _ _).bS Z e2 λb _ m r=>r.1.2 m.1) Y λb _ m r=>hd b (C b m.1) r;have hs4:=aH.bS (aH.bS hs1 e2 λb m r w=>hX b r.2 r.1 (hG b w.1.1).1) Y λb _ r w=>hX b r.2 r.1 (Q b w).1;have hBt:gY s' (g.bP++[(k,xs)]) σ' (λb=>G b/\b<U.size\/b<U.size/\X b\/v.size<=b/\b<v2.size):=by
  refine⟨W++[(k,s)],λb=>Dn b/\b<U.size\/b<U.size/\X b,?_,⟨by simp[hpg],λi p y K w=>?_⟩,λb m=>?_,hj.snoc M P hs hxs (λb m r w=>hX b m w (hG b (C b r)).1) k,λy w=>?_⟩
  ·rw[Ui];have:eV [(k,s)]=ng (k,s):=by simp[eV]
   rw[this];refine(dF.loc _ _ _).mono hr4 λq _ J=>?_;rcases J.1 with h1|h1
   ·exact⟨.inl ⟨h1.1.1,h1.2⟩,λr=>by
     rcases r with r|r
     ·exact h1.1.2 r.1
     ·exact hX q r.1 r.2 (hG q h1.1.1).1⟩
   ·exact⟨.inr (.inr ⟨h1,J.2⟩),λr=>by
     rcases r with r|r<;>omega⟩
  ·rcases jX i W.length with hi|hi
   ·rw[zg hi]at K;rw[zg O]at w;obtain⟨a1,a2,a3⟩:=hB4.2 i p y K w;exact⟨a1,aH.mono a2 λq _ J=>.inl J,a3⟩
   ·rw[zn hi]at K;rw[zn O]at w;have hi0:i-W.length=0:=by
     have:=(cX.1 K).1;simp at this;omega
    rw[hi0]at K;rw[show i-g.bP.length=0 by omega]at w;simp at K w;subst K;subst w;exact⟨rfl,aH.mono hs4 λq _ J=>.inr ⟨J.2,J.1⟩,hc⟩
  ·rcases m with m|m
   ·exact .inl ⟨C b m.1,m.2⟩
   ·exact .inr (.inl m)
  ·rcases zL.1 w with h1|h1
   ·exact P y h1
   ·rw[zR]at h1;subst h1;exact hxs
 obtain⟨eF,h4⟩:=aa σ' s' (g.bP++[(k,xs)]) (λb=>G b/\b<U.size\/b<U.size/\X b\/v.size<=b/\b<v2.size) D e03 (λb m=>by
  rcases m with m|m|m
  ·exact .inl (.inl m.1)
  ·exact .inr (.inr m)
  ·exact .inr (.inl O)) (λb m=>.inl (.inr m)) (λb m r=>by
  have:=(Q b r).2;rcases m with m|m|m
  ·exact hd b m.1 r
  ·exact hX b m.1 m.2 (Q b r).1
  ·omega) hBt hr3
 refine hR σ' (L.ts.set t {x with h:=s'}) (eF.sub λb m=>m.1) ?_;have e5:Qq H t k xs = {H with bQ:=H.bQ.set t {g with bP:=g.bP++[(k,xs)]}}:=by
  unfold Qq Hw.dQ
  congr 1
  exact Kx hg
 rw[e5];refine h4.mono (λb _ m=>?_) (λb (m:Grow F U b\/X b)=>m.elim (h.oG b) (oX b)) λ(m:Grow F U _\/X _)=>m.elim h.pK oX2;rcases m with m | (m|m|m)|m
 ·exact .inl (.inl m.1.1)
 ·exact .inl (.inl (hG b m.1).1)
 ·exact .inr m.2
 ·exact .inl (.inr O)
 ·exact .inl (.inl (Q b m).1)
end Go.Ar
namespace Go.Ar
open Go Go.Vc Go.Proofs
variable {U u u':Hp}{F B P:Rg}{L:dP}{H H':Hw}{t k n:Nat}{A:AR}{Y:Lay}{x:eC}{g:Th}{c:bZ}{l:Li}{cs:List Value}
structure HK (F:Rg) (U:Hp) (B:Rg) (u:Hp) (P:Rg) (L:dP) (H:Hw):Prop where
 h:HH u P L H
 e:Ext F U u
 p:∀b,P b->(F b/\b<U.size\/U.size<=b)/\¬B b/\b<u.size
 b:∀b,B b->U.size<=b/\b<u.size
 o:iC (λb=>U.size<=b)/\¬U.size<=1
theorem HK.start (h:HH U F L H):HK F U (λ_=>False) U (Cut F U) L H:=⟨h.cut,Ext.refl _ _,λb a=>⟨.inl ⟨a.1,a.2⟩,id,a.2⟩,λb a=>a.elim,h.lY⟩
theorem HK.box (K:HK F U B u P L H)(e:bK u u')(hz:u'.size=u.size+1):HK F U (λb=>B b\/b=u.size) u' P L H:=
 ⟨K.h.bO e,K.e.trans (bK.to e),λb a=>⟨(K.p b a).1,λd=>d.elim (K.p b a).2.1 λg=>by have:=(K.p b a).2.2;omega,by have:=(K.p b a).2.2;omega⟩,λb a=>by
  have:=K.e.1;rcases a with a|a
  ·have:=K.b b a;omega
  ·omega,K.o⟩
theorem HK.fr (K:HK F U B u P L H)(e:bK u u'):HK F U B u' P L H:=
 ⟨K.h.bO e,K.e.trans (bK.to e),λb a=>⟨(K.p b a).1,(K.p b a).2.1,by have:=(K.p b a).2.2;have:=e.1;omega⟩,λb a=>by have:=K.b b a;have:=e.1;omega,K.o⟩
theorem HK.own (K:HK F U B u P L H)(o:Qg u u' n)(hn:B n):HK F U B u' P L H:=by
 have r:=K.b n hn;have s:=o.1;have e:Ext (· = n) u u':=o.ext;have i:∀b,b<u.size->P b->¬(b=n):=λb _ a j=>(K.p b a).2.1 (j▸hn);have d:iC (λb=>b=n)/\¬(1=n):=⟨K.o.1.sub λb g=>O,λg=>K.o.2 O⟩;exact⟨K.h.bS e i d.1 d.2,K.e.dS e λb (m:b=n)=>.inr O,λb a=>⟨(K.p b a).1,(K.p b a).2.1,by have:=(K.p b a).2.2;omega⟩,λb a=>by have:=K.b b a;omega,K.o⟩
theorem HK.cP (K:HK F U B u P L H)(e:Ext P u u')(hb:bX u n cs)(hn:B n):bX u' n cs:=e.bU hb λa=>(K.p n a).2.1 hn
theorem HK.rY (K:HK F U B u P L H){Q:Rg}{L':dP}(e:Ext P u u')(h:HH u' Q L' H')(hq:∀b,b<u'.size->Q b->P b\/u.size<=b\/(F b/\b<U.size\/U.size<=b)/\¬B b):HK F U B u' (Cut Q u') L' H':=by
 have i:=e.1;have g:=K.e.1;refine⟨h.cut,K.e.dS e λb a=>(K.p b a).1.imp (λh=>h.1) id,λb a=>⟨?_,λd=>?_,a.2⟩,λb a=>by have:=K.b b a;omega,K.o⟩
 ·rcases hq b a.2 a.1 with h1|h1|h1
  ·exact(K.p b h1).1
  ·exact .inr O
  ·exact h1.1
 ·rcases hq b a.2 a.1 with h1|h1|h1
  ·exact(K.p b h1).2.1 d
  ·have:=K.b b d;omega
  ·exact h1.2 d
theorem HK.to (K:HK F U B u P L H){Q:Rg}{L':dP}(e:Ext P u u')(h:HH u' Q L' H')(hq:∀b,b<u'.size->Q b->P b\/u.size<=b):HK F U B u' (Cut Q u') L' H':=K.rY e h λb a d=>(hq b a d).imp id .inl
theorem HK.fin (K:HK F U B u P L H){L0:dP}{H0:Hw}(h0:HH U F L0 H0):HH u (Grow F U) L H:=h0.grown K.h λb _ a=>(K.p b a).1.imp (λh=>h.1) id
def Fr (A' A:AR):Prop:=A'.tb=A.tb/\A'.room=A.room/\A'.cM=A.cM
theorem Fr.cJ {A' A:AR}(h:Fr A' A)(Y:Lay):Go.Ar.cJ A' Y=Go.Ar.cJ A Y:=by
 funext k;unfold Go.Ar.cJ;rw[h.1,h.2.1,h.2.2]
theorem Ea (A:AR)(k m:Int):Fr (Yk A k m) A:=by
 unfold Yk;split<;>exact⟨rfl,rfl,rfl⟩
theorem Ct (A:AR)(k:Int)(xs:List Int):Fr (Zl A k xs) A:=⟨(VU A k xs).1,(VU A k xs).2.1,(VU A k xs).2.2.1⟩
theorem Ef (A:AR)(sp:Sp)(m a no:Nat):Fr (cV A sp m a no).2.1 A:=⟨(Hg A sp m a no).1,(Hg A sp m a no).2.2.2.1,(Hg A sp m a no).2.2.1⟩
theorem Bs (A:AR)(x:Int):Fr (Qi A x) A:=by
 unfold Qi;split<;>exact⟨rfl,rfl,rfl⟩
theorem C1 (A:AR)(sp:Sp)(k:Int):Fr (cL A sp k).1 A:=by
 unfold cL;split
 ·split
  ·rename_i c ss h1 h2;have h:=Ef A sp c.aF 1 (k.toNat+1);generalize cV A sp c.aF 1 (k.toNat+1)=r at h;obtain⟨o,A',a⟩:=r;cases o with
   | none=>exact h
   | some x=>
    simp only;split<;>exact h
  ·exact⟨rfl,rfl,rfl⟩
 ·exact⟨rfl,rfl,rfl⟩
theorem DF (A:AR)(sp:Sp)(m a:Int):Fr (cA A sp m a).1 A:=by
 unfold cA;split
 ·have h:=Ef A sp m.toNat a.toNat 41;generalize cV A sp m.toNat a.toNat 41=r at h;obtain⟨o,A',b⟩:=r;cases o<;>exact h
 ·exact⟨rfl,rfl,rfl⟩
theorem FI (A:AR)(k:Int):(Zo A k).tb=A.tb:=by unfold Zo;split<;>rfl
theorem EV (A:AR)(k:Int)(xs:List Int):(QL A k xs).tb=A.tb:=by unfold QL;split<;>rfl
theorem HH.lD (h:HH U F L H)(hk:H.bV[k]?=some A)(hy:L.ys[k]?=some Y):∃G:Rg,(∀b,G b->F b)/\dE U G Y A (cJ A Y)/\∀(σ':Hp) (A':AR) (Q:Rg),A'.tb=A.tb->Ext G U σ'->(∀b,Q b->G b\/U.size<=b)->dE σ' (λb=>Grow G U b/\¬Q b) Y A' (cJ A' Y) →
 Ext F U σ'/\HH σ' (λb=>Grow F U b/\¬Q b) L (H.cC k A'):=by
 obtain⟨Y',G,g,_,j,s,d⟩:=h.u9 hk;rw[hy]at g;cases g;refine⟨G,j,s,λσ' A' Q i e r m=>?_⟩;obtain⟨e1,u⟩:=d σ' A' _ i e (λb a=>a.1) m;refine⟨e1,u.mono (λb _ a=>?_) (h.oG.sub λb a=>a.1) λa=>h.pK a.1⟩;rcases a with a|a
 ·exact⟨.inl a.1,λp=>by
   rcases r b p with h2|h2
   ·exact a.2.2 h2
   ·have:=a.2.1;omega⟩
 ·exact⟨a.1.imp (j b) id,a.2⟩
theorem dE.uQ {T:Nat->Hp->Rg->Prop}{G Q:Rg}(h:dE U G Y A T)(hq:∀b,¬Q b):dE U (λb=>G b/\¬Q b) Y A T:=h.mono λb _ a=>⟨a,hq b⟩
theorem HH.lH (h:HH U F L H)(hk:H.bV[k]?=some A)(hy:L.ys[k]?=some Y):∃G:Rg,(∀b,G b->F b)/\dE U G Y A (cJ A Y)/\∀(σ':Hp) (A':AR),A'.tb=A.tb->Ext G U σ'->dE σ' (Grow G U) Y A' (cJ A' Y) →
 Ext F U σ'/\HH σ' (Grow F U) L (H.cC k A'):=by
 obtain⟨G,i,j,a⟩:=h.lD hk hy;refine⟨G,i,j,λσ' A' g e m=>?_⟩;obtain⟨e1,p⟩:=a σ' A' (λ_=>False) g e (λb d=>d.elim) (m.uQ λ_=>id);exact⟨e1,p.mono (λb _ d=>d.1) h.oG h.pK⟩
theorem Hy (h:HH U F L H)(hk:H.bV[k]?=some A)(hy:L.ys[k]?=some Y)(c:Int){R:Sl->Int->Hp->Prop}
 (hR:∀s σ' (Q:Rg),Ext F U σ'->(∀b,Q b->F b)->cT s 1 (Wx (Yg A c)) σ' Q->s.len<=s.cap->HH σ' (λb=>Grow F U b/\¬Q b) L (H.cC k (Zo A c))->R s (ZP A c) σ') :
 Wz.c (aW Y.p) c U R:=by
 obtain⟨G,j,m,d⟩:=h.lD hk hy;refine HA m c λs σ' e i u g r=>?_;obtain⟨e1,w⟩:=d σ' (Zo A c) (j9 s) (FI A c) e (λb a=>.inl (i b a)) (r.mono λb _ a=>⟨.inl a.1,a.2⟩);exact hR s σ' (j9 s) e1 (λb a=>j b (i b a)) u g w
theorem G7 (h:HH U F L H)(hk:H.bV[k]?=some A)(hy:L.ys[k]?=some Y)(c m:Int){R:Sl->Int->Hp->Prop}
 (hR:∀s σ' (Q:Rg),Ext F U σ'->(∀b,Q b->U.size<=b)->bW s 1 (ints (X1 A c m)) σ' Q->HH σ' (λb=>Grow F U b/\¬Q b) L (H.cC k (Yk A c m))->R s (Qh A c m) σ') :
 WB.c (aW Y.p) c m U R:=by
 obtain⟨G,w,i,d⟩:=h.lD hk hy;refine L6 i c m λs σ' e r j=>?_;have g:cJ (Yk A c m) Y=cJ A Y:=(Ea A c m).cJ Y;obtain⟨e1,u⟩:=d σ' (Yk A c m) (λb=>U.size<=b) (Ea A c m).1 e (λb a=>.inr a) (by rw[g];exact j.mono λb _ a=>⟨.inl a.1,by have:=a.2;omega⟩);exact hR s σ' _ e1 (λb a=>a) r u
theorem Ff (h:HH U F L H)(hk:H.bV[k]?=some A)(hy:L.ys[k]?=some Y)(c:Int){sl:Sl}{xs:List Int}{X:Rg}(hs:cT sl 1 (Wx xs) U X)(hi:∀x∈xs,iu x){R:Bool->Int->Hp->Prop}
 (hR:∀σ',Ext F U σ'->HH σ' (Grow F U) L (H.cC k (QL A c xs))->R (KE A c xs) (UB A c xs) σ'):WE.c (aW Y.p) c sl U R:=by
 obtain⟨G,i,b,a⟩:=h.lH hk hy;refine EL b c hs hi λσ' e d=>?_;obtain⟨e1,g⟩:=a σ' _ (EV A c xs) e d;exact hR σ' e1 g
theorem M9 (h:HH U F L H)(hk:H.bV[k]?=some A)(hy:L.ys[k]?=some Y)(c:Int){sl:Sl}{xs:List Int}{X:Rg}(hs:cT sl 1 (Wx xs) U X)(hX:∀b,b<U.size->X b->¬F b)(hi:∀x∈xs,iu x)(hl:xs.length<=1000000)(hcap:sl.len<=sl.cap){R:aN}
 (hR:∀σ',Ext F U σ'->HH σ' (Grow F U) L (H.cC k (Zl A c xs))->R (Qx A c xs) σ'):WK.c (aW Y.p) c sl U R:=by
 obtain⟨G,g,i,a⟩:=h.lH hk hy;refine NJ i c hi hl hcap (.inl ⟨X,hs,λb j s r=>hX b j s (g b r)⟩) λσ' e m=>?_;have d:cJ (Zl A c xs) Y=cJ A Y:=(Ct A c xs).cJ Y;obtain⟨e1,u⟩:=a σ' _ (Ct A c xs).1 e (by rw[d];exact m);exact hR σ' e1 u
theorem Jm (h:HH U F L H)(hk:H.bV[k]?=some A)(hy:L.ys[k]?=some Y)(x:Int)(hf:∀r∈A.runs,r.1<=1000000){R:aN}
 (hR:∀σ',Ext F U σ'->HH σ' (Grow F U) L (H.cC k (Qi A x))->R (Ku A x) σ'):WG.c (aW Y.p) x U R:=by
 obtain⟨G,j,d,a⟩:=h.lH hk hy;refine N9 d x hf λσ' e g=>?_;have b:cJ (Qi A x) Y=cJ A Y:=(Bs A x).cJ Y;obtain⟨e1,i⟩:=a σ' _ (Bs A x).1 e (by rw[b];exact g);exact hR σ' e1 i
theorem Jd (h:HH U F L H)(hk:H.bV[k]?=some A)(hy:L.ys[k]?=some Y)(c:Int){R:aN}
 (hR:∀σ',Ext F U σ'->HH σ' (Grow F U) L {H.cC k (cL A H.sp c).1 with sp:=(cL A H.sp c).2}->R (Ks A H.sp c) σ'):XL.c (aW Y.p) c U R:=by
 obtain⟨Y',G,D,a,_,m,b⟩:=h.nQ hk;rw[hy]at a;cases a;refine Nj m c λσ' G' D' j e g=>?_;have d:cJ (cL A H.sp c).1 Y=cJ A Y:=(C1 A H.sp c).cJ Y;obtain⟨e1,i⟩:=b σ' _ _ G' D' (C1 A H.sp c).1 e j (by rw[d];exact g);exact hR σ' e1 i
theorem Ny (h:HH U F L H)(hk:H.bV[k]?=some A)(hy:L.ys[k]?=some Y)(m a:Int){R:Int->Int->Hp->Prop}
 (hR:∀σ',Ext F U σ'->HH σ' (Grow F U) L {H.cC k (cA A H.sp m a).1 with sp:=(cA A H.sp m a).2}->R ((ZO A H.sp m a:Nat):Int) (Qd A H.sp m a) σ'):WJ.c (aW Y.p) m a U R:=by
 obtain⟨Y',G,D,b,_,s,d⟩:=h.nQ hk;rw[hy]at b;cases b;refine Jp s m a λσ' G' D' r e i=>?_;have g:cJ (cA A H.sp m a).1 Y=cJ A Y:=(DF A H.sp m a).cJ Y;obtain⟨e1,j⟩:=d σ' _ _ G' D' (DF A H.sp m a).1 e r (by rw[g];exact i);exact hR σ' e1 j
def Hw.dO (H:Hw)(t:Nat)(g:Th)(ls:List Li):Hw:={H with bQ:=H.bQ.set t {g with ls:=ls}}
theorem HH.kr (h:HH U F L H)(hx:L.ts[t]?=some x)(hg:H.bQ[t]?=some g):∃G:Rg,(∀b,G b->F b)/\dX U G x.c H.tb H.cf.cZ g.ls/\∀(σ':Hp) (ls:List Li) (Y':gp) (Q:Rg),Y'.p=x.c.p->Ext G U σ'->(∀b,Q b->U.size<=b)->dX σ' (λb=>Grow G U b/\¬Q b) Y' H.tb H.cf.cZ ls →
 Ext F U σ'/\HH σ' (λb=>Grow F U b/\¬Q b) {L with ts:=L.ts.set t {x with c:=Y'}} (H.dO t g ls):=by
 obtain⟨G,i,j,d⟩:=h.ny hx hg;refine⟨G,i,j,λσ' ls Y' Q m e w r=>?_⟩;obtain⟨e1,u⟩:=d σ' ls Y' _ m e (λb a=>a.1) r;refine⟨e1,u.mono (λb _ a=>?_) (h.oG.sub λb a=>a.1) λa=>h.pK a.1⟩;rcases a with a|a
 ·exact⟨.inl a.1,λs=>by have:=a.2.1;have:=w b s;omega⟩
 ·exact⟨a.1.imp (i b) id,a.2⟩
theorem HH.kC (h:HH U F L H)(hx:L.ts[t]?=some x)(hg:H.bQ[t]?=some g):∃G:Rg,(∀b,G b->F b)/\dX U G x.c H.tb H.cf.cZ g.ls/\∀(σ':Hp) (ls:List Li) (Y':gp),Y'.p=x.c.p->Ext G U σ'->dX σ' (Grow G U) Y' H.tb H.cf.cZ ls →
 Ext F U σ'/\HH σ' (Grow F U) {L with ts:=L.ts.set t {x with c:=Y'}} (H.dO t g ls):=by
 obtain⟨G,i,j,a⟩:=h.kr hx hg;refine⟨G,i,j,λσ' ls Y' m e r=>?_⟩;obtain⟨e1,s⟩:=a σ' ls Y' (λ_=>False) m e (λb d=>d.elim) (r.mono λb _ d=>⟨d,id⟩);exact⟨e1,s.mono (λb _ d=>d.1) h.oG h.pK⟩
theorem MW (h:HH U F L H)(hx:L.ts[t]?=some x)(hg:H.bQ[t]?=some g)(hc:H.tb[k]?=some c)(hl:g.ls[k]?=some l){R:Int->Int->Hp->Prop}
 (hR:∀σ' ts',Ext F U σ'->HH σ' (Grow F U) {L with ts:=ts'} (H.dO t g (g.ls.set k (QP c l).2))->R ((QP c l).1.getD 0) (if(QP c l).1.isSome then 0 else 4) σ'):XW.c (aW x.c.p) (k:Int) U R:=by
 obtain⟨G,m,i,a⟩:=h.kC hx hg;refine kE i hc hl λσ' Y' e b d=>?_;obtain⟨e1,j⟩:=a σ' _ Y' b e d;exact hR σ' _ e1 j
theorem MN (h:HH U F L H)(hx:L.ts[t]?=some x)(hg:H.bQ[t]?=some g)(hc:H.tb[k]?=some c)(hl:g.ls[k]?=some l){R:Int->Int->Hp->Prop}
 (hR:∀σ' ts',Ext F U σ'->HH σ' (Grow F U) {L with ts:=ts'} H->R ((GN c l:Nat):Int) 0 σ'):XM.c (aW x.c.p) (k:Int) U R:=by
 obtain⟨G,m,j,a⟩:=h.kC hx hg;refine Ly j hc hl λσ' Y' e d i=>?_;obtain⟨e1,b⟩:=a σ' _ Y' d e i;have e2:H.dO t g g.ls=H:=by
  unfold Hw.dO;rw[Z1 hg]
 rw[e2]at b;exact hR σ' _ e1 b
theorem Fa (h:HH U F L H)(hx:L.ts[t]?=some x)(hg:H.bQ[t]?=some g)(hc:H.tb[k]?=some c)(hl:g.ls[k]?=some l){sl:Sl}{xs:List Int}{X:Rg}(hs:cT sl 1 (Wx xs) U X)(hX:∀q,X q->¬F q)(hfit:l.os.length+xs.length<=256){R:aN}
 (hR:∀σ' ts',Ext F U σ'->HH σ' (Grow F U) {L with ts:=ts'} (H.dO t g (g.ls.set k (dY xs.reverse l)))->R 0 σ'):XO.c (aW x.c.p) (k:Int) sl U R:=by
 obtain⟨G,b,j,a⟩:=h.kC hx hg;refine My j hc hl hs (λq m hg=>hX q m (b q hg)) hfit λσ' Y' e d i=>?_;obtain⟨e1,r⟩:=a σ' _ Y' d e i;exact hR σ' _ e1 r
theorem JB (h:HH U F L H)(hx:L.ts[t]?=some x)(hg:H.bQ[t]?=some g)(hc:H.tb[k]?=some c)(hl:g.ls[k]?=some l)(y:Int){R:Sl->Int->Hp->Prop}
 (hR:∀σ' ts' s e (Q:Rg),Ext F U σ'->(∀q,Q q->U.size<=q)->bW s 1 (Wx (dH c y l).1) σ' Q->HH σ' (λb=>Grow F U b/\¬Q b) {L with ts:=ts'} (H.dO t g (g.ls.set k (dH c y l).2))->R s e σ'):Yo.c (aW x.c.p) (k:Int) y U R:=by
 obtain⟨G,z,r,a⟩:=h.kr hx hg;refine LZ r hc hl y λσ' Y' s u Q e i _ d j m=>?_;obtain⟨e1,w⟩:=a σ' _ Y' Q i e d m;exact hR σ' _ s u Q e1 d j w
theorem OJ (h:HH U F L H)(hx:L.ts[t]?=some x)(hg:H.bQ[t]?=some g){R:aO}(hR:∀σ',bK U σ'->R (decide (H.cf.cZ<QF H.tb g.ls)) σ'):XQ.c (aW x.c.p) U R:=by
 obtain⟨G,d,b,a⟩:=h.kC hx hg;exact Lr b hR
theorem Lo (hso:Hz)(h:HH U F L H)(hx:L.ts[t]?=some x)(hg:H.bQ[t]?=some g){R:Sl->Hp->Prop}
 (hR:∀σ' s (Q:Rg),Ext F U σ'->(∀q,Q q->U.size<=q)->gY s (QO Zy H.tb g.ls) σ' Q->HH σ' (λb=>Grow F U b/\¬Q b) L (H.dO t g (QM Zy H.tb g.ls))->R s σ'):Xz.c (aW x.c.p) U R:=by
 obtain⟨G,u,r,a⟩:=h.kr hx hg;refine Jv hso r λσ' s Q e i j m=>?_;obtain⟨e1,d⟩:=a σ' _ x.c Q rfl e i j;rw[show L.ts.set t {x with c:=x.c}=L.ts from Z1 hx]at d;exact hR σ' s Q e1 i m d
theorem FG (hso:Hz)(h:HH U F L H)(hx:L.ts[t]?=some x)(hg:H.bQ[t]?=some g){R:Sl->Hp->Prop}
 (hR:∀σ' s (Q:Rg),Ext F U σ'->(∀q,Q q->U.size<=q)->gY s (QO Kl H.tb g.ls) σ' Q->HH σ' (λb=>Grow F U b/\¬Q b) L (H.dO t g (QM Kl H.tb g.ls))->R s σ'):WV.c (aW x.c.p) U R:=by
 obtain⟨G,u,r,a⟩:=h.kr hx hg;refine MT hso r λσ' s Q e i j m=>?_;obtain⟨e1,d⟩:=a σ' _ x.c Q rfl e i j;rw[show L.ts.set t {x with c:=x.c}=L.ts from Z1 hx]at d;exact hR σ' s Q e1 i m d
def mj (S:aP)(L:dP)(tb:List bZ):Prop:=∀m,S m->∃(P:Rg) (ts:List eC) (H:Hw),HH m P {L with ts:=ts} H/\H.tb=tb
theorem mj.dB {S:aP}{tb:List bZ}(hS:mj S L tb){K:Sl->Prop}(hK:K L.dB):fV S .s (Addr.add ⟨L.p,0,none⟩ 0) K:=⟨L.dB,λm a=>by obtain⟨_,_,_,h,_⟩:=hS m a;rw[add_lit,h.hd.cell];rfl,hK⟩
theorem mj.fI {S:aP}{tb:List bZ}(hS:mj S L tb){K:Sl->Prop}(hK:K L.fI):fV S .s (Addr.add ⟨L.p,0,none⟩ 7) K:=⟨L.fI,λm a=>by obtain⟨_,_,_,h,_⟩:=hS m a;rw[add_lit,h.hd.cell];rfl,hK⟩
theorem mj.rA {S:aP}{tb:List bZ}(hS:mj S L tb)(h:HH U F L H)(hy:L.ys[k]?=some Y){K:Option Addr->Prop}(hK:K (some ⟨Y.p,0,none⟩)):Ix L.fI.a L.fI.len (k:Int) 1 λa=>fV S .p a K:=by
 have j:(fC (L.ys.map (·.p)))[k]?=some (.pointer (some ⟨Y.p,0,none⟩)):=by simp[fC,hy]
 obtain⟨b,o,i,_⟩:=h.l4.cell j;have w:=(cX.1 hy).1;have u:=h.l5;have:=h.s.ys;rw[i];refine ix O O ⟨_,λm r=>?_,hK⟩;obtain⟨_,_,_,e,_⟩:=hS m r;obtain⟨x,y,d,g⟩:=e.l4.cell j;rw[i]at d;cases d;rw[add_lit,show o+(k:Int).toNat*1=o+k by omega];exact g
theorem mj.rC {S:aP}(hS:mj S L H.tb)(h:HH U F L H)(hc:H.tb[k]?=some c){K:Int->Prop}(hK:K (c.size:Int)):Ix L.dB.a L.dB.len (k:Int) 3 λa=>fV S bN (a.add 0) K:=by
 have j:(fT H.tb)[3*k+0]?=some (.int .i64 (c.size:Int)):=(HL hc).1;obtain⟨b,o,r,_⟩:=h.ji.cell j;have w:=(cX.1 hc).1;have u:=h.nN;rw[r];refine ix O O ⟨_,λm s=>?_,hK⟩;obtain⟨_,_,_,e,p⟩:=hS m s;rw[←p]at j;obtain⟨x,y,d,g⟩:=e.ji.cell j;have d:L.dB.a=_:=d;rw[r]at d;cases d;rw[add_lit,add_lit,show o+(k:Int).toNat*3+0=o+(3*k+0) by omega];exact g
end Go.Ar
namespace Go.Ar
open Go Go.Vc Go.Proofs
variable {U u u':Hp}{F B P Q:Rg}{L:dP}{H H':Hw}{t k n pb:Nat}{A:AR}{Y:Lay}{x:eC}{g:Th}{c:bZ}{l:Li}{cs:List Value}{parts:List (List Int)}{xs:List Int}
theorem HK.yL (K:HK F U B u P L H)(e:Ext B u u'){B':Rg}(hB:∀b,B' b->B b\/u.size<=b/\b<u'.size):HK F U B' u' P L H:=by
 have r:=e.1;have j:=K.e.1;have i:iC B/\¬B 1:=⟨K.o.1.sub λb g=>(K.b b g).1,λg=>K.o.2 (K.b _ g).1⟩;refine⟨K.h.bS e (λb _ a d=>(K.p b a).2.1 d) i.1 i.2,K.e.dS e λb m=>.inr (K.b b m).1,λb a=>⟨(K.p b a).1,λg=>?_,by have:=(K.p b a).2.2;omega⟩,λb a=>?_,K.o⟩
 ·rcases hB b g with d|d
  ·exact(K.p b a).2.1 d
  ·have:=(K.p b a).2.2;omega
 ·rcases hB b a with d|d
  ·have:=K.b b d;omega
  ·omega
def sV (s:Sl):Value:=.slice s.a s.len s.cap
def lS (pb:Nat)(parts:List (List Int)):Hp->Rg->Prop:=λu Q=>∃(ps:List Sl) (Qs:Nat->Rg),ps.length=parts.length/\Q pb/\bX u pb (ps.map sV)/\(∀j b,Qs j b->Q b/\b≠pb)/\(∀j j' b,Qs j b->Qs j' b->j=j') ∧
 ∀j s xs,ps[j]?=some s->parts[j]?=some xs->dF s 1 (Wx xs) u (Qs j)
theorem lS.loc (pb:Nat)(parts:List (List Int)):dK (lS pb parts):=by
 rintro U H F G ⟨B,Qs,D,z,r,i,w,A⟩ E g;have m:=g pb r.lt z;obtain⟨e,x⟩:=r;refine⟨B,λj b=>Qs j b/\b<U.size,D,m.1,⟨e,m.2.trans x⟩,λj b d=>⟨(g b d.2 (i j b d.1).1).1,(i j b d.1).2⟩,λj y b a u=>w j y b a.1 u.1,λj s C a b=>(dF.loc _ _ _) _ _ _ _ (A j s C a b) E λb d p=>⟨⟨p,d⟩,(g b d (i j b p).1).2⟩⟩
theorem lS.add (h:lS pb parts u Q){a m e1 e2:Nat}(hm:m=parts.length)(ha:parts[a]?=some xs)(y:Int)(hl:xs.length<=1000000){K:aP}(hK:∀u',Ext Q u u'->lS pb (parts.set a (xs++[y])) u' (Grow Q u)->K u') :
 Ix (some ⟨pb,0,none⟩) m (a:Int) 1 λa1=>ja a1 u λt35=>Nw (.cells #[.int .i64 y] e1 (0,0)) u λn37 v4=>App t35 1 8 e2 [.int .i64 0] ⟨some n37,1,1⟩ v4 λt38 v5=>Ix (some ⟨pb,0,none⟩) m (a:Int) 1 λa39=>eP a39 (.slice t38.a t38.len t38.cap) v5 λv6=>K v6:=by
 obtain⟨B,Qs,h1,R,L,A,N,S⟩:=h;have G:=(cX.1 ha).1;have p:B[a]?=some (B[a]' O):=cW _;generalize (B[a]' O)=s at p;have i:=S a s xs p ha;have U:s.len=xs.length:=by have:=i.1;simp[Wx]at this;omega
 refine ix O O ?_;rw[add_lit,show 0+(a:Int).toNat*1=a by omega];refine L.sJ (a:=s.a) (n:=s.len) (c:=s.cap) (by simp[p,sV]) ?_;refine nw (cs:=[.int .i64 y]) λv4 hz e d=>?_;have z:=(dF.loc _ _ _).bO ((dF.loc _ _ _).cut i) e;have H:=e.bU L id;refine z.app (x:=⟨some ⟨u.size,0,none⟩,1,1⟩) (ys:=[.int .i64 y]) rfl rfl ?_ (by simp[dV]) ?_ ?_ mI λZ v5 aa E J=>?_
 ·intro j w hw;rw[add_lit,zH,d.cell];exact hw
 ·simp only;omega
 ·simp only;omega
 have ab:=E.1;have M:bX v5 pb (B.map sV):=E.bU H λr=>(A a pb r.1).2 rfl;refine ix O O ?_;rw[add_lit,show 0+(a:Int).toNat*1=a by omega];refine M.s0 aE λu' P g=>?_;have X:=P.1;have F:Ext (· = pb) v5 u':=P.ext;have eQ:Ext Q u u':=((bK.to e).trans (E.sub λb d=>(A a b d.1).1)).trans (F.sub λb d=>by rw[d];exact R);have Y:=L.lt;refine hK u' eQ ⟨B.set a Z,λj b=>Qs j b/\b<u.size\/j=a/\v4.size<=b/\b<v5.size,by simp[h1],.inl R,?_,λj b d=>?_,λj W b d g=>?_,λj s2 ys D C=>?_⟩
 ·rw[uh];exact g
 ·rcases d with d|d
  ·exact⟨.inl (A j b d.1).1,(A j b d.1).2⟩
  ·exact⟨.inr O,O⟩
 ·rcases d with d|d<;>rcases g with g|g
  ·exact N j W b d.1 g.1
  ·omega
  ·omega
  ·omega
 ·by_cases hja:j=a
  ·subst hja;rw[zJ O]at D;rw[zJ G]at C;cases D;cases C;have:=(dF.loc _ _ _).bS ((dF.loc _ _ _).cut J) F λb _ d r=>by
    rcases d.1 with h7|h7
    ·exact(A j b h7.1).2 r
    ·omega
   have V:Wx (xs++[y])=Wx xs++[.int .i64 y]:=by simp[Wx]
   rw[V];refine(dF.loc _ _ _).mono this λb _ d=>?_;rcases d.1 with h7|h7
   ·exact .inl h7
   ·exact .inr ⟨rfl,h7,d.2⟩
  ·rw[ze (Ne.symm hja)]at D C;have:=(dF.loc _ _ _).cut (S j s2 ys D C);have:=(dF.loc _ _ _).bS ((dF.loc _ _ _).bS ((dF.loc _ _ _).bO this e) E λb _ d r=>hja (N j a b d.1 r.1)) F λb _ d r=>(A j b d.1).2 r;exact(dF.loc _ _ _).mono this λb _ d=>.inl d
theorem lS.get (h:lS pb parts u Q){a m:Nat}(hm:m=parts.length)(ha:parts[a]?=some xs){K:Sl->Prop}(hK:∀s,dF s 1 (Wx xs) u Q->s.len=xs.length->K s):Ix (some ⟨pb,0,none⟩) m (a:Int) 1 λa1=>ja a1 u K:=by
 obtain⟨g,Qs,y,x,p,w,z,j⟩:=h;have r:=(cX.1 ha).1;have e:g[a]?=some (g[a]' O):=cW _;generalize (g[a]' O)=s at e;have d:=j a s xs e ha;refine ix O O ?_;rw[add_lit,show 0+(a:Int).toNat*1=a by omega];refine p.sJ (a:=s.a) (n:=s.len) (c:=s.cap) (by simp[e,sV]) (hK s ((dF.loc _ _ _).mono d λb _ i=>(w a b i).1) ?_);have:=d.1;simp[Wx]at this;omega
theorem GB {bV:List AR}{x:Int}(h:0<=Yf bV x):(Yf bV x).toNat<bV.length/\Yf bV x=((Yf bV x).toNat:Int):=by
 refine⟨?_,O⟩;unfold Yf at *;split at h
 ·omega
 ·rename_i hx;rw[zB hx];split at h
  ·rename_i i hi;have:=(List.findIdx?_eq_some_iff_findIdx_eq.1 hi).1;simp only[dC];exact this
  ·omega
theorem J5 {bV:List AR}{x:Int}{xs:List Int}(h:0<=Yf bV x):((List.range bV.length).map (Zv bV xs)).set (Yf bV x).toNat (Zv bV xs (Yf bV x).toNat++[x])=(List.range bV.length).map (Zv bV (xs++[x])):=by
 have a:=GB h;apply zm;intro j;by_cases hj:j<bV.length
 ·by_cases e:(Yf bV x).toNat=j
  ·subst e;rw[zJ (by simpa using hj)];simp only[zd,mw hj,zc,Zv,wL]
   congr 2
   rw[wA (by rw[←a.2];simp)];rfl
  ·rw[ze e];simp only[zd,mw hj,zc,Zv,wL];have:List.filter (λy=>Yf bV y==(j:Int)) [x]=[]:=by
    rw[wO (by simp only[zV];omega)];rfl
   rw[this,lF]
 ·rw[zT aE,zT aE]
theorem KB {K:aO}{body:(Bool->Hp->Prop)->Prop}(P:aO)(h1:∀r w,P r w->K r w)(h2:∀J:Bool->Hp->Prop,(∀r w,P r w->J r w)->body J):bR K body:=bR.intro (h2 K h1)
theorem xD {K:eH [.b]}{body:eH [.b]->Prop}(P:aO)(h1:∀r w,P r w->K r w)(h2:∀J:eH [.b],(∀r w,P r w->J r w)->body J):Jn [.b] K body:=Jn.intro (h2 K h1)
theorem r9 {K:eH []}{body:eH []->Prop}(P:aP)(h1:∀w,P w->K w)(h2:∀J:eH [],(∀w,P w->J w)->body J):Jn [] K body:=Jn.intro (h2 K h1)
theorem KA {H:Hw}{k:Nat}{part:Nat->List Int}(j:Nat):Kz H k part (List.range (j+1))=(match (Kz H k part (List.range j)).bV[j]? with
 | some A=>if part j=[]then Kz H k part (List.range j)else(Kz H k part (List.range j)).cC j (Zl A (k:Int) (part j))
 | none=>Kz H k part (List.range j)):=by
 unfold Kz;rw[pN,tH];rfl
theorem Jf {H:Hw}{k:Nat}{part:Nat->List Int}(j:Nat):(Kz H k part (List.range j)).bV.length=H.bV.length:=by
 induction j with
 | zero=>rfl
 | succ j ih=>
  rw[KA];split
  ·split
   ·exact ih
   ·simp[Hw.cC,ih]
  ·exact ih
theorem LH {H:Hw}{k:Nat}{part:Nat->List Int}(j:Nat):(Kz H k part (List.range j)).bQ=H.bQ:=by
 induction j with
 | zero=>rfl
 | succ j ih=>
  rw[KA];split
  ·split<;>exact ih
  ·exact ih
theorem G6 (H:Hw)(own k:Nat)(xs:List Int):(UV H own k xs).bQ=H.bQ:=by
 unfold UV;split
 ·split
  ·rfl
  ·rw[LH];split<;>rfl
 ·rfl
def Aj (F:Rg)(U:Hp)(L:dP)(H:Hw)(pb:Nat)(parts:List (List Int))(cs:List Value)(w:Hp):Prop:=∃Q P:Rg,HK F U (λb=>b=U.size\/Q b) w P L H/\lS pb parts w Q/\bX w U.size cs/\∀b,Q b->b≠U.size
theorem No (h:HH U F L H){own:Nat}(ho:own<H.bV.length)(k:Nat){sl:Sl}{xs:List Int}{X:Rg}(hs:cT sl 1 (Wx xs) U X)(hX:∀b,b<U.size->X b->¬F b)(hcap:sl.len<=sl.cap)(hx:∀x∈xs,iu x/\0<=Yf H.bV x)(hl:xs.length<=1000000){R:aP}
 (hR:∀σ',Ext F U σ'->HH σ' (Grow F U) L (UV H own k xs)->R σ'):Zf.c (aW L.p) (own:Int) (k:Int) sl U R:=by
 refine Zf.o ?_;unfold Zf.v;have hsl:sl.len=xs.length:=by have:=hs.1;simp[Wx]at this;omega
 have ha2:=h.s.a2;have hal:=h.l5;have hs1:∀u,Ext F U u->cT sl 1 (Wx xs) u (λb=>X b/\b<U.size):=λu eu=>aH.bS (aH.cut hs) eu λb _ hx hf=>hX b hx.2 hx.1 hf;refine nw (cs:=[.int .i64 (k:Int),.slice sl.a sl.len sl.cap]) λv hz e d=>?_;have K1:=(HK.start h).box e hz;refine aG (K1.h.hd.rS rfl ?_);simp only;refine mk (n:=L.fI.len) O O λv1 ae e1 hb1=>?_;have K2:=K1.box e1 ae;have hb2:=e1.bU d id;have S:lS v.size ((List.range H.bV.length).map (Zv H.bV [])) v1 (λb=>b=v.size):=by
  refine⟨List.replicate H.bV.length ⟨none,0,0⟩,λ_ _=>False,by simp,rfl,?_,λj b d=>d.elim,λj j' b d=>d.elim,λj s ys g h2=>?_⟩
  ·have:(List.replicate L.fI.len [Value.slice none 0 0]).flatten=(List.replicate H.bV.length (⟨none,0,0⟩:Sl)).map sV:=by
    rw[hal];simp[sV]
   rw[←this];exact hb1
  ·simp only[zd,nT]at h2;obtain⟨a,_,rfl⟩:=h2;simp only[lJ]at g;split at g
   ·cases g;exact dF.nil _ _ _ _
   ·cases g
 have hpl:∀ys:List Int,L.fI.len=((List.range H.bV.length).map (Zv H.bV ys)).length:=λys=>by simp[hal]
 refine hb2.rS rfl ?_;refine Z5 (a:=bN) (λ(z:Int) w=>∃i:Nat,z=(i:Int)/\i<=xs.length/\Aj F U L H v.size ((List.range H.bV.length).map (Zv H.bV (xs.take i))) [.int .i64 (k:Int),.slice sl.a sl.len sl.cap] w) (λz _=>xs.length-z.toNat)
  ⟨0,rfl,O,λb=>b=v.size,_,⟨K2.h,K2.e,λb d=>⟨(K2.p b d).1,λhx=>(K2.p b d).2.1 (hx.imp .inr id),(K2.p b d).2.2⟩,λb d=>K2.b b (d.imp .inr id),K2.o⟩,S,hb2,λb d=>O⟩ ?_
 rintro z w ⟨i,rfl,hi,Q,P,K,S,C,hQ⟩;refine cR (λE=>?_) λhge=>?_
 ·simp only at E;have hi':i<xs.length:=by omega
  have aa:xs[i]?=some xs[i]:=cW hi';generalize xs[i]=y at aa;have hy:=hx y (zG aa);refine(hs1 w K.e).od aa (GZ K.h y hy.1 λZ e1=>?_);have E:=GB hy.2;rw[E.2];have hP1:lS v.size _ Z (λb=>Q b/\b<w.size):=(lS.loc _ _).bO ((lS.loc _ _).cut S) e1;have ad:((List.range H.bV.length).map (Zv H.bV (xs.take i)))[(Yf H.bV y).toNat]?=some (Zv H.bV (xs.take i) (Yf H.bV y).toNat):=by
   simp only[zd,mw E.1,zc]
  have hpl1:(Zv H.bV (xs.take i) (Yf H.bV y).toNat).length<=1000000:=by
   have:=sD (λx=>Yf H.bV x==(((Yf H.bV y).toNat:Nat):Int)) (xs.take i);simp only[Zv];rw[zZ]at this;omega
  refine hP1.add (hpl _) ad y hpl1 λw2 e2 hP2=>?_;rw[J5 hy.2]at hP2;have ht:xs.take i++[y]=xs.take (i+1):=by rw[lj,aa];rfl
  rw[ht]at hP2;have ae:=e1.1;have hz2:=e2.1;refine cQ (m:=i+1) O O ⟨⟨i+1,rfl,O,λb=>(Q b/\b<w.size)\/Z.size<=b/\b<w2.size,P,(K.fr e1).yL (e2.sub λb d=>.inr d.1) λb d=>?_,(lS.loc _ _).mono hP2 λb d M=>?_,?_,λb d=>?_⟩,O⟩
  ·rcases d with d|d|d
   ·exact .inl (.inl d)
   ·exact .inl (.inr d.1)
   ·exact .inr d
  ·rcases M with M|M
   ·exact .inl M
   ·exact .inr ⟨M,d⟩
  ·exact e2.bU (e1.bU C id) λhx=>hQ _ hx.1 rfl
  ·have:=(K.b U.size (.inl rfl)).2;rcases d with d|d
   ·exact hQ b d.1
   ·omega
 ·have hii:i=xs.length:=by simp only at hge;omega
  subst hii;rw[mX]at S;obtain⟨A,hA⟩:∃A,H.bV[own]?=some A:=⟨_,cW ho⟩;obtain⟨Y,hY,_,_⟩:=h.ar hA;have G:UV H own k xs=(if(Zv H.bV xs own).length=xs.length/\KE A (k:Int) xs=true then H.cC own (QL A (k:Int) xs)
   else Kz (if(Zv H.bV xs own).length=xs.length then H.cC own (QL A (k:Int) xs)else H) k (Zv H.bV xs) (List.range H.bV.length)):=by
   unfold UV;rw[hA]
  have hown:((List.range H.bV.length).map (Zv H.bV xs))[own]?=some (Zv H.bV xs own):=by
   simp only[zd,mw ho,zc]
  refine r9 (λw=>¬((Zv H.bV xs own).length=xs.length/\KE A (k:Int) xs=true)/\Aj F U L (if(Zv H.bV xs own).length=xs.length then H.cC own (QL A (k:Int) xs)else H) v.size ((List.range H.bV.length).map (Zv H.bV xs)) [.int .i64 (k:Int),.slice sl.a sl.len sl.cap] w) (λw hw=>?_) λJ hJ=>?_
  ·obtain⟨hno,hw⟩:=hw;rw[zB hno]at G;generalize hH1:(if(Zv H.bV xs own).length=xs.length then H.cC own (QL A (k:Int) xs)else H)=H1 at hw G
   have hH1l:H1.bV.length=H.bV.length:=by
    rw[←hH1];split
    ·simp[Hw.cC]
    ·rfl
   refine Z5 (a:=bN) (λ(z:Int) w=>∃j:Nat,z=(j:Int)/\j<=H.bV.length/\Aj F U L (Kz H1 k (Zv H.bV xs) (List.range j)) v.size ((List.range H.bV.length).map (Zv H.bV xs)) [.int .i64 (k:Int),.slice sl.a sl.len sl.cap] w) (λz _=>H.bV.length-z.toNat) ⟨0,rfl,O,hw⟩ ?_;rintro z w ⟨j,rfl,hj,Q,P,K,S,C,hQ⟩;refine cR (λE=>?_) λhge=>?_
   ·simp only at E;have hj':j<H.bV.length:=by omega
    have hpj:((List.range H.bV.length).map (Zv H.bV xs))[j]?=some (Zv H.bV xs j):=by
     simp only[zd,mw hj',zc]
    refine S.get (hpl _) hpj λs V W=>?_;have hfl:=Jf (H:=H1) (k:=k) (part:=Zv H.bV xs) j;obtain⟨B,hB⟩:∃B,(Kz H1 k (Zv H.bV xs) (List.range j)).bV[j]?=some B:=⟨_,cW O⟩;have D:=KA (H:=H1) (k:=k) (part:=Zv H.bV xs) j;rw[hB]at D;simp only at D;refine cR (λhpos=>?_) λhz0=>?_
    ·have N:Zv H.bV xs j≠[]:=λe=>by rw[e]at W;simp at W;omega
     rw[zB N]at D;obtain⟨Y,hY,_,_⟩:=K.h.ar hB;refine aG (K.h.hd.rS rfl (K.h.rA hY (C.rI rfl ?_)));refine M9 K.h hB hY (k:Int) (dF.ig V) (λb _ M hp=>(K.p b hp).2.1 (.inr M)) (λx hx'=>(hx x (zI.1 hx').1).1) ?_ (dF.cap V) λZ e1 g=>?_
     ·have:=sD (λx=>Yf H.bV x==(j:Int)) xs;simp only[Zv];omega
     ·have ae:=e1.1;rw[←D]at g;refine cQ (m:=j+1) O O ⟨⟨j+1,rfl,O,Q,_,K.to e1 g λb _ d=>d,(lS.loc _ _).bS S e1 λb _ M hp=>(K.p b hp).2.1 (.inr M),K.cP e1 C (.inl rfl),hQ⟩,O⟩
    ·have N:Zv H.bV xs j=[]:=ya O;rw[zC N]at D;refine cQ (m:=j+1) O O ⟨⟨j+1,rfl,O,Q,P,by rw[D];exact K,S,C,hQ⟩,O⟩
   ·have hjj:j=H.bV.length:=by simp only at hge;omega
    subst hjj;rw[G]at hR;exact hR w K.e (K.fin h)
  ·refine S.get (hpl _) hown λs V W=>C.rS rfl ?_;refine cY (λheq=>?_) λN=>?_
   ·have ab:(Zv H.bV xs own).length=xs.length:=by simp only[zV]at heq;omega
    rw[zC ab]at G hJ;have hS:mj (λu=>(∃P' H',HH u P' L H'/\H'.tb=H.tb)/\bX u U.size [.int .i64 (k:Int),.slice sl.a sl.len sl.cap]) L H.tb:=λm hm=>by
     obtain⟨⟨P',H',g,h2⟩,_⟩:=hm;exact⟨P',L.ts,H',g,h2⟩
    refine⟨λu=>(∃P' H',HH u P' L H'/\H'.tb=H.tb)/\bX u U.size [.int .i64 (k:Int),.slice sl.a sl.len sl.cap],⟨⟨_,_,K.h,rfl⟩,C⟩,aG (hS.fI (hS.rA K.h hY ?_))⟩;refine⟨(k:Int),λm hm=>by rw[add_lit,hm.2.cell];rfl,⟨sl,λm hm=>by rw[add_lit,hm.2.cell];rfl,?_⟩⟩;refine Ff K.h hA hY (k:Int) (hs1 w K.e) (λx hx'=>(hx x hx').1) λZ e1 g=>?_;have K1:=K.to e1 g λb _ d=>d;refine⟨⟨⟨_,_,g,rfl⟩,K.cP e1 C (.inl rfl)⟩,?_⟩;have fin:∀r,r=KE A (k:Int) xs->((r=true->R Z)/\(r=false->J Z)):=λr hr=>by
     refine⟨λhr1=>?_,λhr1=>hJ Z ⟨λhx=>Bool.noConfusion ((hr1.symm.trans hr).trans hx.2),Q,_,K1,(lS.loc _ _).bS S e1 λb _ M hp=>(K.p b hp).2.1 (.inr M),K.cP e1 C (.inl rfl),hQ⟩⟩;rw[zC ⟨ab,by rw[←hr,hr1]⟩]at G;rw[G]at hR;exact hR Z K1.e (K1.fin h)
    refine KB (λr w=>w=Z/\r=KE A (k:Int) xs) (λr w' ⟨hw,hr⟩=>?_) λJ3 hJ3=>?_
    ·subst hw;exact cY (λg=>(fin r hr).1 g) λg=>(fin r hr).2 g
    ·refine cY (λg=>hJ3 _ _ ⟨rfl,?_⟩) λg=>hJ3 _ _ ⟨rfl,g.symm⟩;have:UB A (k:Int) xs=0:=by
      unfold KE at g;simp only[zE,zS]at g;exact g.1
     rw[this,g];rfl
   ·have ac:¬(Zv H.bV xs own).length=xs.length:=by
     simp only[lM]at N;omega
    rw[zB ac]at hJ;exact hJ w ⟨λhx=>ac hx.1,Q,P,K,S,C,hQ⟩
theorem fY {w:Hp}(K:HK F U B w P L H)(hB:B n){p q:Int}(hb:bX w n [.int .i64 p,.int .i64 q]){x y:Int}{K':Int->Int->Hp->Prop}(hK:∀w',HK F U B w' P L H->K' x y w') :
 eP (Addr.add ⟨n,0,none⟩ 0) (.int .i64 x) w λv3=>eP (Addr.add ⟨n,0,none⟩ 1) (.int .i64 y) v3 λv4=>gP .i64 (Addr.add ⟨n,0,none⟩ 0) v4 λres=>gP .i64 (Addr.add ⟨n,0,none⟩ 1) v4 λn4=>K' res n4 v4:=
 hb.s1 aA λv3 o3 b=>b.s1 aA λv4 o4 a=>a.rI rfl (a.rI rfl (hK v4 ((K.own o3 hB).own o4 hB)))
theorem Nr (h:HH U F L H)(ht:t<H.bQ.length)(x:Int)(hx:iu x)(hr:bY H.live x=none->∀A∈H.bV,iw A)(hlen:∀g,H.bQ[t]?=some g->g.bP.length<=1000)(h0:∀b,bY H.live x=some b->0<=x){R:Value->Int->Int->Hp->Prop}
 (hR:∀σ' ts',Ext F U σ'->HH σ' (Grow F U) {L with ts:=ts'} (Uq H t x).1->R (l6 (Uq H t x).2.1) (Uq H t x).2.2.1 (Uq H t x).2.2.2 σ'):Ze.c (aW L.p) (t:Int) x U R:=by
 refine Ze.o ?_;unfold Ze.v;refine nw (cs:=[.int .i64 0,.int .i64 0]) λv hz e hb=>?_;have K1:=(HK.start h).box e hz;refine aG (K1.h.hd.rM rfl ⟨_,K1.h.mc,?_⟩);refine nw (cs:=[.int .i64 0,.int .i64 0,.int .i64 0,.int .i64 0]) λv1 hz1 e1 hb1=>?_;have K2:=K1.box e1 hz1;have hbv:=e1.bU hb id;have m:U.size≠v.size:=by omega
 refine hb1.s1 aA λv2 o2 b2=>b2.s1 aA λv3 o3 b3=>b3.s1 aA λv4 o4 b4=>b4.s1 aA λv5 o5 b5=>?_;have K5:=(((K2.own o2 (.inr rfl)).own o3 (.inr rfl)).own o4 (.inr rfl)).own o5 (.inr rfl);have G:=Wr o5 (Wr o4 (Wr o3 (Wr o2 hbv m) m) m) m;have hL:L = {L with ts:=L.ts}:=rfl;cases hm:bY H.live x with
 | none=>
  have hno:Uq H t x=(H,none,0,kL H x):=by unfold Uq;rw[hm]
  rw[hno]at hR;simp only at hR;refine cB rfl ?_;refine r9 (λw=>kL H x=8/\bK v5 w) (λw ⟨h8,ew⟩=>?_) λJ hJ=>?_
  ·rw[h8]at hR;exact fY (n:=U.size) (K5.fr ew) (.inl (.inr rfl)) (ew.bU G id) λD K'=>hR D L.ts K'.e (K'.fin h)
  ·refine GZ K5.h x hx λv9 N=>?_;have K9:=K5.fr N;have hb9:=N.bU G id;refine cR (λV=>?_) λhlt=>hJ v9 ⟨zB O,N⟩;have W:=GB V;obtain⟨A,hA⟩:∃A,H.bV[(Yf H.bV x).toNat]?=some A:=⟨_,cW W.1⟩;obtain⟨Y,hY,_,hAY⟩:=K9.h.ar hA;have a:kL H x=(match Uj A x with
    | some (k,y)=>if 0<=k/\(y:Int)=x then(9:Int)else 8
    | none=>8):=by unfold kL;rw[zC V,hA];rfl
   rw[W.2];refine aG (K9.h.hd.rS rfl (K9.h.rA hY ?_));refine IG hAY (hr hm A (zG hA)) x hx (λE k y i hf=>?_) λE i hf=>?_
   ·rw[hf]at a;simp only at a;rw[a]at hR hJ;have K10:=K9.fr i;have Z:=i.bU hb9 id;refine KB (λr w=>w=E/\r=decide (0<=k)) (λr w ⟨S,d⟩=>?_) λJ1 B=>?_
    ·subst S;subst d;refine KB (λr w2=>w2=w/\r=decide (0<=k/\(y:Int)=x)) (λr w2 ⟨S,d⟩=>?_) λJ2 aa=>?_
     ·subst d;rw[S];refine cR (λC=>?_) λC=>?_
      ·rw[zC C]at hR;exact fY (n:=U.size) K10 (.inl (.inr rfl)) Z λD K'=>hR D L.ts K'.e (K'.fin h)
      ·exact hJ w ⟨zB C,N.trans i⟩
     ·refine cR (λC=>aa _ _ ⟨rfl,?_⟩) λC=>aa _ _ ⟨rfl,?_⟩
      ·by_cases hyx:(y:Int)=x
       ·rw[zK (⟨C,hyx⟩:0<=k/\(y:Int)=x),zV.2 hyx]
       ·rw[zM (λhx=>hyx hx.2),lM.2 hyx]
      ·rw[zM (λhx=>C hx.1)]
    ·exact cB rfl (B _ _ ⟨rfl,rfl⟩)
   ·rw[hf]at a;simp only at a;rw[a]at hJ;refine KB (λr w=>w=E/\r=false) (λr w ⟨S,d⟩=>?_) λJ1 B=>cE rfl (B _ _ ⟨rfl,rfl⟩);subst S;subst d;exact bR.intro (cE rfl (cE rfl (hJ w ⟨rfl,N.trans i⟩)))
 | some b=>
  have hb0:=h0 b hm;have hfd:Uq H t x=(if b.2.2.1<0 then({H with live:=di H.live x},some (.dA (x/256) b.2.2.2),0,0)
   else(Qq {H with live:=di H.live x} t b.2.2.1.toNat [x],some (.put b.2.2.1.toNat x),0,0)):=by unfold Uq;rw[hm]
  rw[hfd]at hR;have hgb:(bY H.live x).getD ((0,0,0,0):Bk)=b:=by rw[hm];rfl
  rw[hgb]at b5;refine cE rfl ?_;refine aG (K5.h.hd.rM rfl ?_);obtain⟨hF,P⟩:=K5.h.qk;refine⟨_,K5.h.mc,λv6 o6 _ hm6=>?_⟩;obtain⟨e6,h6⟩:=P v6 _ (o6 _ rfl) hm6;have K6:=K5.to e6 h6 λb _ hb=>.inl hb;have Q:=K5.cP e6 G (.inl (.inr rfl));have s:=K5.cP e6 b5 (.inr rfl);refine s.rI rfl (cR (λX=>?_) λhnn=>?_)
  ·have z:b.2.2.1<0:=X;rw[zC z]at hR;refine nz aB (ar (by rw[Yi O];omega) (by rw[Yi O];unfold iu at hx;omega) (s.rI rfl ?_));rw[Yi O];exact fY (n:=U.size) K6 (.inl (.inr rfl)) Q λD K'=>hR D L.ts K'.e (K'.fin h)
  ·have K:¬b.2.2.1<0:=hnn;rw[zB K]at hR;refine s.rI rfl (nw (cs:=[.int .i64 x]) λv7 hz7 e7 hb7=>?_);have K7:=K6.box e7 hz7;have M:=e7.bU Q id;have hc7:=e7.bU s id;have ab:b.2.2.1=((b.2.2.1.toNat:Nat):Int):=by omega
   have hs7:cT ⟨some ⟨v6.size,0,none⟩,1,1⟩ 1 (Wx [x]) v7 (· = v6.size):=hb7.ig (o:=0) rfl rfl λj hj=>by rw[zH];rfl
   have hz6:=K6.e.1;rw[ab];refine HM K7.h (t:=t) ht b.2.2.1.toNat hs7 (zD _) aA (λq _ u hp=>(K7.p q hp).2.1 (.inr u)) (K7.o.1.sub λq u=>O) (λu=>K7.o.2 O) hlen λv8 ts8 e8 h8=>?_;have K8:=(K6.fr e7).rY e8 h8 λq hql u=>by
    rcases u with u|u
    ·exact u.imp id .inl
    ·refine .inr (.inr ⟨.inr O,λhB=>?_⟩);have:=(K6.b q hB).2;omega
   have hb8:=K7.cP e8 M (.inl (.inl (.inr rfl)));have hc8:=K7.cP e8 hc7 (.inl (.inr rfl));refine hc8.rI (x:=((b.2.2.1.toNat:Nat):Int)) (by rw[←ab];rfl) ?_;exact fY (n:=U.size) K8 (.inl (.inr rfl)) hb8 λD K'=>hR D ts8 K'.e (K'.fin h)
end Go.Ar
namespace Go.Ar
open Go Go.Vc Go.Proofs
variable {U u u':Hp}{F B P Q:Rg}{L:dP}{H H':Hw}{t k n pb:Nat}{A:AR}{Y:Lay}{x:eC}{g:Th}{c:bZ}{l:Li}{cs:List Value}
theorem qq {t' t:TypeId}{w:Value}{A B:Prop}(hne:t'≠t)(h:B):∃is:Bool,jL (.iface t' w) t [] [] is/\If is A B:=⟨false,⟨rfl,.inr ⟨_,_,rfl,hne⟩⟩,cE rfl h⟩
theorem kq {t' t:TypeId}{w:Value}{A B:Int->Prop}(hne:t'≠t)(h:B 0):∃x:Int,∃is:Bool,jL (.iface t' w) t [.int .i64 x] [.int .i64 0] is/\If is (A x) (B x):=⟨0,false,⟨rfl,.inr ⟨_,_,rfl,hne⟩⟩,cE rfl h⟩
theorem iR {t' t:TypeId}{w:Value}{A B:Int->Int->Prop}(hne:t'≠t)(h:B 0 0):∃x:Int,∃y:Int,∃is:Bool,jL (.iface t' w) t [.int .i64 x,.int .i64 y] [.int .i64 0,.int .i64 0] is/\If is (A x y) (B x y):=⟨0,0,false,⟨rfl,.inr ⟨_,_,rfl,hne⟩⟩,cE rfl h⟩
theorem yv {t:TypeId}{A B:Prop}(h:A):∃is:Bool,jL (.iface t (.agg #[])) t [] [] is/\If is A B:=⟨true,rfl,cB rfl h⟩
theorem Ay {t:TypeId}{a:Int}{A B:Int->Prop}(h:A a):∃x:Int,∃is:Bool,jL (.iface t (.agg #[.int .i64 a])) t [.int .i64 x] [.int .i64 0] is/\If is (A x) (B x):=⟨a,true,rfl,cB rfl h⟩
theorem ux {t:TypeId}{a b:Int}{A B:Int->Int->Prop}(h:A a b):∃x:Int,∃y:Int,∃is:Bool,jL (.iface t (.agg #[.int .i64 a,.int .i64 b])) t [.int .i64 x,.int .i64 y] [.int .i64 0,.int .i64 0] is/\If is (A x y) (B x y):=⟨a,b,true,rfl,cB rfl h⟩
theorem HH.tc (h:HH u P L H)(hx:L.ts[t]?=some x)(hg:H.bQ[t]?=some g){b o:Nat}(ha:L.cN.a=some ⟨b,o,none⟩){d:Nat}(hd:d<3){v:Value}(hv:(jg (x,g))[d]?=some v):cell u (Addr.add ⟨b,o+3*t,none⟩ d)=some v:=by
 obtain⟨j,m,e,i⟩:=Ge h.mh hx hg hd hv;rw[ha]at e;cases e;rw[add_lit,show o+3*t+d=o+(3*t+d) by omega];exact i
theorem HH.uk (h:HH u P L H)(hP:∀b,P b->b<u.size)(hx:L.ts[t]?=some x)(hg:H.bQ[t]?=some g)(N:Rg)(hN:∀b,b<u.size->P b->¬N b)(oN:iC N)(oN2:¬N 1) :
 ∃G D:Rg,(∀b,G b->P b)/\(∀b,D b->P b)/\(∀b,G b->¬D b)/\gY x.h g.bP u G/\(∀u1,Ext G u u1->cT L.cN 3 (gF L.ts H.bQ) u1 D) ∧
 ∀(u1:Hp) (s:Sl) (bs:List Bt) (G':Rg),Ext G u u1->(∀b,G' b->G b\/N b)->gY s bs u1 G'->∀{b o:Nat} (ha:L.cN.a=some ⟨b,o,none⟩) {K:aP},
  (∀u2,Ext D u1 u2->HH u2 (λb=>P b/\¬G b\/G' b/\b<u1.size) {L with ts:=L.ts.set t {x with h:=s}} {H with bQ:=H.bQ.set t {g with bP:=bs}}->K u2) →
  eP (Addr.add ⟨b,o+3*t,none⟩ 1) (.slice s.a s.len s.cap) u1 K:=by
 have V:=h.k6;have M:=U2 h.s.ts;have Q:=(cX.1 hg).1;obtain⟨G,D,C,y,hd,F,E,_,p⟩:=h.qj hx hg N hN oN oN2;have r:∀u1,Ext G u u1->bW L.cN 3 (gF L.ts H.bQ) u1 D:=λu1 e=>aI.bS E e λb _ d hx=>hd b hx d;refine⟨G,D,C,y,hd,F,λu1 e=>bW.ig (r u1 e),λu1 s bs G' e i B b o ha K U=>?_⟩;have R:o=0:=by
  rcases E.2 with⟨h0,_⟩|⟨J,_,_,ha',_⟩
  ·omega
  ·rw[ha]at ha';cases ha';rfl
 subst R;have m:∀b,G' b->¬D b:=λb d hx=>by
  rcases i b d with h1|h1
  ·exact hd b h1 hx
  ·exact hN b (hP b (y b hx)) (y b hx) h1
 refine(r u1 e).st (j:=3*t+1) O (λJ w=>by rw[ha]at w;cases w;rw[add_lit];congr 1;omega) λu2 e2 A=>?_;have z:=(gY.loc _ _).bS ((gY.loc _ _).cut B) e2 λb _ d hx=>m b d.1 hx;obtain⟨W,S⟩:=p u2 s bs (Cut G' u1) D ((e.sub λb d=>.inl d).trans (e2.sub λb d=>.inr d)) (λb d=>(i b d.1).imp .inl id) (λb d=>.inl (.inr d)) (λb d=>m b d.1) z A;refine U u2 e2 (S.mono (λb _ d=>?_) (λb (d:P b/\¬G b\/G' b/\b<u1.size)=>?_) λ(d:P _/\¬G _\/G' _/\_<u1.size)=>?_)
 ·rcases d with d|d|d
  ·exact .inl ⟨d.1,λhx=>d.2.2 (.inl hx)⟩
  ·exact .inr d
  ·exact .inl ⟨y b d,λhx=>hd b hx d⟩
 ·rcases d with d|d
  ·exact h.o b d.1
  ·exact(i b d.1).elim (λhx=>h.o b (C b hx)) (oN b)
 ·rcases d with d|d
  ·exact h.o2 d.1
  ·exact(i _ d.1).elim (λhx=>h.o2 (C _ hx)) oN2
theorem gY.lr {s:Sl}{G:Rg}{xs:List Int}{r:List Bt}(h:gY s ((k,xs)::r) u G):∃(so:Sl) (ps:List (Nat×Sl)) (D:Rg),dF s 2 (eV ((k,so)::ps)) u (λb=>G b/\¬D b)/\cT so 1 (Wx xs) u (λb=>D b/\j9 so b)/\so.len<=so.cap/\jS ps r u (λb=>D b/\¬j9 so b)/\(∀b,D b->G b)/\sg ps/\(∀x∈r,x.2≠[])/\xs≠[]:=by
 obtain⟨ps,D,e,j,F,M,g⟩:=h;cases ps with
 | nil=>have:=j.1;simp at this
 | cons p ps=>
  obtain⟨K,so⟩:=p;obtain⟨e1,y,z⟩:=j.2 0 (K,so) (k,xs) rfl rfl;simp only at e1 y z;subst e1;have d:=qd.1 M;refine⟨so,ps,D,e,y.lh,z,⟨by have:=j.1;simpa using this,λi p x w m=>?_⟩,F,d.2,λx m=>g x (ou _ m),g _ qs⟩;obtain⟨B,J,C⟩:=j.2 (i+1) p x (by simpa using w) (by simpa using m);refine⟨B,aH.mono J.lh λb _ A=>⟨A.1,?_⟩,C⟩;rintro⟨a,h1,h2⟩;obtain⟨L,E,H⟩:=A.2;exact d.1 p (zG w) a L h1 E (h2.trans H.symm)
theorem gY.la {s:Sl}{G:Rg}{b:Bt}{r:List Bt}(h:gY s (b::r) u G):gY ⟨if s.cap=1 then s.a else s.a.map (·.add (1*2)),s.len-1,s.cap-1⟩ r u G:=by
 have g:=h.len;obtain⟨k,A⟩:=b;obtain⟨B,p,D,d,x,z,i,j,w,e,y⟩:=h.lr;exact⟨p,D,d.from (lo:=1) (by simp at g;omega),(jS.loc _ _).mono i λb _ m=>m.1,j,w,e⟩
theorem Dq {s so:Sl}{ps:List (Nat×Sl)}{G:Rg}(h:cT s 2 (eV ((k,so)::ps)) u G){K:Addr->Prop}(hK:∀a,cell u (Addr.add a 0)=some (.int .i64 (k:Int))->cell u (Addr.add a 1)=some (.slice so.a so.len so.cap)->K a):Ix s.a s.len 0 2 K:=by
 obtain⟨b,o,i,m⟩:=h.cell (j:=0) (v:=.int .i64 (k:Int)) rfl;obtain⟨p,r,d,e⟩:=h.cell (j:=1) (v:=.slice so.a so.len so.cap) rfl;have g:=h.1;rw[Kg]at g;simp only[zW]at g;rw[i]at d;cases d;rw[i];refine ix O O ?_;rw[add_lit];exact hK _ (by rw[add_lit];exact m) (by rw[add_lit];exact e)
theorem gY.app {s s2:Sl}{G Q:Rg}{bs bs2:List Bt}{e:Nat}(h:gY s bs u G)(h2:gY s2 bs2 u Q)(hd:∀b,G b->¬Q b)(hl:bs.length+bs2.length<=1000){K:Sl->Hp->Prop}
 (hK:∀s' u',Ext G u u'->gY s' (bs++bs2) u' (λb=>G b\/Q b\/u.size<=b)->K s' u'):App s 2 32 e [.int .i64 0,.slice none 0 0] s2 u K:=by
 have l1:=h.len;have l2:=h2.len;obtain⟨R,D,y,F,N,E,z⟩:=h;obtain⟨H,D2,A,m,r,X,w⟩:=h2;by_cases h0:s2.len=0
 ·have P:bs2=[]:=ya O;subst P;refine y.Aw h0 (by
   have:s.len*32<=1000*32:=lp (by simp at hl;omega) O;omega) (by simp at hl;omega) λW=>hK _ u (Ext.refl _ _) ?_
  rw[lF];exact⟨R,D,(dF.loc _ _ _).mono W λb _ d=>⟨.inl d.1,d.2⟩,F,λb d=>.inl (N b d),E,z⟩
 ·have e1:(s.len+s2.len)*32<=1000*32:=lp O O;refine((dF.loc _ _ _).cut y).app (ys:=eV H) rfl (by rw[Kg];have:=m.1;omega) A.ig.rd Uy O O O λs' u' _ L W=>hK s' u' (L.sub λb d=>d.1.1) ?_;have hz:=L.1;have V:=F.1;refine⟨R++H,λb=>D b/\b<u.size\/D2 b/\b<u.size,?_,⟨by simp[F.1,m.1],λi p x B g=>?_⟩,λb d=>?_,oE.2 ⟨E,X,λp B q hq a a' M S e3=>?_⟩,λx g=>(zL.1 g).elim (z x) (w x)⟩
  ·rw[Ui];refine(dF.loc _ _ _).mono W λb _ d=>?_;rcases d with d|d
   ·exact⟨.inl d.1.1,λg=>g.elim (λg=>d.1.2 g.1) λg=>hd b d.1.1 (r b g.1)⟩
   ·exact⟨.inr (.inr d),λg=>by rcases g with g|g<;>omega⟩
  ·rcases jX i R.length with C|C
   ·rw[zg C]at B;rw[zg O]at g;obtain⟨Y,U,Z⟩:=F.2 i p x B g;exact⟨Y,aH.mono (aH.bS (aH.cut U) L λb _ d g=>g.1.2 d.1) λb _ d=>.inl d,Z⟩
   ·rw[zn C]at B;rw[zn O,←V]at g;obtain⟨Y,U,Z⟩:=m.2 _ p x B g;exact⟨Y,aH.mono (aH.bS (aH.cut U) L λb _ d g=>hd b g.1.1 (r b d.1)) λb _ d=>.inr d,Z⟩
  ·rcases d with d|d
   ·exact .inl (N b d.1)
   ·exact .inr (.inl (r b d.1))
  ·obtain⟨i,C⟩:=zO B;obtain⟨j,E⟩:=zO hq;have hil:=(cX.1 C).1;have hjl:=(cX.1 E).1;have hy:bs[i]?=some (bs[i]' O):=cW _;have J:bs2[j]?=some (bs2[j]'(by have:=m.1;omega)):=cW _;have b1:=(F.2 i p _ C hy).2.1.bU (by simpa[Wx]using z _ (zG hy)) ⟨a,M,rfl⟩;have b2:=(m.2 j q _ E J).2.1.bU (by simpa[Wx]using w _ (zG J)) ⟨a',S,rfl⟩;rw[e3]at b1;exact hd _ (N _ b1.1) (r _ b2.1)
theorem HK.u6 (K:HK F U B u P L H){B':Rg}(h1:∀b,B' b->U.size<=b/\b<u.size/\¬P b):HK F U (λb=>B b\/B' b) u P L H:=
 ⟨K.h,K.e,λb a=>⟨(K.p b a).1,λg=>g.elim (K.p b a).2.1 λd=>(h1 b d).2.2 a,(K.p b a).2.2⟩,λb a=>a.elim (K.b b) λd=>⟨(h1 b d).1,(h1 b d).2.1⟩,K.o⟩
theorem Zj (hg:H.bQ[t]?=some g)(f:Th->Th):H.dQ t f = {H with bQ:=H.bQ.set t (f g)}:=by
 unfold Hw.dQ;rw[Kx hg]
theorem Hv (hg:H.bQ[t]?=some g):H.jJ t=g:=by unfold Hw.jJ;rw[zN,hg];rfl
theorem VB (hc:H.tb[k]?=some c):H.cls k=c:=by unfold Hw.cls;rw[zN,hc];rfl
theorem wE (hl:g.ls[k]?=some l):g.li k=l:=by unfold Th.li;rw[zN,hl];rfl
theorem wX (ha:H.bV[H.own t]?=some A):H.dZ t=A:=by unfold Hw.dZ;rw[zN,ha];rfl
theorem jB (h:HS L H)(t:Nat):H.own t<H.bV.length:=uG _ (by have:=h.a1;omega)
theorem HH.wY (h:HH u P L H)(hx:L.ts[t]?=some x)(hg:H.bQ[t]?=some g):g.ls.length=H.tb.length:=by
 obtain⟨G,_,a,_⟩:=h.ny hx hg;exact a.len
theorem DE (ha:H.bV[k]?=some A):H.cC k A=H:=by unfold Hw.cC;rw[Z1 ha]
theorem O4 (l:List Nat):ints l=Wx (l.map λ(x:Nat)=>(x:Int)):=by simp[ints,Wx]
theorem GJ (f:bZ->Li->List Int×Li)(tb:List bZ)(ls:List Li):(QO f tb ls).length<=tb.length:=by
 unfold QO;exact ky (List.length_filterMap_le _ _) aA
theorem HH.pv (h:HH u P L H):H.tb.length<=40:=by
 obtain⟨x,g,b,a⟩:=h.th (t:=0) h.s.t1;obtain⟨G,_,d,_⟩:=h.ny b a;exact d.mA
theorem Fc {s:Sl}{b o:Nat}(ha:s.a=some ⟨b,o,none⟩)(hl:0<s.len){K:Addr->Prop}(hK:K ⟨b,o+0,none⟩):Ix s.a s.len 0 1 K:=by
 rw[ha];exact ix (Int.le_refl _) O (by rw[add_lit];exact hK)
theorem EZ {s:Sl}{ps:List (Nat×Sl)}{G:Rg}(h:cT s 2 (eV ps) U G)(hl:s.len<=1000000){R:Sl->Hp->Prop}(hR:∀s' σ',s'.len=s.len->bK U σ'->bW s' 2 (eV ps) σ' (λb=>U.size<=b)->R s' σ'):Wp.c s U R:=by
 refine Wp.o ?_;unfold Wp.v;exact AB h O rfl Uy O hl hR
def sX (H:Hw)(t:Nat):Ph->Prop
 | .take k=>k<H.tb.length/\∀y l,QP (H.cls k) ((H.jJ t).li k)=(some y,l)->iu y
 | .cH k _=>k<H.tb.length/\(ZP (H.dZ t) (k:Int)=0->Yg (H.dZ t) (k:Int)≠[])
 | .cI _ _=>True
 | .grow _ _=>True
 | .fill=>∃k x xs r,(H.jJ t).bP=(k,x::xs)::r/\k<H.tb.length/\iu x/\((H.jJ t).li k).os.length+xs.length<=256
 | .eB m=>ZO (H.dZ t) H.sp (m:Int) 1<=1000000
 | .find x=>iu x/\(bY H.live x=none->∀A∈H.bV,iw A)/\∀b,bY H.live x=some b->0<=x
 | .put k _=>k<H.tb.length/\(H.jJ t).bP≠[]
 | .back=>∃k xs r,(H.jJ t).bP=(k,xs)::r/\(∀x∈xs,iu x/\0<=Yf H.bV x)/\xs.length<=1000000
 | .dA _ a=>0<=a/\a.toNat<H.bV.length/\∀A∈H.bV,∀r∈A.runs,r.1<=1000000
 | .drain=>True
def Fj (U:Hp)(F:Rg)(L:dP)(o:qR)(R:Value->Int->Int->Hp->Prop):Prop:=∀σ' ts',Ext F U σ'->HH σ' (Grow F U) {L with ts:=ts'} o.1->R (l6 o.2.1) o.2.2.1 o.2.2.2 σ'
set_option maxRecDepth 8000 in
theorem IQ (hso:Hz)(h:HH U F L H)(ht:t<H.bQ.length)(p:Ph)(hp:sX H t p)(hlen:∀g,H.bQ[t]?=some g->g.bP.length<=900){R:Value->Int->Int->Hp->Prop}(hR:Fj U F L (Wt H t p) R) :
 Zc.c (aW L.p) (t:Int) (l6 (some p)) U R:=by
 refine Zc.o ?_;unfold Zc.v;have hlen':∀g,H.bQ[t]?=some g->g.bP.length<=1000:=λg hg=>by have:=hlen g hg;omega
 refine nw (cs:=[.int .i64 0,.int .i64 0]) λv hz e i=>?_;have K1:=(HK.start h).box e hz;obtain⟨x,g,E,hg⟩:=h.th ht;have hlen:=hlen g hg;have htg:=Hv hg;have hol:=jB h.s t;obtain⟨A,hA⟩:∃A,H.bV[H.own t]?=some A:=⟨_,cW hol⟩;have hAe:=wX hA;obtain⟨Y,hY,_,_⟩:=h.ar hA;refine aG (K1.h.hd.rS rfl ?_);refine xS K1.h.mh K1.h.s.ts E hg (d:=0) O rfl λtb0 to0 ha _=>?_;have hS1:mj (λu=>u=v) L H.tb:=λm hm=>by cases hm;exact⟨_,L.ts,H,K1.h,rfl⟩
 refine⟨λu=>u=v,rfl,aG (hS1.fI (AZ K1.h t ⟨rfl,K1.h.rA hY ⟨rfl,?_⟩⟩))⟩;refine r9 (λw=>∃P ts',HK F U (λb=>False\/b=U.size) w P {L with ts:=ts'} (Wt H t p).1/\bX w U.size [.int .i64 0,.int .i64 0]/\(Wt H t p).2=(none,0,0)) (λw ⟨P,ts',K,hbw,W⟩=>?_) λJ hJ=>?_
 ·refine fY (n:=U.size) K (.inr rfl) hbw λw' K'=>?_;have:=hR w' ts' K'.e (K'.fin h);rw[W]at this;exact this
 cases p with
 | take k=>
  obtain⟨hk,hy9⟩:k<H.tb.length/\∀y l,QP (H.cls k) ((H.jJ t).li k)=(some y,l)->iu y:=hp;obtain⟨c,hc⟩:∃c,H.tb[k]?=some c:=⟨_,cW hk⟩;have hll:=h.wY E hg;obtain⟨l,hl⟩:∃l,g.ls[k]?=some l:=⟨_,cW (by rw[hll];exact hk)⟩;have hce:=VB hc;have hle:=wE hl;rw[hce,htg,hle]at hy9;refine Ay (nw (cs:=[.int .i64 0]) λv5 M Z N=>?_);have K5:=K1.box Z M;refine N.s0 aA λv6 o6 hb6=>?_;have K6:=K5.own o6 (.inr rfl);have C:=Wr o6 (Z.bU i id) O;refine⟨λu=>u=v6,rfl,aG ⟨some ⟨x.c.p,0,none⟩,λu V=>by cases V;exact K6.h.tc E hg ha O rfl,⟨(k:Int),λu V=>by cases V;rw[add_lit,hb6.cell];rfl,?_⟩⟩⟩;refine MW K6.h E hg hc hl λv7 ts7 X h7=>?_;have K7:=K6.to X h7 λb _ i=>i;have hb7:=K6.cP X hb6 (.inr rfl);have B:=K6.cP X C (.inl (.inr rfl));cases htk:QP c l with
  | mk o l'=>
  rw[htk]at h7 K7;cases o with
  | some y=>
   have W:Wt H t (.take k)=(Va (H.dO t g (g.ls.set k l')) y (c.size:Int) (k:Int),none,y,0):=by
    simp only[Wt,hce,htg,hle,htk,Zj hg];rfl
   rw[W]at hR;have hS2:mj (λu=>(∃P ts H',HH u P {L with ts:=ts} H'/\H'.tb=H.tb)/\bX u v.size [.int .i64 (k:Int)]) L H.tb:=λm hm=>hm.1;refine cB rfl ⟨λu=>(∃P ts H',HH u P {L with ts:=ts} H'/\H'.tb=H.tb)/\bX u v.size [.int .i64 (k:Int)],⟨⟨_,_,_,K7.h,rfl⟩,hb7⟩,aG (hS2.dB ⟨(k:Int),λu V=>by rw[add_lit,V.2.cell];rfl,?_⟩)⟩;refine mj.rC (L:={L with ts:=ts7}) (H:=H.dO t g (g.ls.set k l')) hS2 K7.h hc ⟨(k:Int),λu V=>by rw[add_lit,V.2.cell];rfl,?_⟩;refine y8 K7.h y (c.size:Int) (k:Int) (hy9 y l' htk) λv8 e8 h8=>?_;have K8:=K7.to e8 h8 λb _ i=>.inl i;refine⟨⟨⟨_,_,_,h8,rfl⟩,K7.cP e8 hb7 (.inr rfl)⟩,?_⟩;exact fY (n:=U.size) K8 (.inl (.inr rfl)) (K7.cP e8 B (.inl (.inr rfl))) λw' K'=>hR w' ts7 K'.e (K'.fin h)
  | none=>
   have W:Wt H t (.take k)=(H.dO t g (g.ls.set k l'),some (.cH k (GN c l')),0,0):=by
    simp only[Wt,hce,htg,hle,htk,Zj hg];rfl
   rw[W]at hR;have htlt:=(cX.1 hg).1;have hklt:=(cX.1 hl).1;have hg7:(H.dO t g (g.ls.set k l')).bQ[t]?=some {g with ls:=g.ls.set k l'}:=by simp[Hw.dO,htlt]
   obtain⟨x7,g7,hx7,_⟩:=K7.h.th (t:=t) (by simp[Hw.dO,htlt]);have hl7:({g with ls:=g.ls.set k l'}:Th).ls[k]?=some l':=by simp[hklt]
   refine cE rfl ⟨λu=>u=v7,rfl,aG ⟨some ⟨x7.c.p,0,none⟩,λu V=>by cases V;exact K7.h.tc hx7 hg7 ha O rfl,⟨(k:Int),λu V=>by cases V;rw[add_lit,hb7.cell];rfl,?_⟩⟩⟩;refine MN K7.h hx7 hg7 hc hl7 λv8 ts8 e8 h8=>?_;have K8:=K7.to e8 h8 λb _ i=>i;refine(K7.cP e8 hb7 (.inr rfl)).rI rfl ?_;exact fY (n:=U.size) K8 (.inl (.inr rfl)) (K7.cP e8 B (.inl (.inr rfl))) λw' K'=>hR w' ts8 K'.e (K'.fin h)
 | cH k w=>
  obtain⟨hk,hne0⟩:k<H.tb.length/\(ZP (H.dZ t) (k:Int)=0->Yg (H.dZ t) (k:Int)≠[]):=hp;rw[hAe]at hne0;obtain⟨c,hc⟩:∃c,H.tb[k]?=some c:=⟨_,cW hk⟩;have hce:=VB hc;refine kq aB (ux (nw (cs:=[.int .i64 0,.int .i64 0]) λv5 M Z N=>?_));have K5:=K1.box Z M;refine N.s1 aA λv5b o5 b5=>b5.s1 aA λv6 o6 b6=>?_;have K6:=(K5.own o5 (.inr rfl)).own o6 (.inr rfl);have S:U.size≠v.size:=by omega
  have C:=Wr o6 (Wr o5 (Z.bU i id) S) S;refine r9 (λu=>(∃P',HK F U (λb=>(False\/b=U.size)\/b=v.size) u P' L H)/\bX u U.size [.int .i64 0,.int .i64 0]/\bX u v.size [.int .i64 (k:Int),.int .i64 (w:Int)]/\Wt H t (.cH k w)=(H,some (.cI k w),0,0)) (λu ⟨⟨P',K⟩,hbw,hbx,W⟩=>?_) λJ1 hJ1=>?_
  ·rw[W]at hR;exact hbx.rI rfl (hbx.rI rfl (fY (n:=U.size) K (.inl (.inr rfl)) hbw λw' K'=>hR w' L.ts K'.e (K'.fin h)))
  ·refine b6.rI rfl (aG (K6.h.hd.rS rfl (b6.rI rfl (GM K6.h.ji hc (d:=2) O ?_))));simp only[zB (show ¬(2=0) by omega),zB (show ¬(2=1) by omega)];refine cY (λheq=>b6.rI rfl ?_) λhne'=>hJ1 v6 ⟨⟨_,K6⟩,C,b6,?_⟩
   ·have heq':w=c.batch:=by simp only[zV]at heq;omega
    refine Hy K6.h hA hY (k:Int) λs v7 Q X hQ hs7 hcap h7=>?_;have K7:=K6.to X h7 λb _ i=>i.1;have b7:=K6.cP X b6 (.inr rfl);have B:=K6.cP X C (.inl (.inr rfl));refine cY (λh0=>b7.rI rfl ?_) λhn0=>?_
    ·have h0':ZP A (k:Int)=0:=by simpa using h0
     have W:Wt H t (.cH k w)=(Qq (H.cC (H.own t) (Zo A (k:Int))) t k (Yg A (k:Int)),some .fill,0,0):=by
      simp only[Wt,hce,hAe,heq',h0',zP]
     rw[W]at hR;refine HM K7.h (t:=t) ht k hs7 hcap (hne0 h0') (λb _ z E=>E.1.2 z) (K6.h.o.sub hQ) (λz=>K6.h.o2 (hQ _ z)) hlen' λv8 ts8 e8 h8=>?_;have K8:=K7.rY e8 h8 λb i z=>by
      rcases z with z|z
      ·exact z.imp id .inl
      ·exact .inr (.inr ⟨(K6.p b (hQ b z)).1,(K6.p b (hQ b z)).2.1⟩)
     exact fY (n:=U.size) K8 (.inl (.inr rfl)) (K7.cP e8 B (.inl (.inr rfl))) λw' K'=>hR w' ts8 K'.e (K'.fin h)
    ·have hn0':ZP A (k:Int)≠0:=by simpa using hn0
     have hsame:Zo A (k:Int)=A:=by unfold Zo;rw[zB hn0']
     rw[hsame,DE hA]at K7;refine hJ1 v7 ⟨⟨_,K7⟩,B,b7,?_⟩;simp only[Wt,hce,hAe,heq',zB hn0',zP]
   ·have hne2:w≠c.batch:=λe=>by rw[e]at hne';simp at hne'
    simp only[Wt,hce,zB hne2]
 | cI k w=>
  refine kq aB (iR aB (ux (nw (cs:=[.int .i64 0,.int .i64 0]) λv5 M Z N=>?_)));have K5:=K1.box Z M;refine N.s1 aA λv5b o5 b5=>b5.s1 aA λv6 o6 b6=>?_;have K6:=(K5.own o5 (.inr rfl)).own o6 (.inr rfl);have S:U.size≠v.size:=by omega
  have C:=Wr o6 (Wr o5 (Z.bU i id) S) S;refine b6.rI rfl (b6.rI rfl (G7 K6.h hA hY (k:Int) (w:Int) λs v7 Q X hQ hs7 h7=>?_));have K7:=K6.to X h7 λb _ i=>i.1;have b7:=K6.cP X b6 (.inr rfl);have B:=K6.cP X C (.inl (.inr rfl));have hsl:s.len=(X1 A (k:Int) (w:Int)).length:=by have:=hs7.1;simp[ints]at this;omega
  by_cases hemp:X1 A (k:Int) (w:Int)=[]
  ·have W:Wt H t (.cI k w)=(H.cC (H.own t) (Yk A (k:Int) (w:Int)),some (.grow k w),0,0):=by
    simp only[Wt,hAe,zC hemp]
   rw[W]at hR;refine fM (by rw[hsl,hemp];simp) (b7.rI rfl (b7.rI rfl ?_));exact fY (n:=U.size) K7 (.inl (.inr rfl)) B λw' K'=>hR w' L.ts K'.e (K'.fin h)
  ·have W:Wt H t (.cI k w)=(Qq (H.cC (H.own t) (Yk A (k:Int) (w:Int))) t k ((X1 A (k:Int) (w:Int)).map λ(x:Nat)=>(x:Int)),some .fill,0,0):=by
    simp only[Wt,hAe,zB hemp]
   rw[W]at hR;have hpos:=pn.2 hemp;refine kW (by rw[hsl];omega) (b7.rI rfl ?_);have hs7':=bW.ig hs7;rw[O4]at hs7';have hz6:=K6.e.1;refine HM K7.h (t:=t) ht k hs7' (bW.pD hs7) (by simpa using hemp) (λb _ z E=>E.1.2 z) (K6.o.1.sub λb i=>by have:=hQ b i;omega) (λz=>K6.o.2 (by have:=hQ _ z;omega)) hlen' λv8 ts8 e8 h8=>?_;have K8:=K7.rY e8 h8 λb i z=>by
    rcases z with z|z
    ·exact z.imp id .inl
    ·have:=hQ b z;exact .inr (.inr ⟨.inr O,λhB=>by have:=(K6.b b hB).2;omega⟩)
   exact fY (n:=U.size) K8 (.inl (.inr rfl)) (K7.cP e8 B (.inl (.inr rfl))) λw' K'=>hR w' ts8 K'.e (K'.fin h)
 | grow k w=>
  refine kq aB (iR aB (iR aB (ux (nw (cs:=[.int .i64 0,.int .i64 0]) λv5 M Z N=>?_))));have K5:=K1.box Z M;refine N.s1 aA λv5b o5 b5=>b5.s1 aA λv6 o6 b6=>?_;have K6:=(K5.own o5 (.inr rfl)).own o6 (.inr rfl);have S:U.size≠v.size:=by omega
  have C:=Wr o6 (Wr o5 (Z.bU i id) S) S;refine b6.rI rfl (Jd K6.h hA hY (k:Int) λv7 X h7=>?_);have K7:=K6.to X h7 λb _ i=>i;have b7:=K6.cP X b6 (.inr rfl);have B:=K6.cP X C (.inl (.inr rfl));refine cY (λhn0=>?_) λh0=>?_
  ·have hn0':Ks A H.sp (k:Int)≠0:=by simpa using hn0
   have W:Wt H t (.grow k w)=({H.cC (H.own t) (cL A H.sp (k:Int)).1 with sp:=(cL A H.sp (k:Int)).2},none,0,Ks A H.sp (k:Int)):=by
    simp only[Wt,hAe,zB hn0']
   rw[W]at hR;exact fY (n:=U.size) K7 (.inl (.inr rfl)) B λw' K'=>hR w' L.ts K'.e (K'.fin h)
  ·have h0':Ks A H.sp (k:Int)=0:=by simpa using h0
   have W:Wt H t (.grow k w)=({H.cC (H.own t) (cL A H.sp (k:Int)).1 with sp:=(cL A H.sp (k:Int)).2},some (.cI k w),0,0):=by
    simp only[Wt,hAe,zC h0']
   rw[W]at hR;refine b7.rI rfl (b7.rI rfl ?_);exact fY (n:=U.size) K7 (.inl (.inr rfl)) B λw' K'=>hR w' L.ts K'.e (K'.fin h)
 | fill=>
  obtain⟨k,y,ys,r,hh,hk,hy9,hfit⟩:∃k x xs r,(H.jJ t).bP=(k,x::xs)::r/\k<H.tb.length/\iu x/\((H.jJ t).li k).os.length+xs.length<=256:=hp;rw[htg]at hh hfit;obtain⟨c,hc⟩:∃c,H.tb[k]?=some c:=⟨_,cW hk⟩;have hll:=h.wY E hg;obtain⟨l,hl⟩:∃l,g.ls[k]?=some l:=⟨_,cW (by rw[hll];exact hk)⟩;have hce:=VB hc;have hle:=wE hl;rw[hle]at hfit;refine kq aB (iR aB (iR aB (iR aB (yv (nw (cs:=[]) λv5 M Z N=>?_)))));have K5:=K1.box Z M;have hbv5:=Z.bU i id;obtain⟨G,D,hG,hD,hd,aa,hr,hput⟩:=K5.h.uk (λb i=>(K5.p b i).2.2) E hg (λ_=>False) (λb _ _ z=>z) (K5.o.1.sub λb i=>i.elim) (λz=>z);rw[hh]at aa;obtain⟨so,ps,Dn,hrow,hso1,hcap,hBr,hDn,hj,S,hxne⟩:=aa.lr;have hz5':=K5.e.1;have hsol:so.len=ys.length+1:=by have:=hso1.1;simp[Wx]at this;omega
  refine aG (m4 (K5.h.tc E hg ha (d:=1) O rfl) (Dq (dF.ig hrow) λa ha0 ha1=>m9 ha0 (m4 ha1 ?_)));refine nw (cs:=[.int .i64 0,.slice none 0 0]) λv43 hz43 e43 hb43=>hb43.s1 aA λv44 o44 b44=>b44.s1 aA λv45 o45 b45=>?_;have e45:bK v5 v45:=(e43.only o44 (.inr (zD _))).only o45 (.inr (zD _));have hz45:v5.size<v45.size:=b45.lt;refine aG (hput v45 ⟨none,0,0⟩ [] (λ_=>False) (bK.to e45) (λb i=>i.elim) (gY.nil _ _ _) ha λv46 e46 h46=>?_);have hz46:=e46.1;have e546:Ext _ v5 v46:=(bK.to e45).trans (e46.sub hD);have K46:=K5.to e546 h46 λb _ z=>by
   rcases z with z|z
   ·exact .inl z.1
   ·exact z.1.elim
  have hbv46:=K5.cP e546 hbv5 (.inl (.inr rfl));have b46:bX v46 v5.size _:=e46.bU b45 λE=>by have:=(K5.p _ (hD _ E)).2.2;omega
  have K46b:=K46.u6 (B':=λb=>b=v5.size) λb i=>⟨O,O,λE=>by
   subst i;rcases E.1 with h1|h1
   ·have:=(K5.p _ h1.1).2.2;omega
   ·exact h1.1⟩
  have hso46:=aH.bS (aH.bO (aH.cut hso1) e45) e46 λb _ i E=>hd b (hDn b i.1.1) E;have hXn:∀b,(Dn b/\j9 so b)/\b<v5.size->¬Cut (λb=>(Cut F U b/\¬G b)\/False/\b<v45.size) v46 b:=λb i E=>by
   rcases E.1 with h1|h1
   ·exact h1.2 (hDn b i.1.1)
   ·exact h1.1
  have hg46:({H with bQ:=H.bQ.set t {g with bP:=[]}}:Hw).bQ[t]?=some {g with bP:=[]}:=by simp[ht]
  have hx46:(L.ts.set t {x with h:=⟨none,0,0⟩})[t]?=some {x with h:=⟨none,0,0⟩}:=zJ (cX.1 E).1;refine aG (r8 (K46b.h.tc hx46 hg46 ha (d:=0) O rfl) (b46.rI rfl (b46.rS (a:=so.a) (n:=so.len) (c:=so.cap) rfl (jf (lo:=1) (by show 1<=so.len;omega) hcap (zD _) ?_))));have hsub:=cT.sub hso46 (lo:=1) (hi:=so.len) (mx:=so.cap) O (zD _) hcap;have hsx:((Wx (y::ys)).drop (1*1)).take ((so.len-1)*1)=Wx ys:=by
   rw[mi (by simp[Wx];omega)];rfl
  rw[hsx]at hsub;have hl46:({g with bP:=[]}:Th).ls[k]?=some l:=hl;refine Fa K46b.h hx46 hg46 hc hl46 hsub hXn hfit λv47 ts47 e47 h47=>?_;have K47:=K46b.to e47 h47 λb _ i=>i;have hso47:=aH.bS hso46 e47 λb _ i E=>hXn b i E;have b47:=K46b.cP e47 b46 (.inr rfl);have hbv47:=K46b.cP e47 hbv46 (.inl (.inl (.inr rfl)));have W:Wt H t .fill=(Va {H with bQ:=H.bQ.set t {g with ls:=g.ls.set k (dY ys.reverse l),bP:=[]}} y (c.size:Int) (k:Int),none,y,0):=by
   simp only[Wt,htg,hh,Zj hg,hle,hce]
  rw[W]at hR;obtain⟨b0,o0,ha0',hc0⟩:=hso47.cell (j:=0) (v:=.int .i64 y) rfl;have hS4:mj (λu=>((∃P ts H',HH u P {L with ts:=ts} H'/\H'.tb=H.tb)/\bX u v5.size [.int .i64 (k:Int),.slice so.a so.len so.cap])/\cell u ⟨b0,o0+0,none⟩=some (.int .i64 y)) L H.tb:=λm hm=>hm.1.1;refine⟨λu=>((∃P ts H',HH u P {L with ts:=ts} H'/\H'.tb=H.tb)/\bX u v5.size [.int .i64 (k:Int),.slice so.a so.len so.cap])/\cell u ⟨b0,o0+0,none⟩=some (.int .i64 y),⟨⟨⟨_,_,_,K47.h,rfl⟩,b47⟩,hc0⟩,⟨so,λu V=>by rw[add_lit,V.1.2.cell];rfl,?_⟩⟩;refine Fc ha0' O ⟨y,λu V=>V.2,aG (hS4.dB ⟨(k:Int),λu V=>by rw[add_lit,V.1.2.cell];rfl,?_⟩)⟩;refine mj.rC (L:={L with ts:=ts47}) (H:=Hw.dO {H with bQ:=H.bQ.set t {g with bP:=[]}} t {g with bP:=[]} (g.ls.set k (dY ys.reverse l))) hS4 K47.h hc ⟨(k:Int),λu V=>by rw[add_lit,V.1.2.cell];rfl,?_⟩;refine y8 K47.h y (c.size:Int) (k:Int) hy9 λv48 e48 h48=>?_;have K48:=K47.to e48 h48 λb _ i=>.inl i;have hz4747:=e47.1;have hso48:=aH.bS hso47 e48 λb _ i E=>by
   rcases E.1 with h1|h1
   ·exact hXn b i h1
   ·have:=i.2;omega
  refine⟨⟨⟨⟨_,_,_,h48,rfl⟩,K47.cP e48 b47 (.inr rfl)⟩,?_⟩,?_⟩
  ·obtain⟨b1,o1,ha1',hc1⟩:=hso48.cell (j:=0) (v:=.int .i64 y) rfl;rw[ha0']at ha1';cases ha1';exact hc1
  ·have K49:=K48;simp only[Hw.dO,mR]at K49;exact fY (n:=U.size) K49 (.inl (.inl (.inr rfl))) (K47.cP e48 hbv47 (.inl (.inl (.inr rfl)))) λw' K'=>hR w' ts47 K'.e (K'.fin h)
 | eB m=>
  have hp:ZO (H.dZ t) H.sp (m:Int) 1<=1000000:=hp;rw[hAe]at hp;refine kq aB (iR aB (iR aB (iR aB (qq aB (Ay (nw (cs:=[.int .i64 0]) λv5 M Z N=>?_))))));have K5:=K1.box Z M;refine N.s0 aA λv6 o6 b6=>?_;have K6:=K5.own o6 (.inr rfl);have C:=Wr o6 (Z.bU i id) O;refine b6.rI rfl (Ny K6.h hA hY (m:Int) 1 λv7 X h7=>?_);have K7:=K6.to X h7 λb _ i=>i;have b7:=K6.cP X b6 (.inr rfl);have B:=K6.cP X C (.inl (.inr rfl));refine cY (λhn0=>?_) λh0=>?_
  ·have hn0':Qd A H.sp (m:Int) 1≠0:=by simpa using hn0
   have W:Wt H t (.eB m)=({H.cC (H.own t) (cA A H.sp (m:Int) 1).1 with sp:=(cA A H.sp (m:Int) 1).2},none,0,Qd A H.sp (m:Int) 1):=by
    simp only[Wt,hAe,zB hn0']
   rw[W]at hR;exact fY (n:=U.size) K7 (.inl (.inr rfl)) B λw' K'=>hR w' L.ts K'.e (K'.fin h)
  ·have h0':Qd A H.sp (m:Int) 1=0:=by simpa using h0
   have hm:m<=64:=by
    unfold Qd at h0';split at h0'
    ·rename_i hpo;simp only[QR,zE,zS]at hpo;omega
    ·omega
   have W:Wt H t (.eB m)=(Va {H.cC (H.own t) (cA A H.sp (m:Int) 1).1 with sp:=(cA A H.sp (m:Int) 1).2} ((ZO A H.sp (m:Int) 1*256:Nat):Int) ((m*256:Nat):Int) (-1),none,((ZO A H.sp (m:Int) 1*256:Nat):Int),0):=by
    simp only[Wt,hAe,zC h0']
   rw[W]at hR;refine cQ (m:=ZO A H.sp (m:Int) 1*256) O O (b7.rI rfl (cQ (m:=m*256) O O ?_));refine y8 K7.h _ _ _ O λv8 e8 h8=>?_;have K8:=K7.to e8 h8 λb _ i=>.inl i;exact fY (n:=U.size) K8 (.inl (.inr rfl)) (K7.cP e8 B (.inl (.inr rfl))) λw' K'=>hR w' L.ts K'.e (K'.fin h)
 | find x=>
  obtain⟨hx9,hro,hlv⟩:iu x/\(bY H.live x=none->∀A∈H.bV,iw A)/\∀b,bY H.live x=some b->0<=x:=hp;refine kq aB (iR aB (iR aB (iR aB (qq aB (kq aB (Ay (nw (cs:=[.int .i64 0]) λv5 M Z N=>?_)))))));have K5:=K1.box Z M;refine N.s0 aA λv6 o6 b6=>?_;have K6:=K5.own o6 (.inr rfl);have C:=Wr o6 (Z.bU i id) O;refine b6.rI rfl (Nr K6.h ht x hx9 hro hlen' hlv λv7 ts7 X h7=>?_);have K7:=K6.to X h7 λb _ i=>i;have B:=K6.cP X C (.inl (.inr rfl));exact fY (n:=U.size) K7 (.inl (.inr rfl)) B λw' K'=>hR w' ts7 K'.e (K'.fin h)
 | put k y=>
  obtain⟨hk,hne0⟩:k<H.tb.length/\(H.jJ t).bP≠[]:=hp;rw[htg]at hne0;obtain⟨c,hc⟩:∃c,H.tb[k]?=some c:=⟨_,cW hk⟩;have hll:=h.wY E hg;obtain⟨l,hl⟩:∃l,g.ls[k]?=some l:=⟨_,cW (by rw[hll];exact hk)⟩;have hce:=VB hc;have hle:=wE hl;refine kq aB (iR aB (iR aB (iR aB (qq aB (kq aB (kq aB (ux (nw (cs:=[.int .i64 0,.int .i64 0]) λv5 M Z N=>?_))))))));have K5:=K1.box Z M;refine N.s1 aA λv5b o5 b5=>b5.s1 aA λv6 o6 b6=>?_;have K6:=(K5.own o5 (.inr rfl)).own o6 (.inr rfl);have S:U.size≠v.size:=by omega
  have C:=Wr o6 (Wr o5 (Z.bU i id) S) S;generalize hgg:(if(dH c y l).1=[]then({g with ls:=g.ls.set k (dH c y l).2}:Th)else{g with ls:=g.ls.set k (dH c y l).2,bP:=g.bP++[(k,(dH c y l).1)]})=g2
  have hg2n:g2.bP≠[]/\g2.bP.length<=901:=by
   rw[←hgg];split
   ·exact⟨hne0,by simp;omega⟩
   ·exact⟨by simp,by simp;omega⟩
  refine r9 (λw=>∃P ts',HK F U (λb=>(False\/b=U.size)\/b=v.size) w P {L with ts:=ts'} {H with bQ:=H.bQ.set t g2}/\bX w U.size [.int .i64 0,.int .i64 0]) (λw ⟨P,ts2,K,hbw⟩=>?_) λJ2 hJ2=>?_
  ·have hg3:({H with bQ:=H.bQ.set t g2}:Hw).bQ[t]?=some g2:=by simp[ht]
   obtain⟨x2,_,hx2,_⟩:=K.h.th (t:=t) (by simpa using ht);obtain⟨G,D,hG,hD,hd,aa,hr,hput⟩:=K.h.uk (λb i=>(K.p b i).2.2) hx2 hg3 (λ_=>False) (λb _ _ z=>z) (K.o.1.sub λb i=>i.elim) (λz=>z);have hbl:=aa.len;have hbc:=aa.cap;obtain⟨b0,r0,hbr⟩:∃b r,g2.bP=b::r:=by
    cases hh:g2.bP with
    | nil=>exact absurd hh hg2n.1
    | cons b r=>exact⟨b,r,rfl⟩
   have rf:g2.bP.drop 1=r0:=by rw[hbr];rfl
   rw[hbr]at aa;have hpos:1<=x2.h.len:=by rw[hbl,hbr];simp
   refine aG (m4 (K.h.tc hx2 hg3 ha (d:=1) O rfl) ?_);refine jf (lo:=1) hpos hbc (zD _) ?_;refine aG (hput w _ _ G (Ext.refl _ _) (λb i=>.inl i) aa.la ha λw1 e1 h1=>?_);have e1':=e1.sub hD;have K1b:=K.to e1' h1 λb _ z=>by
    rcases z with z|z
    ·exact .inl z.1
    ·exact .inl (hG b z.1)
   have hbw1:=K.cP e1' hbw (.inl (.inr rfl));have K3:=K1b;simp only[mR]at K3;generalize hg3':({g2 with bP:=r0}:Th)=g3 at K3;have hl3:g3.bP=r0/\g3.ls=g2.ls:=by rw[←hg3'];exact⟨rfl,rfl⟩
   have hr0:r0.length<=900:=by have:=hg2n.2;rw[hbr]at this;simp at this;omega
   have hg3e:({H with bQ:=H.bQ.set t g3}:Hw).bQ[t]?=some g3:=by simp[ht]
   have hpe:ic H t k y=(if H.cf.cZ<QF H.tb g3.ls then{H with bQ:=H.bQ.set t {g3 with ls:=QM Kl H.tb g3.ls,bP:=g3.bP++QO Kl H.tb g3.ls}}else{H with bQ:=H.bQ.set t g3}):=by
    have e2:(if(dH c y l).1=[]then H.dQ t λh=>h.hU k (dH c y l).2 else Qq (H.dQ t λh=>h.hU k (dH c y l).2) t k (dH c y l).1) = {H with bQ:=H.bQ.set t g2}:=by
     rw[←hgg];split
     ·rw[Zj hg];rfl
     ·rw[Zj hg];unfold Qq Hw.dQ;simp only;rw[Kx (t:=g.hU k (dH c y l).2) (by simp[ht]),mR];rfl
    have e3:({H with bQ:=H.bQ.set t g2}:Hw).dQ t (λh=>{h with bP:=h.bP.drop 1}) = {H with bQ:=H.bQ.set t g3}:=by
     rw[Zj hg3];simp only[mR,rf,hg3']
    unfold ic;simp only[hce,htg,hle,e2,e3,Hv hg3e,Zj hg3e,mR]
   have hx3:(ts2.set t {x2 with h:=⟨if x2.h.cap=1 then x2.h.a else x2.h.a.map (·.add (1*2)),x2.h.len-1,x2.h.cap-1⟩})[t]?=some {x2 with h:=⟨if x2.h.cap=1 then x2.h.a else x2.h.a.map (·.add (1*2)),x2.h.len-1,x2.h.cap-1⟩}:=zJ (cX.1 hx2).1
   generalize hx3':({x2 with h:=⟨if x2.h.cap=1 then x2.h.a else x2.h.a.map (·.add (1*2)),x2.h.len-1,x2.h.cap-1⟩}:eC)=x3 at hx3 K3
   generalize ts2.set t x3=ts3 at hx3 K3;refine r9 (λw=>∃P ts',HK F U (λb=>(False\/b=U.size)\/b=v.size) w P {L with ts:=ts'} (ic H t k y)/\bX w U.size [.int .i64 0,.int .i64 0]) (λw ⟨P,ts',K,hbw⟩=>?_) λJ3 hJ3=>?_
   ·have W:Wt H t (.put k y)=(ic H t k y,jI (ic H t k y) t,0,0):=rfl;rw[W]at hR;refine Vw K.h (t:=t) ?_ ?_
    ·rw[hpe];split<;>simpa using ht
    ·exact fY (n:=U.size) K (.inl (.inr rfl)) hbw λw' K'=>hR w' ts' K'.e (K'.fin h)
   ·refine aG (r8 (K3.h.tc hx3 hg3e ha (d:=0) O rfl) ?_);refine OJ K3.h hx3 hg3e λv10 e10=>?_;have K10:=K3.fr e10;have hbw10:=e10.bU hbw1 id;refine cR (λhov=>?_) λhno=>hJ3 v10 ⟨_,ts3,by rw[hpe,zB hno];exact K10,hbw10⟩;refine⟨λu=>cell u (Addr.add ⟨tb0,to0+3*t,none⟩ 1)=some (.slice x3.h.a x3.h.len x3.h.cap)/\cell u (Addr.add ⟨tb0,to0+3*t,none⟩ 0)=some (.pointer (some ⟨x3.c.p,0,none⟩)),⟨K10.h.tc hx3 hg3e ha (d:=1) O rfl,K10.h.tc hx3 hg3e ha (d:=0) O rfl⟩,aG ⟨x3.h,λu V=>V.1,aG ⟨some ⟨x3.c.p,0,none⟩,λu V=>V.2,?_⟩⟩⟩;refine FG hso K10.h hx3 hg3e λv11 s Q e11 hQ hB h11=>?_;have K11:=K10.to e11 h11 λb _ i=>i.1;have hbw11:=K10.cP e11 hbw10 (.inl (.inr rfl));have hg11:(Hw.dO {H with bQ:=H.bQ.set t g3} t g3 (QM Kl H.tb g3.ls)).bQ[t]?=some {g3 with ls:=QM Kl H.tb g3.ls}:=by simp[Hw.dO,ht]
    refine⟨⟨K11.h.tc hx3 hg11 ha (d:=1) O rfl,K11.h.tc hx3 hg11 ha (d:=0) O rfl⟩,?_⟩;have hz0:=K10.e.1;obtain⟨G,D,hG,hD,hd,aa,hr,hput⟩:=K11.h.uk (λb i=>i.2) hx3 hg11 (λb=>Q b\/v11.size<=b) (λb i hP z=>z.elim (λz=>hP.1.2 z) λz=>O) (K10.o.1.sub λb i=>i.elim (λi=>by have:=hQ b i;omega) λi=>by have:=K11.e.1;omega) (λz=>K10.o.2 (z.elim (λi=>by have:=hQ _ i;omega) λi=>by have:=K11.e.1;omega));refine gY.app aa hB (λb hg z=>(hG b hg).1.2 z) ?_ λs' v12 e12 hB12=>?_
    ·have:=GJ Kl H.tb g3.ls;have:H.tb.length<=40:=K3.h.pv;simp only[hl3.1];omega
    have hcell:∀{d:Nat} {w:Value},d<3->(jg (x3,({g3 with ls:=QM Kl H.tb g3.ls}:Th)))[d]?=some w->cell v12 (Addr.add ⟨tb0,to0+3*t,none⟩ d)=some w:=λhd3 hv=>by
     obtain⟨b',o',ha',hc'⟩:=Ge (hr v12 e12) hx3 hg11 hd3 hv;rw[ha]at ha';cases ha';rw[add_lit,uu];exact hc'
    refine⟨⟨hcell (d:=1) O rfl,hcell (d:=0) O rfl⟩,aG (hput v12 s' _ _ e12 (λb i=>i.imp id id) hB12 ha λv13 e13 h13=>?_)⟩;have e13':=(e12.sub hG).trans (e13.sub hD);have K13:=K11.rY e13' h13 λb i z=>by
     rcases z with z|z
     ·exact .inl z.1
     ·rcases z.1 with h1|h1|h1
      ·exact .inl (hG b h1)
      ·have:=hQ b h1;exact .inr (.inr ⟨.inr O,λhB=>by have:=(K10.b b hB).2;omega⟩)
      ·exact .inr (.inl h1)
    have hbw13:=K11.cP e13' hbw11 (.inl (.inr rfl));have K14:=K13;simp only[Hw.dO,mR]at K14;have hpe':=hpe;rw[zC hov]at hpe';rw[hpe']at hJ3;exact hJ3 v13 ⟨_,_,K14,hbw13⟩
  ·refine⟨λu=>u=v6,rfl,aG ⟨some ⟨x.c.p,0,none⟩,λu V=>by cases V;exact K6.h.tc E hg ha (d:=0) O rfl,⟨(k:Int),λu V=>by cases V;rw[add_lit,b6.cell];rfl,⟨y,λu V=>by cases V;rw[add_lit,b6.cell];rfl,?_⟩⟩⟩⟩;refine JB K6.h E hg hc hl y λv7 ts7 s ee Q X hQ hs7 h7=>?_;have K7:=K6.to X h7 λb _ i=>i.1;have b7:=K6.cP X b6 (.inr rfl);have B:=K6.cP X C (.inl (.inr rfl));have hsl:s.len=(dH c y l).1.length:=by have:=hs7.1;simp[Wx]at this;omega
   by_cases hemp:(dH c y l).1=[]
   ·rw[zC hemp]at hgg;rw[←hgg]at hJ2;exact fM (by rw[hsl,hemp];simp) (hJ2 v7 ⟨_,ts7,K7,B⟩)
   ·rw[zB hemp]at hgg;have hpos:=pn.2 hemp;have hz6:=K6.e.1;refine kW (by rw[hsl];omega) (b7.rI rfl ?_);refine HM K7.h (t:=t) (by simpa[Hw.dO]using ht) k (bW.ig hs7) (bW.pD hs7) hemp (λb _ z E=>E.1.2 z) (K6.o.1.sub λb i=>by have:=hQ b i;omega) (λz=>K6.o.2 (by have:=hQ _ z;omega)) (λg' hg'=>?_) λv8 ts8 e8 h8=>?_
    ·have:(H.dO t g (g.ls.set k (dH c y l).2)).bQ[t]?=some {g with ls:=g.ls.set k (dH c y l).2}:=by simp[Hw.dO,ht]
     rw[this]at hg';cases hg';simp only;omega
    ·have K8:=K7.rY e8 h8 λb i z=>by
      rcases z with z|z
      ·exact z.imp id .inl
      ·have:=hQ b z;exact .inr (.inr ⟨.inr O,λhB=>by have:=(K6.b b hB).2;omega⟩)
     have e9:Qq (H.dO t g (g.ls.set k (dH c y l).2)) t k (dH c y l).1 = {H with bQ:=H.bQ.set t g2}:=by
      rw[←hgg];unfold Qq Hw.dQ Hw.dO;simp only;rw[Kx (t:={g with ls:=g.ls.set k (dH c y l).2}) (by simp[ht]),mR]
     rw[e9]at K8;exact hJ2 v8 ⟨_,ts8,K8,K7.cP e8 B (.inl (.inr rfl))⟩
 | back=>
  obtain⟨k,xs,r,hh,hxs,hxl⟩:∃k xs r,(H.jJ t).bP=(k,xs)::r/\(∀x∈xs,iu x/\0<=Yf H.bV x)/\xs.length<=1000000:=hp;rw[htg]at hh;refine kq aB (iR aB (iR aB (iR aB (qq aB (kq aB (kq aB (iR aB (yv (nw (cs:=[]) λv5 M Z N=>?_)))))))));have K5:=K1.box Z M;have hbv5:=Z.bU i id;obtain⟨G,D,hG,hD,hd,aa,hr,hput⟩:=K5.h.uk (λb i=>(K5.p b i).2.2) E hg (λb=>v5.size<=b) (λb i _ z=>O) K5.h.lY.1 K5.h.lY.2;have hbl:=aa.len;have hbc:=aa.cap;rw[hh]at aa;obtain⟨so,ps,Dn,hrow,hso1,hcap,hBr,hDn,hj,S,hxne⟩:=aa.lr;have hz5':=K5.e.1;refine aG (m4 (K5.h.tc E hg ha (d:=1) O rfl) (Dq (dF.ig hrow) λa ha0 ha1=>m9 ha0 (m4 ha1 ?_)));refine nw (cs:=[.int .i64 0,.slice none 0 0]) λv81 hz81 e81 hb81=>hb81.s1 aA λv82 o82 b82=>b82.s1 aA λv83 o83 b83=>?_;have e83:bK v5 v83:=(e81.only o82 (.inr (zD _))).only o83 (.inr (zD _));have hz83:v5.size<v83.size:=b83.lt;have hcell:∀{u1:Hp},Ext G v5 u1->∀{d:Nat} {w:Value},d<3->(jg (x,g))[d]?=some w->cell u1 (Addr.add ⟨tb0,to0+3*t,none⟩ d)=some w:=λhe _ _ hd3 hv=>by
   obtain⟨b',o',ha',hc'⟩:=Ge (hr _ he) E hg hd3 hv;rw[ha]at ha';cases ha';rw[add_lit,uu];exact hc'
  refine aG (m4 (hcell (bK.to e83) (d:=1) (w:=.slice x.h.a x.h.len x.h.cap) O rfl) ?_);have hpos:1<=x.h.len:=by rw[hbl,hh];simp
  refine jf (lo:=1) hpos hbc (zD _) ?_;have hrow':=aH.bO (aH.cut (dF.ig (hrow.from (lo:=1) hpos))) e83;have rf:(eV ((k,so)::ps)).drop (1*2)=eV ps:=rfl;rw[rf]at hrow';refine EZ hrow' aC λs' v84 hs'l e84 hs'=>?_;have hBt':gY s' r v84 (λb=>Dn b/\¬j9 so b/\b<v5.size\/v83.size<=b):=by
   refine⟨ps,λb=>Dn b/\¬j9 so b/\b<v5.size,(dF.loc _ _ _).mono hs'.o λb _ i=>⟨.inr i,λE=>O⟩,(jS.loc _ _).bO ((jS.loc _ _).bO ((jS.loc _ _).mono ((jS.loc _ _).cut hBr) λb _ i=>⟨i.1.1,i.1.2,i.2⟩) e83) e84,λb i=>.inl i,hj,S⟩
  have e584:bK v5 v84:=e83.trans e84;refine aG (hput v84 s' r _ (bK.to e584) (λb i=>i.elim (λi=>.inl (hDn b i.1)) λi=>.inr O) hBt' ha λv85 e85 h85=>?_);have hz84:=e84.1;have hz85:=e85.1;have e585:Ext _ v5 v85:=(bK.to e584).trans (e85.sub hD);have K85:=K5.to e585 h85 λb _ z=>by
   rcases z with z|z
   ·exact .inl z.1
   ·rcases z.1 with h1|h1
    ·exact .inl (hG b (hDn b h1.1))
    ·exact .inr O
  have hbv85:=K5.cP e585 hbv5 (.inl (.inr rfl));have b85:bX v85 v5.size _:=e85.bU (e84.bU b83 id) λE=>by have:=(K5.p _ (hD _ E)).2.2;omega
  have K85b:=K85.u6 (B':=λb=>b=v5.size) λb i=>⟨O,O,λE=>by
   subst i;rcases E.1 with h1|h1
   ·have:=(K5.p _ h1.1).2.2;omega
   ·rcases h1.1 with h2|h2<;>omega⟩
  have hso5:=aH.bS (aH.bO (aH.cut hso1) e584) e85 λb _ i E=>hd b (hDn b i.1.1) E;have W:Wt H t .back=(UV {H with bQ:=H.bQ.set t {g with bP:=r}} (H.own t) k xs,jI (UV {H with bQ:=H.bQ.set t {g with bP:=r}} (H.own t) k xs) t,0,0):=by
   simp only[Wt,htg,hh,Zj hg]
  rw[W]at hR;refine⟨λu=>u=v85,rfl,⟨(k:Int),λu V=>by cases V;rw[add_lit,b85.cell];rfl,⟨so,λu V=>by cases V;rw[add_lit,b85.cell];rfl,?_⟩⟩⟩;refine AZ K85b.h t ⟨rfl,No K85b.h hol k hso5 (λb _ i E=>?_) hcap hxs hxl λv87 e87 h87=>?_⟩
  ·rcases E.1 with h1|h1
   ·exact h1.2 (hDn b i.1.1)
   ·rcases h1.1 with h2|h2
    ·exact h2.2.1 i.1.2
    ·have:=i.2;omega
  have K87:=K85b.to e87 h87 λb _ i=>i;have hbl7:(UV {H with bQ:=H.bQ.set t {g with bP:=r}} (H.own t) k xs).bQ.length=H.bQ.length:=by
   rw[G6];simp
  refine Vw K87.h (t:=t) (by rw[hbl7];exact ht) ?_;exact fY (n:=U.size) K87 (.inl (.inl (.inr rfl))) (K85b.cP e87 hbv85 (.inl (.inl (.inr rfl)))) λw' K'=>hR w' _ K'.e (K'.fin h)
 | dA s a=>
  obtain⟨ha0,hal,hru⟩:0<=a/\a.toNat<H.bV.length/\∀A∈H.bV,∀r∈A.runs,r.1<=1000000:=hp;obtain⟨A2,hA2⟩:∃A,H.bV[a.toNat]?=some A:=⟨_,cW hal⟩;have hae:a=((a.toNat:Nat):Int):=by omega
  refine kq aB (iR aB (iR aB (iR aB (qq aB (kq aB (kq aB (iR aB (qq aB (ux (nw (cs:=[.int .i64 0,.int .i64 0]) λv5 M Z N=>?_))))))))));have K5:=K1.box Z M;refine N.s1 aA λv5b o5 b5=>b5.s1 aA λv6 o6 b6=>?_;have K6:=(K5.own o5 (.inr rfl)).own o6 (.inr rfl);have S:U.size≠v.size:=by omega
  have C:=Wr o6 (Wr o5 (Z.bU i id) S) S;obtain⟨Y2,hY2,_,_⟩:=K6.h.ar hA2;refine aG (K6.h.hd.rS rfl (b6.rI (x:=((a.toNat:Nat):Int)) (by rw[←hae];rfl) (K6.h.rA hY2 (b6.rI rfl ?_))));refine Jm K6.h hA2 hY2 s (hru A2 (zG hA2)) λv7 X h7=>?_;have K7:=K6.to X h7 λb _ i=>i;have B:=K6.cP X C (.inl (.inr rfl));have W:Wt H t (.dA s a)=(H.cC a.toNat (Qi A2 s),none,0,0):=by
   simp only[Wt,hA2]
  refine hJ v7 ⟨_,L.ts,⟨?_,K7.e,λb i=>⟨(K7.p b i).1,λE=>(K7.p b i).2.1 (.inl E),(K7.p b i).2.2⟩,λb i=>K7.b b (.inl i),K7.o⟩,B,by rw[W]⟩;rw[W];exact K7.h
 | drain=>
  refine kq aB (iR aB (iR aB (iR aB (qq aB (kq aB (kq aB (iR aB (qq aB (iR aB (yv (nw (cs:=[]) λv5 M Z N=>?_)))))))))));have K5:=K1.box Z M;have hbv5:=Z.bU i id;refine aG (r8 (K5.h.tc E hg ha (d:=0) O rfl) ?_);refine Lo hso K5.h E hg λv7 s Q X hQ hB h7=>?_;have K7:=K5.to X h7 λb _ i=>i.1;have B:=K5.cP X hbv5 (.inl (.inr rfl));have hz0:=K5.e.1;have hg7:(H.dO t g (QM Zy H.tb g.ls)).bQ[t]?=some {g with ls:=QM Zy H.tb g.ls}:=by simp[Hw.dO,ht]
  obtain⟨G,D,hG,hD,hd,aa,hr,hput⟩:=K7.h.uk (λb i=>i.2) E hg7 Q (λb _ i z=>i.1.2 z) (K5.o.1.sub λb i=>by have:=hQ b i;omega) (λz=>K5.o.2 (by have:=hQ _ z;omega));refine aG (hput v7 s _ Q (Ext.refl _ _) (λb i=>.inr i) hB ha λv8 e8 h8=>?_);have e8':=e8.sub hD;have K8:=K7.rY e8' h8 λb _ z=>by
   rcases z with z|z
   ·exact .inl z.1
   ·have:=hQ b z.1;exact .inr (.inr ⟨.inr O,λhB=>by have:=(K5.b b hB).2;omega⟩)
  have hbv8:=K7.cP e8' B (.inl (.inr rfl));have W:Wt H t .drain=({H with bQ:=H.bQ.set t {g with ls:=QM Zy H.tb g.ls,bP:=QO Zy H.tb g.ls}},jI {H with bQ:=H.bQ.set t {g with ls:=QM Zy H.tb g.ls,bP:=QO Zy H.tb g.ls}} t,0,0):=by
   simp only[Wt,Zj hg]
  have K9:=K8;simp only[Hw.dO,mR]at K9;rw[W]at hR;refine Vw K9.h (t:=t) (by simpa using ht) ?_;exact fY (n:=U.size) K9 (.inl (.inr rfl)) hbv8 λw' K'=>hR w' _ K'.e (K'.fin h)
def eL (H:Hw)(t:Nat)(p:Option Ph):Hw:=H.dQ t λh=>{h with ph:=p}
theorem KN (H:Hw)(t:Nat)(f:Th->Th):(H.dQ t f).bQ.length=H.bQ.length:=by simp[Hw.dQ]
theorem NT (H:Hw)(t k:Nat)(x:Int):(ic H t k x).bQ.length=H.bQ.length:=by
 unfold ic;simp only;split<;>split<;>simp[KN,Qq]
theorem CM (H:Hw)(t:Nat)(p:Ph):(Wt H t p).1.bQ.length=H.bQ.length:=by
 cases p with
 | take k=>simp only[Wt];split<;>simp[Va,KN]
 | cH k w=>
  simp only[Wt];split
  ·split<;>simp[Qq,KN,Hw.cC]
  ·rfl
 | cI k w=>simp only[Wt];split<;>simp[Qq,KN,Hw.cC]
 | grow k w=>simp only[Wt];split<;>simp[Hw.cC]
 | fill=>simp only[Wt];split<;>simp[Va,KN]
 | eB m=>simp only[Wt];split<;>simp[Va,Hw.cC]
 | find x=>
  simp only[Wt,Uq];split
  ·rfl
  ·split<;>simp[Qq,KN]
 | put k x=>exact NT H t k x
 | back=>simp only[Wt];split<;>simp[G6,KN]
 | dA s a=>simp only[Wt];split<;>simp[Hw.cC]
 | drain=>simp[Wt,KN]
def sP (H:Hw)(t:Nat)(p:Ph):Prop:=sX H t p/\∀g,H.bQ[t]?=some g->g.bP.length<=900
def Qj (H:Hw)(t:Nat)(p:Ph):Hw:=eL (Wt H t p).1 t (Wt H t p).2.1
theorem MB (hso:Hz)(h:HH U F L H)(hg:H.bQ[t]?=some g){p:Ph}(hp:g.ph=some p)(hok:sP H t p){R:Bool->Int->Int->Int->Hp->Prop}
 (hR:∀σ' ts',Ext F U σ'->HH σ' (Grow F U) {L with ts:=ts'} (Qj H t p)->R (Wt H t p).2.1.isNone (Wt H t p).2.2.1 (Wt H t p).2.2.2 0 σ'):YU.c (aW L.p) (t:Int) U R:=by
 refine YU.o ?_;unfold YU.v;have C:=(cX.1 hg).1;refine nw (cs:=[.int .i64 0,.int .i64 0]) λv hz e r=>?_;have K1:=(HK.start h).box e hz;obtain⟨x,g',Q,m⟩:=h.th C;rw[hg]at m;cases m;refine V0 K1.h (cE rfl (GX K1.h (t:Int) (cE (by rw[zK O];rfl) ?_)));refine aG (K1.h.hd.rS rfl (K1.h.tR Q hg ?_));rw[hp];refine⟨sH _,cE (by rw[G5];rfl) (aG (K1.h.hd.rS rfl (K1.h.tR Q hg ?_)))⟩;rw[hp];refine IQ hso K1.h C p hok.1 hok.2 λv9 M P Y=>?_;have K9:=K1.to P Y λb _ r=>r;have B:=K1.cP P r (.inr rfl);refine nw (cs:=[.int .i64 0,.int .i64 0]) λX z w s=>?_;have K10:=K9.box w z;refine s.s1 aA λZ y K=>K.s1 aA λW A E=>?_;have K12:=(K10.own y (.inr rfl)).own A (.inr rfl);have j:U.size≠v9.size:=by have:=(K9.b U.size (.inr rfl)).2;omega
 have d:=Wr A (Wr y (w.bU B id) j) j;have N:t<(Wt H t p).1.bQ.length:=by rw[CM];exact C
 obtain⟨x9,V,D,u⟩:=K12.h.th N;have G:Qj H t p = {(Wt H t p).1 with bQ:=(Wt H t p).1.bQ.set t {V with ph:=(Wt H t p).2.1}}:=Zj u _;refine aG (K12.h.hd.rS rfl (K12.h.qB D u (Wt H t p).2.1 λv13 i J=>?_));have K13:=K12.to i J λb _ r=>.inl r;have a:=K12.cP i E (.inr rfl);rw[←G]at K13;refine⟨sH _,a.rI rfl (a.rI rfl ?_)⟩;refine fY (n:=U.size) K13 (.inl (.inr rfl)) (K12.cP i d (.inl (.inr rfl))) λS K'=>?_;rw[G5];exact hR S M K'.e (K'.fin h)
theorem yV {p:Nat->Prop}(h:∃n,p n):∃n,p n/\∀m,p m->n<=m:=by
 obtain⟨n,d⟩:=h
 induction n using Nat.strongRecOn with
 | _ n ih=>
  by_cases hm:∃m,m<n/\p m
  ·obtain⟨m,a,b⟩:=hm;exact ih m a b
  ·exact⟨n,d,λm b=>Nat.le_of_not_lt λa=>hm ⟨m,a,b⟩⟩
theorem LI {start:eH []->Prop}{round:eH []->eH []}(Inv:Nat->Hp->Prop)(h0:start λh=>∃n,Inv n h)(hr:∀n h,Inv n h->∀J:Hp->Prop,(∀m h',m<n->Inv m h'->J h')->round J h):YC [] start round:=by
 classical
 refine CD (λh=>∃n,Inv n h) (λh=>if hx:∃n,Inv n h then(yV hx).choose else 0) h0 λh d=>?_
 have g:=(yV d).choose_spec;refine hr _ h g.1 _ λm h' e b=>⟨⟨m,b⟩,?_⟩;have a:∃n,Inv n h':=⟨m,b⟩;rw[dif_pos a,dif_pos d];exact xg ((yV a).choose_spec.2 m b) e
inductive il:Nat->Hw->Nat->Ph->Hw->Int->Int->Prop
 | done {H:Hw} {t:Nat} {p:Ph}:sP H t p->(Wt H t p).2.1=none->il 1 H t p (Qj H t p) (Wt H t p).2.2.1 (Wt H t p).2.2.2
 | next {n:Nat} {H:Hw} {t:Nat} {p p':Ph} {H':Hw} {a e:Int}:sP H t p->(Wt H t p).2.1=some p'->il n (Qj H t p) t p' H' a e->il (n+1) H t p H' a e
theorem Dc {p:Ph}(ht:t<H.bQ.length):∃g,(Qj H t p).bQ[t]?=some g/\g.ph=(Wt H t p).2.1:=by
 have a:t<(Wt H t p).1.bQ.length:=by rw[CM];exact ht
 exact⟨{(Wt H t p).1.bQ[t]with ph:=(Wt H t p).2.1},by simp[Qj,eL,Hw.dQ,rK,cW a],rfl⟩
end Go.Ar
namespace Go.Ar
open Go Go.Vc Go.Proofs
open Go.Bu (fB)
variable {U:Hp}{F:Rg}
def Uc (size align:Int):Bool:=decide (1<=size)&&(decide (1<=align)&&(decide (align<=256)&&fB align))
def gA (tb:List bZ)(size align:Int):Option Nat:=tb.findIdx? λc=>decide (size<=(c.size:Int))&&((c.size:Int)%align==0)
theorem Ji (n:Int)(h1:1<=n)(h2:n<=256){R:aN}(hR:∀p:Int,(p != n) = !fB n->R p U):ZU.c n U R:=by
 refine ZU.o ?_;unfold ZU.v;refine HD (a:=bN) (bb:=bN) (λ(p q:Int) w=>w=U/\(p=0/\q=1\/∃k:Nat,k<=8/\p=((2^k:Nat):Int)/\q=((2^(k+1):Nat):Int)/\p<=n)) (λp q _=>1000-q.toNat) ⟨rfl,.inl ⟨rfl,rfl⟩⟩ ?_;rintro(p:Int) (q:Int) w ⟨rfl,hpq⟩;refine cR (λb=>?_) λs=>?_
 ·rcases hpq with⟨rfl,rfl⟩|⟨k,hk,rfl,rfl,hp⟩
  ·exact cQ (m:=2) O O ⟨⟨rfl,.inr ⟨0,O,by simp,by simp,O⟩⟩,by simp⟩
  ·have r:k<=7:=by
    apply Classical.byContradiction;intro hc;have:2^9<=2^(k+1):=nZ aB O;omega
   have g:=ka (k+1);exact cQ (m:=2^(k+1+1)) (by rw[lP 2 (k+1)];omega) (by rw[lP 2 (k+1)];omega) ⟨⟨rfl,.inr ⟨k+1,O,rfl,rfl,b⟩⟩,by rw[lP 2 (k+1)];omega⟩
 ·rcases hpq with⟨rfl,rfl⟩|⟨k,hk,rfl,rfl,hp⟩
  ·omega
  ·refine hR _ ?_;by_cases e:((2^k:Nat):Int)=n
   ·have:fB n=true:=by
     unfold fB;rw[jU];exact⟨k,zh.2 O,by simp[←e]⟩
    rw[this,e];simp
   ·have:fB n=false:=by
     unfold fB;rw[lN];intro j hj he;have d:n=((2^j:Nat):Int):=by simpa using he
     rcases oF j k with h3|h3|h3
     ·have:2^(j+1)<=2^k:=nZ aB h3;rw[lP]at this;have:=ka j;omega
     ·subst h3;exact e d.symm
     ·have:2^(k+1)<=2^j:=nZ aB h3;omega
    rw[this];simpa using e
theorem FN {s:Sl}{xs:List (Int×Int×Int)}(ha:hO U s xs)(hv:Qe xs=true)(size align:Int){R:Int->Int->Hp->Prop}
 (hR:∀σ',bK U σ'->R (if Uc size align then((gA (xs.map ZS) size align).getD 0:Nat)else 0) (if Uc size align then(if(gA (xs.map ZS) size align).isSome then 0 else 4)else 1) σ'):ZW.c s size align U R:=by
 refine ZW.o ?_;unfold ZW.v;refine nw (cs:=[.int .i64 size]) λv hz e hb=>nw (cs:=[.int .i64 align]) λv1 Y e1 M=>?_;have S:=e1.bU hb id;refine HO (ZI ha (e.trans e1)) λx e2=>?_;rw[hv];have E:=e2.bU S id;have y:=e2.bU M id;have g:=(e.trans e1).trans e2;refine cE rfl ?_;have key:∀r,r = !Uc size align->(If r (R 0 1 x) (Wl.c s ⟨203,#[],#[.pointer (some ⟨U.size,0,none⟩),.pointer (some ⟨v.size,0,none⟩)]⟩ x λk v4=>If (decide (k<0)) (R 0 4 v4) (R k 0 v4))):=by
  intro r b;cases hok:Uc size align with
  | false=>
   rw[hok]at b;have:=hR x g;rw[hok]at this;exact cB (by rw[b];rfl) this
  | true=>
   rw[hok]at b;refine cE (by rw[b];rfl) ?_;have G:=hok;simp only[Uc,zE,zS]at G;refine Wl.o ?_;unfold Wl.v;have hlen:=ha.1;have hxl:=((Z6 xs).1 hv).2.1;refine Z5 (a:=bN) (λ(z:Int) w=>∃i:Nat,z=(i:Int)/\i<=xs.length/\bK x w/\∀j c,j<i->(xs.map ZS)[j]?=some c->(decide (size<=(c.size:Int))&&((c.size:Int)%align==0))=false) (λz _=>xs.length-z.toNat) ⟨0,rfl,O,Ext.refl _ _,λj c h=>O⟩ ?_;rintro(z:Int) w ⟨i,rfl,hi,ew,hno⟩;refine cR (λhlt=>?_) λaa=>?_
   ·have X:i<xs.length:=by omega
    have B:(xs.map ZS)[i]?=some (ZS xs[i]):=by simp[X]
    generalize ZS xs[i]=c at B;have C:=ZI ha (g.trans ew);obtain⟨hx,hcok⟩:=UM C hv B;refine vn C hx ?_;refine oS (all := #[.agg #[.int .i64 (c.size:Int),.int .i64 (c.aF:Int),.int .i64 (c.batch:Int)],.pointer (some ⟨U.size,0,none⟩),.pointer (some ⟨v.size,0,none⟩)]) (by kernel_rfl) aA ?_;refine ZA.o ?_;unfold ZA.v;refine nw (cs:=[.int .i64 (c.size:Int),.int .i64 (c.aF:Int),.int .i64 (c.batch:Int)]) λL Y e1 D=>?_;have Q:=e1.bU (ew.bU E id) id;have P:=e1.bU (ew.bU y id) id;have F:=ew.trans e1;have go:∀r,r=(decide (size<=(c.size:Int))&&((c.size:Int)%align==0))->If r (If (decide ((i:Int)<0)) (R 0 4 L) (R (i:Int) 0 L)) (Ar .i64 ((i:Int)+1) λH=>(∃i:Nat,H=(i:Int)/\i<=xs.length/\bK x L/\∀j c,j<i->(xs.map ZS)[j]?=some c->(decide (size<=(c.size:Int))&&((c.size:Int)%align==0))=false)/\xs.length-H.toNat<xs.length-(i:Int).toNat):=by
     intro r b;refine cY (λh1=>fM O ?_) λh0=>?_
     ·have V:gA (xs.map ZS) size align=some i:=by
       obtain⟨W,rfl⟩:=cX.1 B;exact mQ.2 ⟨W,by rw[←b];exact h1,λj K=>by rw[hno j _ K (cW O)];simp⟩
      have:=hR L (g.trans F);rw[hok,V]at this;exact this
     ·exact cQ (m:=i+1) O O ⟨⟨i+1,rfl,O,F,λj d K hd=>by
       by_cases e:j=i
       ·subst e;rw[B]at hd;cases hd;rw[←b];exact h0
       ·exact hno j d O hd⟩,O⟩
    refine D.rI rfl (Q.se rfl ?_);refine KB (λr w=>w=L/\r=(decide (size<=(c.size:Int))&&((c.size:Int)%align==0))) (λr w ⟨Z,b⟩=>by subst Z;exact go r b) λJ A=>?_;refine cR (λaa=>D.rI rfl (P.se rfl (nz O (A _ _ ⟨rfl,?_⟩)))) λhlt2=>A _ _ ⟨rfl,?_⟩
    ·rw[Qz O,zK (by omega:size<=(c.size:Int)),oP]
    ·rw[zM O,sR]
   ·have V:gA (xs.map ZS) size align=none:=by
     unfold gA;rw[sN];intro c B;obtain⟨j,K⟩:=zO B;have:=(cX.1 K).1;simp at this;exact hno j c O K
    have:=hR w (g.trans ew);rw[hok,V]at this;exact kW aB this
 refine xD (λr w=>w=x/\r = !Uc size align) (λr w ⟨Z,b⟩=>by subst Z;exact key r b) λJ A=>?_;have ab:∀m,m=x->cell m ⟨U.size,0,none⟩=some (.int .i64 size):=λm N=>by rw[N,E.cell];rfl
 have u:∀m,m=x->cell m ⟨v.size,0,none⟩=some (.int .i64 align):=λm N=>by rw[N,y.cell];rfl
 refine⟨λm=>m=x,rfl,⟨size,ab,?_⟩⟩;refine cR (λh1=>A _ _ ⟨rfl,?_⟩) λh1=>⟨align,u,cR (λh2=>A _ _ ⟨rfl,?_⟩) λh2=>⟨align,u,cR (λh3=>A _ _ ⟨rfl,?_⟩) λh3=>⟨align,u,⟨align,u,?_⟩⟩⟩⟩
 ·simp only[Uc,zM (by omega:¬1<=size),sR,tZ]
 ·simp only[Uc,zM (by omega:¬1<=align),sR,qV,tZ]
 ·simp only[Uc,zM (by omega:¬align<=256),sR,qV,tZ]
 ·refine Ji align O O λp hp=>⟨rfl,A _ _ ⟨rfl,?_⟩⟩;rw[hp];simp only[Uc,zK (by omega:1<=size),zK (by omega:1<=align),zK (by omega:align<=256),oP]
end Go.Ar
namespace Go.Ar
open Go Go.Vc Go.Proofs
variable {U u u':Hp}{F B P Q:Rg}{L:dP}{H H':Hw}{t k n pb:Nat}{A:AR}{Y:Lay}{x:eC}{g:Th}{c:bZ}{l:Li}{cs:List Value}
def lE (c:bZ):Int×Int×Int:=((c.size:Int),(c.aF:Int),(c.batch:Int))
theorem Il (tb:List bZ):(tb.map lE).map ZS=tb:=by
 rw[lV]
 conv=>rhs;rw[←tj tb]
 apply j5;intro c _;rfl
theorem Jt {s:Sl}{tb:List bZ}(h:cT s 3 (fT tb) U F):hO U s (tb.map lE):=by
 have m:=h.1;rw[Vk]at m;refine⟨by simp;omega,λi x y z e=>?_⟩;rw[zd,nT]at e;obtain⟨c,A,g⟩:=e;obtain⟨p,w,D⟩:=HL A;simp only[lE,Prod.mk.injEq]at g;obtain⟨rfl,rfl,rfl⟩:=g;obtain⟨b,o,d,j⟩:=h.cell p;obtain⟨r,u,a,C⟩:=h.cell w;rw[d]at a;cases a;obtain⟨r,u,a,B⟩:=h.cell D;rw[d]at a;cases a;exact⟨b,o,d,QW j,by rw[show o+i*3=o+3*i by omega];exact j,by rw[show o+i*3+1=o+(3*i+1) by omega];exact C,by rw[show o+i*3+2=o+(3*i+2) by omega];exact B⟩
def lQ (tb:List bZ):Prop:=Qe (tb.map lE)=true
def iL (tb:List bZ)(kind size align addr:Int):Option Ph:=
 if kind=0 then(if 1<=size/\size<=16384 then(if Uc size align then(match gA tb size align with
  | some k=>some (.take k)
  | none=>some (.eB ((size+255).toNat/256)))else none)else none)
 else if kind=1 then some (.find addr)else if kind=2 then some .drain else none
theorem FV (h:HH U F L H)(hv:lQ H.tb)(kind size align addr:Int){R:Value->Hp->Prop}(hR:∀σ',bK U σ'->R (l6 (iL H.tb kind size align addr)) σ'):X7.c (aW L.p) kind size align addr U R:=by
 refine X7.o ?_;unfold X7.v;refine nw (cs:=[.int .i64 kind,.int .i64 size,.int .i64 align,.int .i64 addr]) λv M e s=>s.rI rfl ?_;have B:=h.bO e;have a:=hR v e;refine cY (λz=>?_) λz=>?_
 ·have g:kind=0:=by simpa using z
  have E:iL H.tb kind size align addr=(if 1<=size/\size<=16384 then(if Uc size align then(match gA H.tb size align with
   | some k=>some (.take k)
   | none=>some (.eB ((size+255).toNat/256)))else none)else none):=by unfold iL;rw[zC g]
  rw[E]at hR a;refine s.rI rfl (KB (λr w=>w=v/\r = !decide (1<=size/\size<=16384)) (λr w ⟨G,y⟩=>?_) λJ C=>?_)
  ·subst G;by_cases hs:1<=size/\size<=16384
   ·rw[zC hs]at hR;rw[zK hs]at y;refine cE (by rw[y];rfl) ⟨λm=>m=w,rfl,aG ⟨L.dB,λm x=>by rw[x,add_lit,B.hd.cell];rfl,⟨size,λm x=>by rw[x,add_lit,s.cell];rfl,⟨align,λm x=>by rw[x,add_lit,s.cell];rfl,?_⟩⟩⟩⟩;refine FN (Jt B.ji) hv size align λD e2=>?_;rw[Il];have A:=e2.bU s id;have b:=hR D (e.trans e2);cases hok:Uc size align with
    | false=>
     rw[hok]at b;exact cE rfl (cE rfl b)
    | true=>
     rw[hok]at b;simp only[zP]at b ⊢;cases hcl:gA H.tb size align with
     | some k=>rw[hcl]at b;exact cB rfl b
     | none=>
      rw[hcl]at b;refine cE rfl (cB rfl (A.rI rfl (ar O O (ar O O (nz aB (ar (by rw[Yi O];omega) (by rw[Yi O];omega) ?_))))));rw[Yi O];have:(size+256-1)/256=(((size+255).toNat/256:Nat):Int):=by omega
      rw[this];exact b
   ·rw[zB hs]at a;rw[zM hs]at y;exact cB (by rw[y];rfl) a
  ·refine cR (λK=>C _ _ ⟨rfl,?_⟩) λK=>s.rI rfl (C _ _ ⟨rfl,?_⟩)
   ·rw[zM O];rfl
   ·by_cases h2:size>16384
    ·rw[zK h2,zM O];rfl
    ·rw[zM h2,zK O];rfl
 ·have g:kind≠0:=by simpa using z
  refine cY (λj=>s.rI rfl ?_) λj=>?_
  ·have d:kind=1:=by simpa using j
   unfold iL at a;rw[zB g,zC d]at a;exact a
  ·have d:kind≠1:=by simpa using j
   refine cY (λu=>?_) λu=>?_
   ·have i:kind=2:=by simpa using u
    unfold iL at a;rw[zB g,zB d,zC i]at a;exact a
   ·have i:kind≠2:=by simpa using u
    unfold iL at a;rw[zB g,zB d,zB i]at a;exact a
def Kq (H:Hw)(thread kind size align addr:Int):Int ⊕ (Nat×Ph):=
 if 0<=thread/\thread<(H.bQ.length:Int)then(match H.bQ[thread.toNat]? with
  | some g=>(if g.ph=none then(match iL H.tb kind size align addr with
   | some p=>.inr (thread.toNat,p)
   | none=>.inl 1)else .inl 5)
  | none=>.inl 1)else .inl 1
theorem Jw (h:HH U F L H)(hv:lQ H.tb)(thread kind size align addr:Int){R:aN}(h0:∀e,Kq H thread kind size align addr=.inl e->e≠0->∀σ',Ext F U σ'->HH σ' (Grow F U) L H->R e σ')
 (h1:∀t p,Kq H thread kind size align addr=.inr (t,p)->thread=(t:Int)->t<H.bQ.length->∀σ',Ext F U σ'->HH σ' (Grow F U) L (eL H t (some p))->R 0 σ'):YO.c (aW L.p) thread kind size align addr U R:=by
 refine YO.o ?_;unfold YO.v;refine nw (cs:=[.int .i64 kind,.int .i64 size,.int .i64 align,.int .i64 addr]) λv u e d=>?_;have K1:=(HK.start h).box e u;refine V0 K1.h (cE rfl (GX K1.h thread ?_));by_cases hth:0<=thread/\thread<(H.bQ.length:Int)
 ·obtain⟨t,rfl⟩:∃t:Nat,thread=(t:Int):=⟨thread.toNat,O⟩;have j:t<H.bQ.length:=by omega
  obtain⟨x,g,m,i⟩:=h.th j;have a:Kq H (t:Int) kind size align addr=(if g.ph=none then(match iL H.tb kind size align addr with
   | some p=>.inr (t,p)
   | none=>.inl 1)else .inl 5):=by
   unfold Kq;rw[zC hth,dC,i]
  refine cE (by rw[zK hth];rfl) (aG (K1.h.hd.rS rfl (K1.h.tR m i ⟨sH _,?_⟩)));cases hp:g.ph with
  | some p=>
   rw[hp,zB aA]at a;exact cB (by rw[G5];rfl) (h0 5 a aB v K1.e (K1.fin h))
  | none=>
   rw[hp,zC rfl]at a;refine cE rfl (d.rI rfl (d.rI rfl (d.rI rfl (d.rI rfl (FV K1.h hv kind size align addr λv3 r=>⟨sH _,?_⟩)))));have K3:=K1.fr r;rw[G5];cases hq:iL H.tb kind size align addr with
   | none=>
    rw[hq]at a;exact cB rfl (h0 1 a aB v3 K3.e (K3.fin h))
   | some p=>
    rw[hq]at a;refine cE rfl (aG (K3.h.hd.rS rfl (K3.h.qB m i (some p) λz s w=>?_)));have K4:=K3.to s w λb _ d=>.inl d;have y:eL H t (some p) = {H with bQ:=H.bQ.set t {g with ph:=some p}}:=Zj i _;rw[←y]at K4;exact h1 t p a rfl j z K4.e (K4.fin h)
 ·have a:Kq H thread kind size align addr=.inl 1:=by unfold Kq;rw[zB hth]
  exact cB (by rw[zM hth];rfl) (h0 1 a aB v K1.e (K1.fin h))
theorem LN {p:Option Ph}(ht:t<H.bQ.length):∃g,(eL H t p).bQ[t]?=some g/\g.ph=p:=
 ⟨{H.bQ[t]with ph:=p},by simp[eL,Hw.dQ,rK,cW ht],rfl⟩
theorem Cp (hso:Hz)(h:HH U F L H)(hv:lQ H.tb)(thread kind size align addr:Int){R:Int->Int->Hp->Prop}(h0:∀e,Kq H thread kind size align addr=.inl e->e≠0->∀σ',Ext F U σ'->HH σ' (Grow F U) L H->R 0 e σ')
 (h1:∀t p,Kq H thread kind size align addr=.inr (t,p)->∃n H' a e,il n (eL H t (some p)) t p H' a e/\∀σ' ts',Ext F U σ'->HH σ' (Grow F U) {L with ts:=ts'} H'->R a e σ'):XP.c (aW L.p) thread kind size align addr U R:=by
 refine XP.o ?_;unfold XP.v;refine nw (cs:=[.int .i64 kind,.int .i64 size,.int .i64 align,.int .i64 addr]) λv hz e i=>i.rI rfl (i.rI rfl (i.rI rfl (i.rI rfl ?_)));have K1:=(HK.start h).box e hz;refine Jw K1.h hv thread kind size align addr (λA he z v1 e1 u=>?_) λt p X af ht v1 e1 u=>?_
 ·have K2:=K1.to e1 u λb _ i=>i;exact cB (by simpa using z) (h0 A he z v1 K2.e (K2.fin h))
 ·subst af;have K2:=K1.to e1 u λb _ i=>i;obtain⟨n,Hf,a,A,d,y⟩:=h1 t p X;refine cE rfl (LI (λn w=>∃(B P:Rg) (ts:List eC) (H:Hw) (p:Ph),HK F U B w P {L with ts:=ts} H/\(∃g,H.bQ[t]?=some g/\g.ph=some p)/\il n H t p Hf a A) ⟨n,_,_,L.ts,_,p,K2,LN ht,d⟩ ?_);rintro n w ⟨B,P,ts,H2,r,K,⟨g,hg,ad⟩,d⟩ J hJ;have go:sP H2 t r->((Wt H2 t r).2.1.isNone=true->(Wt H2 t r).2.2.1=a/\(Wt H2 t r).2.2.2=A/\Qj H2 t r=Hf)->((Wt H2 t r).2.1.isNone=false->∃m M,m<n/\(Wt H2 t r).2.1=some M/\il m (Qj H2 t r) t M Hf a A)->YU.c (aW L.p) (t:Int) w λY G x t223 v3=>Nw (.cells #[.int .i64 0,.int .i64 0] 125 (0,0)) v3 λj v4=>eP (j.add 0) (.int .i64 G) v4 λv5=>eP (j.add 1) (.int .i64 x) v5 λs=>If Y (gP .i64 (j.add 0) s λQ=>gP .i64 (j.add 1) s λS=>R Q S s) (J s):=by
   intro hok hd hn;refine MB hso K.h hg ad hok λv3 C e3 W=>?_;have K3:=K.to e3 W λb _ i=>i;refine nw (cs:=[.int .i64 0,.int .i64 0]) λv4 ae e4 ab=>?_;have K4:=K3.box e4 ae;refine ab.s1 aA λv5 o5 b5=>b5.s1 aA λs o6 b6=>?_;have K6:=(K4.own o5 (.inr rfl)).own o6 (.inr rfl);refine cY (λV=>?_) λZ=>?_
   ·obtain⟨q1,q2,q3⟩:=hd V;rw[q3]at K6;refine b6.rI rfl (b6.rI rfl ?_);rw[q1,q2];exact y s C K6.e (K6.fin h)
   ·obtain⟨m,M,hm,ag,ac⟩:=hn Z;have aa:t<H2.bQ.length:=(cX.1 hg).1;obtain⟨g',N,D⟩:=Dc (p:=r) aa;exact hJ m s hm ⟨_,_,C,_,M,K6,⟨g',N,by rw[D,ag]⟩,ac⟩
  cases d with
  | done hok hnone=>exact go hok (λ_=>⟨rfl,rfl,rfl⟩) λE=>by rw[hnone]at E;cases E
  | next hok hsome hrun'=>exact go hok (λE=>by rw[hsome]at E;cases E) λ_=>⟨_,_,Nat.lt_succ_self _,hsome,hrun'⟩
end Go.Ar
namespace Go.Ar
open Go Go.Vc Go.Proofs
variable {U u w w':Hp}{F B P Q:Rg}{n:Nat}{cs:List Value}{tb:List bZ}{cf:Cf}
def VG (tb:List bZ)(cf:Cf):Hw:=⟨tb,cf,KZ cf.aF,List.replicate cf.gL (eR cf.aF cf.room tb),List.replicate cf.threads ⟨List.replicate tb.length gS,[],none⟩,[]⟩
def p8 (p a t b r:Int):Bool:=decide (32<=p)&&decide (p<=1024)&&(p%16==0)&&decide (1<=a)&&decide (a<=4)&&decide (1<=t)&&decide (t<=4)&&decide (0<=b)&&decide (b<=65536)&&decide (0<=r)&&decide (r<=8)
theorem lvl {K:aO}{r:Bool}{a:Addr}{x:Int}{k:IntKind}{f:Int->Bool}(hl:∀{K':Int->Prop},K' x->gP k a w K')(h:K (r&&f x) w):bR K λJ=>If r (gP k a w λt=>J (f t) w) (J false w):=
 bR.intro (cY (λb=>hl (by rw[b]at h;exact h)) λb=>by rw[b]at h;exact h)
theorem EE (p a t b r:Int){R:aO}(hR:∀σ',bK U σ'->R (p8 p a t b r) σ'):Qf.c p a t b r U R:=by
 refine Qf.o ?_;unfold Qf.v;refine nw (cs:=[.int .i64 p,.int .i64 a,.int .i64 t,.int .i64 b,.int .i64 r]) λv A e g=>g.rI rfl ?_;have i:=hR v e;unfold p8 at i;refine KB (λj w=>w=v/\j=(decide (32<=p)&&decide (p<=1024))) (λj w ⟨u,x⟩=>?_) λJ m=>?_
 ·subst u;subst x;refine KB (λj z=>z=w/\j=(decide (32<=p)&&decide (p<=1024)&&(p%16==0))) (λj z ⟨u,x⟩=>?_) λJ m=>?_
  ·rw[u];subst x;exact lvl (λd=>g.rI rfl d) (lvl (λd=>g.rI rfl d) (lvl (λd=>g.rI rfl d) (lvl (λd=>g.rI rfl d) (lvl (λd=>g.rI rfl d) (lvl (λd=>g.rI rfl d) (lvl (λd=>g.rI rfl d) (lvl (λd=>g.rI rfl d) i)))))))
  ·refine cY (λs=>g.rI rfl (nz aB (m _ _ ⟨rfl,?_⟩))) λy=>m _ _ ⟨rfl,?_⟩
   ·simp only[zE,zS]at s;rw[Qz O,zK s.1,zK s.2];rfl
   ·rw[y];rfl
 ·refine cR (λs=>g.rI rfl (m _ _ ⟨rfl,?_⟩)) λy=>m _ _ ⟨rfl,?_⟩
  ·rw[zK (by omega:32<=p)];rfl
  ·rw[zM O];rfl
structure nq where
 p:Nat
 dB:Sl
 lm:Nat
 hs:Option Nat
 hp:Option Nat
 aw:Sl
 al:List Nat
 ha:Sl
 tw:Sl
 tl:List Value
 ht:Sl
 ys:List Lay
 cs:List gp
def py (cf:Cf)(N:nq):List Value:=[.slice N.dB.a N.dB.len N.dB.cap,.int .i64 (cf.aF:Int),.int .i64 (cf.gL:Int),.int .i64 (cf.threads:Int),.int .i64 (cf.cZ:Int),.int .i64 (cf.room:Int),
 .pointer (N.hp.map λq=>⟨q,0,none⟩),.slice N.ha.a N.ha.len N.ha.cap,.slice N.ht.a N.ht.len N.ht.cap,.map (some N.lm)]
def pV (n room:Nat)(tb:List bZ)(y:Option Lay):Hp->Rg->Prop:=λU F=>match y with
 | some Y=>dE U F Y (eR n room tb) (cJ (eR n room tb) Y)
 | none=>True
def pW (tb:List bZ)(bud:Nat)(y:Option gp):Hp->Rg->Prop:=λU F=>match y with
 | some Y=>dX U F Y tb bud (List.replicate tb.length gS)
 | none=>True
def wj (n:Nat)(q:Option Nat):Hp->Rg->Prop:=λU F=>match q with
 | some q=>dJ U F q (KZ n)
 | none=>True
def iA (tb:List bZ)(cf:Cf)(N:nq):j8->Hp->Rg->Prop
 | .hd=>ib N.p (py cf N)
 | .dB=>cT N.dB 3 (fT tb)
 | .sp=>wj cf.aF N.hs
 | .fI=>bW N.aw 1 (fC N.al)
 | .cN=>bW N.tw 3 N.tl
 | .live=>jk N.lm .i64 (.ag 4) []
 | .ar k=>pV cf.aF cf.room tb N.ys[k]?
 | .ca k=>pW tb cf.cZ N.cs[k]?
 | .hn _=>λ_ _=>True
theorem pV.loc (n room:Nat)(tb:List bZ)(y:Option Lay):dK (pV n room tb y):=by
 intro U σ' F G h hz hs;cases y with
 | some Y=>exact dE.loc _ _ _ _ h hz hs
 | none=>trivial
theorem pW.loc (tb:List bZ)(bud:Nat)(y:Option gp):dK (pW tb bud y):=by
 intro U σ' F G h hz hs;cases y with
 | some Y=>exact dX.loc _ _ _ _ h hz hs
 | none=>trivial
theorem wj.loc (n:Nat)(q:Option Nat):dK (wj n q):=by
 intro U σ' F G h hz hs;cases q with
 | some q=>exact dJ.loc _ _ _ _ h hz hs
 | none=>trivial
theorem iA.loc {N:nq}:∀i,dK (iA tb cf N i)
 | .hd=>ib.loc _ _
 | .dB=>cT.loc _ _ _
 | .sp=>wj.loc _ _
 | .fI=>bW.loc _ _ _
 | .cN=>bW.loc _ _ _
 | .live=>jk.loc _ _ _ _
 | .ar k=>pV.loc _ _ _ _
 | .ca k=>pW.loc _ _ _
 | .hn _=>λ_ _ _ _ _ _ _=>trivial
structure NK (U:Hp) (B:Rg) (w:Hp) (P:Rg) (tb:List bZ) (cf:Cf) (N:nq):Prop where
 sep:Sep (iA tb cf N) w P
 e:bK U w
 p:∀b,P b->U.size<=b/\¬B b/\b<w.size
 b:∀b,B b->U.size<=b/\b<w.size
variable {N N':nq}
theorem NK.fr (K:NK U B w P tb cf N)(e:bK w w'):NK U B w' P tb cf N:=
 ⟨(Sep.loc iA.loc).bO K.sep e,K.e.trans e,λb a=>⟨(K.p b a).1,(K.p b a).2.1,by have:=(K.p b a).2.2;have:=e.1;omega⟩,λb a=>by have:=K.b b a;have:=e.1;omega⟩
theorem NK.box (K:NK U B w P tb cf N)(e:bK w w')(hz:w'.size=w.size+1):NK U (λb=>B b\/b=w.size) w' P tb cf N:=by
 have h:=K.fr e;have i:=K.e.1;exact⟨h.sep,h.e,λb a=>⟨(K.p b a).1,λd=>d.elim (K.p b a).2.1 λg=>by have:=(K.p b a).2.2;omega,(h.p b a).2.2⟩,λb a=>a.elim (h.b b) λg=>O⟩
theorem NK.drop (K:NK U B w P tb cf N){B':Rg}(hb:∀b,B' b->B b):NK U B' w P tb cf N:=⟨K.sep,K.e,λb h=>⟨(K.p b h).1,λa=>(K.p b h).2.1 (hb b a),(K.p b h).2.2⟩,λb h=>K.b b (hb b h)⟩
theorem NK.put (K:NK U B w P tb cf N)(e:bK w w')(i:j8)(hj:∀j,j≠i->iA tb cf N' j=iA tb cf N j)(hi:iA tb cf N' i w' (λb=>w.size<=b)):NK U B w' (λb=>P b\/w.size<=b/\b<w'.size) tb cf N':=by
 have h:=K.fr e;have m:=K.e.1;refine⟨h.sep.put iA.loc i (G:=λb=>w.size<=b/\b<w'.size) (λb a g=>by have:=(K.p b g).2.2;omega) hj ((iA.loc i).mono hi λb a d=>⟨d,a⟩) (iA.loc i),h.e,λb a=>?_,h.b⟩;rcases a with a|a
 ·exact h.p b a
 ·exact⟨O,λd=>by have:=(K.b b d).2;omega,a.2⟩
theorem NK.step (K:NK U B w P tb cf N)(i:j8):∃G:Rg,(∀b,G b->P b)/\iA tb cf N i w G/\∀(w':Hp) (N':nq) (G':Rg),(∀j,j≠i->iA tb cf N' j=iA tb cf N j)->Ext G w w'->(∀b,G' b->G b\/w.size<=b/\¬B b)->iA tb cf N' i w' G'->(∀b,B b->b<w'.size) →
 NK U B w' (λb=>(P b/\¬G b\/G' b)/\b<w'.size) tb cf N':=by
 obtain⟨G,m,x,_,g⟩:=K.sep.jA iA.loc i;refine⟨G,m,x,λw' N' G' y e r u s=>⟨?_,?_,λb a=>?_,λb a=>⟨(K.b b a).1,s b a⟩⟩⟩
 ·have:=g w' (iA tb cf N') G' y e (λb a=>(r b a).imp id λd=>d.1) u (iA.loc _);refine(Sep.loc iA.loc).mono this λb a d=>⟨?_,a⟩;exact d.imp (λd=>⟨d.1,d.2.2⟩) id
 ·exact Ext.dS K.e e λb a=>.inr (K.p b (m b a)).1
 ·have z:=K.e.1;rcases a.1 with h1|h1
  ·exact⟨(K.p b h1.1).1,(K.p b h1.1).2.1,a.2⟩
  ·rcases r b h1 with h2|h2
   ·exact⟨(K.p b (m b h2)).1,(K.p b (m b h2)).2.1,a.2⟩
   ·exact⟨O,h2.2,a.2⟩
theorem yY {K:eH [.p]}{body:eH [.p]->Prop}(P:Option Addr->Hp->Prop)(h1:∀r w,P r w->K r w)(h2:∀J:eH [.p],(∀r w,P r w->J r w)->body J):Jn [.p] K body:=Jn.intro (h2 K h1)
def fZ:Sl:=⟨none,0,0⟩
def oo (cs:List gp):List Value:=cs.flatMap λc=>[.pointer (some ⟨c.p,0,none⟩),.slice none 0 0,.nilIface]
def N0 (p:Nat)(dB:Sl)(lm:Nat):nq:=⟨p,dB,lm,none,none,fZ,[],fZ,fZ,[],fZ,[],[]⟩
def NB (p:Nat)(dB:Sl)(lm q:Nat)(aw:Sl)(ys:List Lay)(tw:Sl)(cs:List gp):nq:=⟨p,dB,lm,some q,some q,aw,ys.map (·.p),aw,tw,oo cs,tw,ys,cs⟩
theorem Bf {p lm:Nat}{dB:Sl}{D:Rg}(e:bK U w)(hz:U.size<w.size)(hp:bX w p (py cf (N0 p dB lm)))(hm:dI w lm .i64 (.ag 4) [])(ht:cT dB 3 (fT tb) w D)(hD:∀b,D b->U.size<b/\b<w.size/\b≠p/\b≠lm)(hpl:p≠lm)(h1:U.size<p)(h2:U.size<lm) :
 NK U (· = U.size) w (λb=>D b\/b=p\/b=lm) tb cf (N0 p dB lm):=by
 have g:=hp.lt;have d:=hm.lt;refine⟨⟨λb=>if b=p then .hd else if b=lm then .live else .dB,λi=>?_⟩,e,λb a=>?_,λb a=>O⟩
 ·cases i with
  | hd=>exact⟨⟨.inr (.inl rfl),zC rfl⟩,hp⟩
  | live=>exact⟨⟨.inr (.inr rfl),by show(if lm=p then j8.hd else if lm=lm then j8.live else j8.dB)=.live;rw[zB (Ne.symm hpl),zC rfl]⟩,hm⟩
  | dB=>exact aH.mono ht λb _ a=>⟨.inl a,by show(if b=p then j8.hd else if b=lm then j8.live else j8.dB)=.dB;rw[zB (hD b a).2.2.1,zB (hD b a).2.2.2]⟩
  | sp=>trivial
  | fI=>exact bW.nil _ _ _ _
  | cN=>exact bW.nil _ _ _ _
  | ar k=>trivial
  | ca k=>trivial
  | hn k=>trivial
 ·rcases a with a|a|a
  ·have:=hD b a;omega
  ·omega
  ·omega
theorem NK.vK (K:NK U B w P tb cf N):P N.p/\bX w N.p (py cf N):=by
 obtain⟨G,b,a⟩:=K.sep.get .hd;exact⟨b _ a.1,a.2⟩
theorem NK.rf (K:NK U B w P tb cf N)(N':nq)(hN':∀j,j≠.hd->iA tb cf N' j=iA tb cf N j)(hp:N'.p=N.p){i:Nat}{v:Value}(hs:(py cf N).set i v=py cf N')(hi:i<10){Kk:aP}(hK:∀w' P',NK U B w' P' tb cf N'->Qg w w' N.p->Kk w'):eP (Addr.add ⟨N.p,0,none⟩ i) v w Kk:=by
 obtain⟨G,m,d,a⟩:=K.step .hd;have d:ib N.p (py cf N) w G:=d;refine d.2.s1 (by simpa[py]using hi) λw' o g=>hK w' _ (a w' N' G hN' (o.ext.sub λx e=>by rw[e];exact d.1) (λx e=>.inl e) ?_ λx e=>by have:=(K.b x e).2;have:=o.1;omega) o;show ib N'.p (py cf N') w' G;rw[zH,hs]at g;rw[hp];exact⟨d.1,g⟩
theorem EG {Y:Lay}(h:N'.ys=N.ys++[Y])(hr:∀j,(∀k,j≠.ar k)->iA tb cf N' j=iA tb cf N j):∀j,j≠j8.ar N.ys.length->iA tb cf N' j=iA tb cf N j:=by
 intro j hj;cases j with
 | ar k=>
  have a:k≠N.ys.length:=λe=>hj (by rw[e]);show pV _ _ _ N'.ys[k]?=pV _ _ _ N.ys[k]?;rw[h]
  congr 1
  rcases Nat.lt_or_gt_of_ne a with h1|h1
  ·rw[zg h1]
  ·rw[zT aE,zT O]
 | _=>exact hr _ (λk e=>by cases e)
theorem Fm {Y:gp}(h:N'.cs=N.cs++[Y])(hr:∀j,(∀k,j≠.ca k)->iA tb cf N' j=iA tb cf N j):∀j,j≠j8.ca N.cs.length->iA tb cf N' j=iA tb cf N j:=by
 intro j hj;cases j with
 | ca k=>
  have a:k≠N.cs.length:=λe=>hj (by rw[e]);show pW _ _ N'.cs[k]?=pW _ _ N.cs[k]?;rw[h]
  congr 1
  rcases Nat.lt_or_gt_of_ne a with h1|h1
  ·rw[zg h1]
  ·rw[zT aE,zT O]
 | _=>exact hr _ (λk e=>by cases e)
end Go.Ar
namespace Go.Ar
open Go Go.Vc Go.Proofs
variable {U u w w':Hp}{F B P Q:Rg}{n:Nat}{cs:List Value}{tb:List bZ}{cf:Cf}{N:nq}
theorem D3 (p a t b r:Int):p8 p a t b r=true↔(32<=p/\p<=1024/\p%16=0)/\(1<=a/\a<=4)/\(1<=t/\t<=4)/\(0<=b/\b<=65536)/\0<=r/\r<=8:=by
 simp only[p8,zE,zS,zV];omega
theorem AF (g:Gl U)(gd:Gd U):iC (λb=>U.size<=b)/\¬(U.size<=1):=by
 refine⟨?_,λh=>by have:=yU gd;omega⟩;have d:iC (λ_=>False):=λb a=>a.elim;exact(d.grow g).sub λb a=>.inr a
theorem MI (cs:List gp)(ls:List Li):gF (cs.map λc=>⟨c,fZ⟩) (List.replicate cs.length ⟨ls,[],none⟩)=oo cs:=by
 induction cs with
 | nil=>rfl
 | cons c cs ih=>
  have e1:gF ((c::cs).map λc=>(⟨c,fZ⟩:eC)) (List.replicate (c::cs).length ⟨ls,[],none⟩)=jg (⟨c,fZ⟩,⟨ls,[],none⟩)++gF (cs.map λc=>(⟨c,fZ⟩:eC)) (List.replicate cs.length ⟨ls,[],none⟩):=rfl;rw[e1,ih];rfl
theorem NX (cs:List gp):(oo cs).length=cs.length*3:=by
 induction cs with
 | nil=>rfl
 | cons c cs ih=>simp only[oo,qQ,zQ,zW,kI]at *;omega
set_option maxRecDepth 8000 in
theorem NF {s:Sl}{xs:List (Int×Int×Int)}(ha:hO U s xs)(g:Gl U)(gd:Gd U)(p a t b r:Int){R:Option Addr->Int->Hp->Prop}
 (h2:Qe xs=false->∀σ',bK U σ'->R none 2 σ')
 (h1:Qe xs=true->p8 p a t b r=false->∀σ',bK U σ'->R none 1 σ')
 (h0:Qe xs=true->p8 p a t b r=true->∀σ' L,bK U σ'->HH σ' (λq=>U.size<=q) L (VG (xs.map ZS) ⟨p.toNat,a.toNat,t.toNat,b.toNat,r.toNat⟩)->R (some ⟨L.p,0,none⟩) 0 σ') :
 Q9.c s p a t b r U R:=by
 refine Q9.o ?_;unfold Q9.v;refine nw (cs:=[.int .i64 p,.int .i64 a,.int .i64 t,.int .i64 b,.int .i64 r]) λv hz e y=>?_;refine HO (ZI ha e) λv1 e1=>?_;cases hv:Qe xs with
 | false=>exact cB rfl (h2 hv v1 (e.trans e1))
 | true=>
 have X:=e1.bU y id;refine cE rfl (X.rI rfl (X.rI rfl (X.rI rfl (X.rI rfl (X.rI rfl (EE p a t b r λv2 e2=>?_))))));have aa:=(e.trans e1).trans e2;cases hc:p8 p a t b r with
 | false=>exact cB rfl (h1 hv hc v2 aa)
 | true=>
 have hcf:=(D3 p a t b r).1 hc;obtain⟨p,rfl⟩:∃n:Nat,p=(n:Int):=⟨p.toNat,O⟩;obtain⟨a,rfl⟩:∃n:Nat,a=(n:Int):=⟨a.toNat,O⟩;obtain⟨t,rfl⟩:∃n:Nat,t=(n:Int):=⟨t.toNat,O⟩;obtain⟨b,rfl⟩:∃n:Nat,b=(n:Int):=⟨b.toNat,O⟩;obtain⟨r,rfl⟩:∃n:Nat,r=(n:Int):=⟨r.toNat,O⟩;simp only[dC]at h0;have h0:=h0 hv hc;have A:=e2.bU X id;have hxl:=(Z6 xs).1 hv;have hz2:=aa.1;have hz02:U.size<v2.size:=A.lt;generalize hcfd:(⟨p,a,t,b,r⟩:Cf)=cf at h0;generalize htbd:xs.map ZS=tb at h0;have hdE:∀(q:Nat) (dB:Sl) (C:Nat),py cf (N0 q dB C)=[.slice dB.a dB.len dB.cap,.int .i64 (p:Int),.int .i64 (a:Int),.int .i64 (t:Int),.int .i64 (b:Int),.int .i64 (r:Int),.pointer none,.slice none 0 0,.slice none 0 0,.map (some C)]:=λq dB C=>by rw[←hcfd];rfl
 refine cE rfl (yY (λvh w=>∃P q dB C,vh=some ⟨q,0,none⟩/\NK U (· = U.size) w P tb cf (N0 q dB C)/\bX w U.size [.int .i64 (p:Int),.int .i64 (a:Int),.int .i64 (t:Int),.int .i64 (b:Int),.int .i64 (r:Int)]) (λvh w ⟨P,q,dB,C,hvh,K,hbw⟩=>?_) λJ hJ=>?_)
 ·subst hvh;refine hbw.rI rfl (EO (n:=p) O O λv4 sp e4 _ hS=>?_);have hp:cf.aF=p:=by rw[←hcfd]
  have hroom:cf.room=r:=by rw[←hcfd]
  have hbud:cf.cZ=b:=by rw[←hcfd]
  have K1:NK U (· = U.size) v4 _ tb cf {N0 q dB C with hs:=some sp}:=K.put e4 .sp (λj M=>by cases j<;>first|rfl|exact absurd rfl M) (by
   show dJ v4 _ sp (KZ cf.aF);rw[hp];exact hS)
  have hbw4:=e4.bU hbw id;refine aG (K1.rf (NB q dB C sp fZ [] fZ []) (λj M=>by cases j<;>first|rfl|exact absurd rfl M) rfl (i:=6) rfl O λv5 P5 K5 o5=>?_)
  have ai:∀{w:Hp} {P:Rg} {N:nq},NK U (· = U.size) w P tb cf N->U.size≠N.p:=λK e=>(K.p _ K.vK.1).2.1 e.symm;have hbw5:=Wr o5 hbw4 (ai K1);refine hbw5.rI rfl ?_;refine Z5 (a:=bN) (λ(z:Int) w=>∃(P:Rg) (aw:Sl) (ys:List Lay),z=(ys.length:Int)/\ys.length<=a/\(∀Y∈ys,Y.hs=sp)/\NK U (· = U.size) w P tb cf (NB q dB C sp aw ys fZ [])/\bX w U.size [.int .i64 (p:Int),.int .i64 (a:Int),.int .i64 (t:Int),.int .i64 (b:Int),.int .i64 (r:Int)]) (λz _=>a-z.toNat) ⟨P5,fZ,[],rfl,by simp,by simp,K5,hbw5⟩ ?_;rintro(z:Int) w6 ⟨P6,aw,ys,rfl,hyl,hys,K6,hbw6⟩;refine cR (λhlt=>?_) λhge=>?_
  ·refine⟨λu=>u=w6,rfl,aG ⟨some ⟨sp,0,none⟩,λu hu=>by cases hu;rw[add_lit];exact(bX.cell (b:=q) K6.vK.2).trans rfl,⟨(r:Int),λu hu=>by cases hu;rw[add_lit,hbw6.cell];rfl,?_⟩⟩⟩;obtain⟨GS,hGS,hSp⟩:=K6.sep.get .sp;have hSp:dJ w6 GS sp (KZ cf.aF):=hSp;have hnl:(KZ cf.aF).st.length=p:=by rw[hp];simp[KZ]
   have hnE:ko xs (KZ cf.aF).st.length (r:Int)=0:=by
    unfold ko;rw[zC hv,hnl,zC O]
   refine MD (ZI ha K6.e) hSp (r:Int) (λhne=>absurd hnE hne) λ_ v7 Y e7 hYh hA=>?_;rw[hnl,dC,htbd]at hA;have K7:NK U (· = U.size) v7 _ tb cf {NB q dB C sp aw ys fZ []with ys:=ys++[Y]}:=K6.put e7 (.ar ys.length) (EG (N:=NB q dB C sp aw ys fZ []) rfl (λj M=>by
    cases j with
    | ar k=>exact absurd rfl (M k)
    | _=>rfl)) (by
    show pV cf.aF cf.room tb (ys++[Y])[ys.length]? v7 _;rw[zn (zD _),pT,hp,hroom];exact hA)
   have V:=e7.bU hbw6 id;refine aG (K7.vK.2.rS (a:=aw.a) (n:=aw.len) (c:=aw.cap) rfl (nw (cs:=[.pointer (some ⟨Y.p,0,none⟩)]) λv8 hz8 e8 hb8=>?_));have K8:=K7.box e8 hz8;obtain⟨G,hG,d,aj⟩:=K8.step .fI;have d:bW aw 1 (fC (ys.map (·.p))) v8 G:=d;have hal:aw.len=ys.length:=by have:=d.1;simp[fC]at this;omega
   refine d.app (ys:=[.pointer (some ⟨Y.p,0,none⟩)]) rfl rfl ?_ (by simp[dV]) ?_ ?_ mI λs' v9 _ e9 hr9=>?_
   ·intro j u hu;rw[add_lit,zH,hb8.cell];exact hu
   ·simp only;omega
   ·simp only;omega
   have hz9:=e9.1;have hbw9:bX v9 U.size _:=e9.bU (e8.bU V id) λF=>(K8.p _ (hG _ F)).2.1 (.inl rfl);have K9:=(aj v9 {NB q dB C sp aw ys fZ []with ys:=ys++[Y],aw:=s',al:=(ys++[Y]).map (·.p)} (λb=>Grow G v8 b/\b<v9.size) (λj M=>by cases j<;>first|rfl|exact absurd rfl M) e9 (λb y=>y.1.imp id λF=>⟨F,λhB=>by have:=(K8.b b hB).2;omega⟩) (by
    show bW s' 1 (fC ((ys++[Y]).map (·.p))) v9 _;have:fC ((ys++[Y]).map (·.p))=fC (ys.map (·.p))++[.pointer (some ⟨Y.p,0,none⟩)]:=by simp[fC]
    rw[this];exact aI.mono hr9 λb y F=>⟨F,y⟩) λb hB=>by have:=(K8.b b hB).2;omega).drop (B':=(· = U.size)) λb y=>.inl y
   refine aG (K9.rf (NB q dB C sp s' (ys++[Y]) fZ []) (λj M=>by cases j<;>first|rfl|exact absurd rfl M) rfl (i:=7) rfl O λae P10 K10 gG=>?_)
   have H:=Wr gG hbw9 (ai K9);exact cQ (m:=ys.length+1) O O ⟨⟨P10,s',ys++[Y],by simp,by simp;omega,λZ hZ=>(zL.1 hZ).elim (hys Z) λh=>by
    rw[zR]at h;rw[h];exact hYh,K10,H⟩,O⟩
  ·have hya:ys.length=a:=by omega
   refine hbw6.rI rfl ?_;refine Z5 (a:=bN) (λ(z:Int) w=>∃(P:Rg) (tw:Sl) (cs:List gp),z=(cs.length:Int)/\cs.length<=t/\NK U (· = U.size) w P tb cf (NB q dB C sp aw ys tw cs)/\bX w U.size [.int .i64 (p:Int),.int .i64 (a:Int),.int .i64 (t:Int),.int .i64 (b:Int),.int .i64 (r:Int)]) (λz _=>t-z.toNat) ⟨P6,fZ,[],rfl,by simp,K6,hbw6⟩ ?_;rintro(z:Int) w7 ⟨P7,tw,cs,rfl,hcsl,K7,V⟩;refine cR (λhlt=>?_) λhge2=>?_
   ·refine V.rI rfl (JP (ZI ha K7.e) (b:Int) (λhvf=>by rw[hv]at hvf;cases hvf) (λ_ hn=>absurd ⟨O,O⟩ hn) λ_ _ _ v8 Y e8 hC=>?_);rw[dC,htbd]at hC;have K8:NK U (· = U.size) v8 _ tb cf {NB q dB C sp aw ys tw cs with cs:=cs++[Y]}:=K7.put e8 (.ca cs.length) (Fm (N:=NB q dB C sp aw ys tw cs) rfl (λj M=>by
     cases j with
     | ca k=>exact absurd rfl (M k)
     | _=>rfl)) (by
     show pW tb cf.cZ (cs++[Y])[cs.length]? v8 _;rw[zn (zD _),pT,hbud];exact hC)
    have hbw8:=e8.bU V id;refine aG (K8.vK.2.rS (a:=tw.a) (n:=tw.len) (c:=tw.cap) rfl (nw (cs:=[.pointer (some ⟨Y.p,0,none⟩),.slice none 0 0,.nilIface]) λv9 hz9 e9 hb9=>?_));have K9:=K8.box e9 hz9;obtain⟨G,hG,d,aj⟩:=K9.step .cN;have d:bW tw 3 (oo cs) v9 G:=d;have hal:tw.len=cs.length:=by have:=d.1;rw[NX]at this;omega
    refine d.app (ys:=[.pointer (some ⟨Y.p,0,none⟩),.slice none 0 0,.nilIface]) rfl rfl ?_ (by simp[dV]) ?_ ?_ mI λs' ae _ e10 hr10=>?_
    ·intro j u hu;rw[add_lit,zH,hb9.cell];exact hu
    ·simp only;omega
    ·simp only;omega
    have hz10:=e10.1;have H:bX ae U.size _:=e10.bU (e9.bU hbw8 id) λF=>(K9.p _ (hG _ F)).2.1 (.inl rfl);have K10:=(aj ae {NB q dB C sp aw ys tw cs with cs:=cs++[Y],tw:=s',tl:=oo (cs++[Y])} (λb=>Grow G v9 b/\b<ae.size) (λj M=>by cases j<;>first|rfl|exact absurd rfl M) e10 (λb y=>y.1.imp id λF=>⟨F,λhB=>by have:=(K9.b b hB).2;omega⟩) (by
     show bW s' 3 (oo (cs++[Y])) ae _;have:oo (cs++[Y])=oo cs++[.pointer (some ⟨Y.p,0,none⟩),.slice none 0 0,.nilIface]:=by simp[oo]
     rw[this];exact aI.mono hr10 λb y F=>⟨F,y⟩) λb hB=>by have:=(K9.b b hB).2;omega).drop (B':=(· = U.size)) λb y=>.inl y
    refine aG (K10.rf (NB q dB C sp aw ys s' (cs++[Y])) (λj M=>by cases j<;>first|rfl|exact absurd rfl M) rfl (i:=8) rfl O λv11 P11 K11 o11=>?_)
    have hbw11:=Wr o11 H (ai K10);exact cQ (m:=cs.length+1) O O ⟨⟨P11,s',cs++[Y],by simp,by simp;omega,K11,hbw11⟩,O⟩
   ·have hct:cs.length=t:=by omega
    have Q:cf.threads=cs.length:=by rw[←hcfd,hct]
    have ad:cf.gL=ys.length:=by rw[←hcfd,hya]
    have hN:=AF g gd;refine h0 w7 ⟨q,sp,C,dB,aw,tw,ys,cs.map λc=>⟨c,fZ⟩⟩ K7.e ⟨⟨?_,hys,?_,?_,?_,?_,?_,?_⟩,?_,g.bO K7.e,gd.bO K7.e,hN.1,hN.2⟩
    ·simp[VG,ad]
    ·simp[VG,Q]
    ·simp[VG,ad];omega
    ·simp[VG,ad];omega
    ·simp[VG,Q];omega
    ·simp[VG,Q];omega
    ·intro B hB;have:=yg hB;rw[this];rfl
    ·refine(Sep.loc CH.loc).mono (G:=λq=>U.size<=q) ?_ λb _ y=>y;obtain⟨ρ,hs⟩:=(Sep.loc iA.loc).mono K7.sep (G:=λq=>U.size<=q) λb _ y=>(K7.p b y).1;refine⟨ρ,λi=>?_⟩;have S:=hs i;cases i with
     | hd=>exact S
     | dB=>exact S
     | sp=>exact S
     | fI=>exact bW.ig S
     | cN=>
      show bW tw 3 (gF (cs.map λc=>⟨c,fZ⟩) (List.replicate cf.threads ⟨List.replicate tb.length gS,[],none⟩)) w7 _;rw[Q,MI];exact S
     | live=>exact S
     | ar k=>
      show nf ys[k]? (List.replicate cf.gL (eR cf.aF cf.room tb))[k]? w7 _;have S:pV cf.aF cf.room tb ys[k]? w7 _:=S;unfold nf;by_cases hk:k<ys.length
      ·rw[lJ,zC O,cW hk];rw[cW hk]at S;exact S
      ·rw[zT O];trivial
     | ca k=>
      show pS (cs.map λc=>(⟨c,fZ⟩:eC))[k]? (List.replicate cf.threads (⟨List.replicate tb.length gS,[],none⟩:Th))[k]? tb cf.cZ w7 _;have S:pW tb cf.cZ cs[k]? w7 _:=S;unfold pS;by_cases hk:k<cs.length
      ·rw[lJ,zC O,zd,cW hk];rw[cW hk]at S;exact S
      ·rw[zd,zT O];trivial
     | hn k=>
      show oC (cs.map λc=>(⟨c,fZ⟩:eC))[k]? (List.replicate cf.threads (⟨List.replicate tb.length gS,[],none⟩:Th))[k]? w7 _;unfold oC;by_cases hk:k<cs.length
      ·rw[lJ,zC O,zd,cW hk];exact gY.nil _ _ _
      ·rw[zd,zT O];trivial
 ·have rd:∀(i:Nat) (x:Int),[Value.int .i64 (p:Int),.int .i64 (a:Int),.int .i64 (t:Int),.int .i64 (b:Int),.int .i64 (r:Int)][i]?=some (.int .i64 x)->∀m,bX m U.size [.int .i64 (p:Int),.int .i64 (a:Int),.int .i64 (t:Int),.int .i64 (b:Int),.int .i64 (r:Int)]->cell m (Addr.add ⟨U.size,0,none⟩ i)=some (.int .i64 x):=λi x F m hm=>by
   rw[add_lit,hm.cell,zH];exact F
  refine⟨λm=>bX m U.size [.int .i64 (p:Int),.int .i64 (a:Int),.int .i64 (t:Int),.int .i64 (b:Int),.int .i64 (r:Int)],A,⟨(p:Int),rd 0 _ rfl,⟨(a:Int),rd 1 _ rfl,⟨(t:Int),rd 2 _ rfl,⟨(b:Int),rd 3 _ rfl,⟨(r:Int),rd 4 _ rfl,⟨?_,?_⟩⟩⟩⟩⟩⟩⟩
  ·refine Vm (ZI ha aa) hv λdB am ab E=>⟨ab.bU A id,qZ λv17 z17 af hm=>⟨af.bU (ab.bU A id) id,?_⟩⟩;rw[htbd]at E;have hz16:=ab.1;refine nw (cs:=[.slice dB.a dB.len dB.cap,.int .i64 (p:Int),.int .i64 (a:Int),.int .i64 (t:Int),.int .i64 (b:Int),.int .i64 (r:Int),.pointer none,.slice none 0 0,.slice none 0 0,.map (some am.size)]) λv18 z18 ah hb18=>⟨ah.bU (af.bU (ab.bU A id) id) id,hJ _ _ ⟨_,v17.size,dB,am.size,rfl,Bf (D:=λq=>v2.size<=q/\q<am.size) (((aa.trans ab).trans af).trans ah) O (by rw[hdE];exact hb18) (ah.fK (hm .i64 (.ag 4)) id) ?_ (λb y=>O) O O O,ah.bU (af.bU (ab.bU A id) id) id⟩⟩;exact aH.bO (aH.bO (aH.mono E (G:=λq=>v2.size<=q/\q<am.size) λb y F=>⟨F,y⟩) af) ah
  ·refine qZ λv19 z19 ac hm=>⟨ac.bU A id,Vm (ZI ha (aa.trans ac)) hv λdB v20 W E=>⟨W.bU (ac.bU A id) id,?_⟩⟩;rw[htbd]at E;have hz20:=W.1;refine nw (cs:=[.slice dB.a dB.len dB.cap,.int .i64 (p:Int),.int .i64 (a:Int),.int .i64 (t:Int),.int .i64 (b:Int),.int .i64 (r:Int),.pointer none,.slice none 0 0,.slice none 0 0,.map (some v2.size)]) λv21 z21 ak hb21=>⟨ak.bU (W.bU (ac.bU A id) id) id,hJ _ _ ⟨_,v20.size,dB,v2.size,rfl,Bf (D:=λq=>v19.size<=q/\q<v20.size) (((aa.trans ac).trans W).trans ak) O (by rw[hdE];exact hb21) (ak.fK (W.fK (hm .i64 (.ag 4)) id) id) ?_ (λb y=>O) O O O,ak.bU (W.bU (ac.bU A id) id) id⟩⟩;exact aH.bO (aH.mono E (G:=λq=>v19.size<=q/\q<v20.size) λb y F=>⟨F,y⟩) ak
end Go.Ar
namespace Go.Ar
open Go Go.Vc Go.Proofs
variable {U u w w':Hp}{F B P Q:Rg}{L:dP}{H:Hw}{t:Nat}{g:Th}
theorem Jy (u:Value){R:ByteArray->Hp->Prop}(h:Wc Tryz.prog 346 #[u] [.one .str] U R):iJ Tryz.prog (.iface 218 u) "freehold/heap.name" [] [.one .str] U R :=
 ⟨218,u,346,rfl,λw=>by kernel_rfl,λxs w=>by kernel_rfl,h⟩
theorem LA (u:Value){R:ByteArray->Hp->Prop}(h:Wc Tryz.prog 350 #[u] [.one .str] U R):iJ Tryz.prog (.iface 228 u) "freehold/heap.name" [] [.one .str] U R :=
 ⟨228,u,350,rfl,λw=>by kernel_rfl,λxs w=>by kernel_rfl,h⟩
theorem Jq (u:Value){R:ByteArray->Hp->Prop}(h:Wc Tryz.prog 352 #[u] [.one .str] U R):iJ Tryz.prog (.iface 231 u) "freehold/heap.name" [] [.one .str] U R :=
 ⟨231,u,352,rfl,λw=>by kernel_rfl,λxs w=>by kernel_rfl,h⟩
theorem Ng (u:Value){R:ByteArray->Hp->Prop}(h:Wc Tryz.prog 353 #[u] [.one .str] U R):iJ Tryz.prog (.iface 233 u) "freehold/heap.name" [] [.one .str] U R :=
 ⟨233,u,353,rfl,λw=>by kernel_rfl,λxs w=>by kernel_rfl,h⟩
theorem IC (u:Value){R:ByteArray->Hp->Prop}(h:Wc Tryz.prog 351 #[u] [.one .str] U R):iJ Tryz.prog (.iface 230 u) "freehold/heap.name" [] [.one .str] U R :=
 ⟨230,u,351,rfl,λw=>by kernel_rfl,λxs w=>by kernel_rfl,h⟩
theorem Mf (u:Value){R:ByteArray->Hp->Prop}(h:Wc Tryz.prog 347 #[u] [.one .str] U R):iJ Tryz.prog (.iface 220 u) "freehold/heap.name" [] [.one .str] U R :=
 ⟨220,u,347,rfl,λw=>by kernel_rfl,λxs w=>by kernel_rfl,h⟩
theorem ND (u:Value){R:ByteArray->Hp->Prop}(h:Wc Tryz.prog 348 #[u] [.one .str] U R):iJ Tryz.prog (.iface 222 u) "freehold/heap.name" [] [.one .str] U R :=
 ⟨222,u,348,rfl,λw=>by kernel_rfl,λxs w=>by kernel_rfl,h⟩
theorem EK (u:Value){R:ByteArray->Hp->Prop}(h:Wc Tryz.prog 354 #[u] [.one .str] U R):iJ Tryz.prog (.iface 238 u) "freehold/heap.name" [] [.one .str] U R :=
 ⟨238,u,354,rfl,λw=>by kernel_rfl,λxs w=>by kernel_rfl,h⟩
theorem FD (u:Value){R:ByteArray->Hp->Prop}(h:Wc Tryz.prog 355 #[u] [.one .str] U R):iJ Tryz.prog (.iface 241 u) "freehold/heap.name" [] [.one .str] U R :=
 ⟨241,u,355,rfl,λw=>by kernel_rfl,λxs w=>by kernel_rfl,h⟩
theorem Jb (u:Value){R:ByteArray->Hp->Prop}(h:Wc Tryz.prog 356 #[u] [.one .str] U R):iJ Tryz.prog (.iface 245 u) "freehold/heap.name" [] [.one .str] U R :=
 ⟨245,u,356,rfl,λw=>by kernel_rfl,λxs w=>by kernel_rfl,h⟩
theorem IM (u:Value){R:ByteArray->Hp->Prop}(h:Wc Tryz.prog 349 #[u] [.one .str] U R):iJ Tryz.prog (.iface 224 u) "freehold/heap.name" [] [.one .str] U R :=
 ⟨224,u,349,rfl,λw=>by kernel_rfl,λxs w=>by kernel_rfl,h⟩
def na (s:ByteArray):Prop:=(s.toList==(ByteArray.mk #[]).toList)=false
theorem Iu (p:Ph){R:ByteArray->Hp->Prop}(hR:∀s σ',bK U σ'->na s->R s σ'):iJ Tryz.prog (l6 (some p)) "freehold/heap.name" [] [.one .str] U R := by
 cases p with
 | take k=>
  refine Jy _ (ZF.o ?_);unfold ZF.v;exact nw (cs:=[.int .i64 (k:Int)]) λv hz e hb=>hR _ v e (by unfold na;decide +kernel)
 | cH k w=>
  refine LA _ (YG.o ?_);unfold YG.v;exact nw (cs:=[.int .i64 (k:Int),.int .i64 (w:Int)]) λv hz e hb=>hR _ v e (by unfold na;decide +kernel)
 | cI k w=>
  refine Jq _ (Y5.o ?_);unfold Y5.v;exact nw (cs:=[.int .i64 (k:Int),.int .i64 (w:Int)]) λv hz e hb=>hR _ v e (by unfold na;decide +kernel)
 | grow k w=>
  refine Ng _ (ZB.o ?_);unfold ZB.v;exact nw (cs:=[.int .i64 (k:Int),.int .i64 (w:Int)]) λv hz e hb=>hR _ v e (by unfold na;decide +kernel)
 | fill=>
  refine IC _ (ZD.o ?_);unfold ZD.v;exact nw (cs:=[]) λv hz e hb=>hR _ v e (by unfold na;decide +kernel)
 | eB m=>
  refine Mf _ (Zu.o ?_);unfold Zu.v;exact nw (cs:=[.int .i64 (m:Int)]) λv hz e hb=>hR _ v e (by unfold na;decide +kernel)
 | find x=>
  refine ND _ (ZC.o ?_);unfold ZC.v;exact nw (cs:=[.int .i64 x]) λv hz e hb=>hR _ v e (by unfold na;decide +kernel)
 | put k x=>
  refine EK _ (ZR.o ?_);unfold ZR.v;exact nw (cs:=[.int .i64 (k:Int),.int .i64 x]) λv hz e hb=>hR _ v e (by unfold na;decide +kernel)
 | back=>
  refine FD _ (ZH.o ?_);unfold ZH.v;exact nw (cs:=[]) λv hz e hb=>hR _ v e (by unfold na;decide +kernel)
 | dA s a=>
  refine Jb _ (ZE.o ?_);unfold ZE.v;exact nw (cs:=[.int .i64 s,.int .i64 a]) λv hz e hb=>hR _ v e (by unfold na;decide +kernel)
 | drain=>
  refine IM _ (Zt.o ?_);unfold Zt.v;exact nw (cs:=[]) λv hz e hb=>hR _ v e (by unfold na;decide +kernel)
def VJ (H:Hw)(thread:Int):Option Ph:=if 0<=thread/\thread<(H.bQ.length:Int)then(match H.bQ[thread.toNat]? with
 | some g=>g.ph
 | none=>none)else none
theorem EU (h:HH U F L H)(thread:Int){R:ByteArray->Hp->Prop}(hR:∀s σ',bK U σ'->(s.toList==(ByteArray.mk #[]).toList)=(VJ H thread).isNone->R s σ'):YQ.c (aW L.p) thread U R:=by
 refine YQ.o ?_;unfold YQ.v;have i:VJ H thread=none->R (ByteArray.mk #[]) U:=λd=>hR _ U (Ext.refl _ _) (by rw[d];decide +kernel);refine V0 h (KB (λr w=>w=U/\r = !decide (0<=thread/\thread<(H.bQ.length:Int))) (λr w ⟨z,A⟩=>?_) λJ C=>cE rfl (GX h thread (C _ _ ⟨rfl,rfl⟩)));subst z;refine KB (λr B=>B=w/\r=(VJ H thread).isNone) (λr B ⟨z,b⟩=>?_) λJ1 u=>?_
 ·rw[z];cases d:VJ H thread with
  | none=>rw[d]at b;exact cB (by rw[b];rfl) (i d)
  | some p=>
   rw[d]at b;have a:=d;unfold VJ at a;split at a
   ·rename_i hth;obtain⟨t,rfl⟩:∃t:Nat,thread=(t:Int):=⟨thread.toNat,O⟩;have j:t<H.bQ.length:=by omega
    obtain⟨x,g,y,m⟩:=h.th j;rw[dC,m]at a;simp only at a;refine cE (by rw[b];rfl) (aG (h.hd.rS rfl (h.tR y m ?_)));rw[a];exact Iu p λs σ' e j=>hR s σ' e (by rw[d];exact j)
   ·cases a
 ·by_cases hth:0<=thread/\thread<(H.bQ.length:Int)
  ·obtain⟨t,rfl⟩:∃t:Nat,thread=(t:Int):=⟨thread.toNat,O⟩;have j:t<H.bQ.length:=by omega
   obtain⟨x,g,y,m⟩:=h.th j;refine cE (by rw[A,zK hth];rfl) (aG (h.hd.rS rfl (h.tR y m ⟨sH _,u _ _ ⟨rfl,?_⟩⟩)));rw[G5];unfold VJ;rw[zC hth,dC,m]
  ·refine cB (by rw[A,zM hth];rfl) (u _ _ ⟨rfl,?_⟩);unfold VJ;rw[zB hth];rfl
def lT (H:Hw):Prop:=1<=H.cf.aF/\H.cf.threads=H.bQ.length/\lQ H.tb
end Go.Ar
namespace Go.Ar
open Go Go.Vc Go.Proofs
open Go.Bu (fB)
variable {U u w w':Hp}{F B P Q:Rg}{L:dP}{H H':Hw}{t:Nat}{g:Th}
def B8:List Value:=[.slice none 0 0,.int .i64 0,.int .i64 0,.int .i64 0,.int .i64 0,.int .i64 0,.pointer none,.slice none 0 0,.slice none 0 0,.map none]
def B0 (vh:Option Addr)(U:Hp):Prop:=vh=none\/∃n,vh=some ⟨n,0,none⟩/\bX U n B8
def Hk (H:Hw)(thread kind size align addr:Int)(H':Hw)(a e:Int):Prop:=
 (Kq H thread kind size align addr=.inl e/\e≠0/\H'=H/\a=0)\/∃t p n,Kq H thread kind size align addr=.inr (t,p)/\il n (eL H t (some p)) t p H' a e
theorem BS (hso:Hz)(h:HH U F L H)(hv:lQ H.tb){thread kind size align addr:Int}{a e:Int}(hw:Hk H thread kind size align addr H' a e){R:Int->Int->Hp->Prop}
 (hR:∀σ' ts',Ext F U σ'->HH σ' (Grow F U) {L with ts:=ts'} H'->R a e σ'):XP.c (aW L.p) thread kind size align addr U R:=by
 rcases hw with⟨hs,hne,rfl,rfl⟩|⟨t,p,n,hs,hr⟩
 ·exact Cp hso h hv thread kind size align addr (λg b _ σ' i d=>by
   rw[hs]at b;cases b;exact hR σ' L.ts i d) λt p b=>by rw[hs]at b;cases b
 ·exact Cp hso h hv thread kind size align addr (λg b=>by rw[hs]at b;cases b) λj m b=>by
   rw[hs]at b;cases b;exact⟨n,H',a,e,hr,hR⟩
theorem FF (hso:Hz)(h:HH U F L H)(hv:lQ H.tb){thread size align:Int}{a e:Int}(hw:Hk H thread 0 size align 0 H' a e){R:Int->Int->Hp->Prop}
 (hR:∀σ' ts',Ext F U σ'->HH σ' (Grow F U) {L with ts:=ts'} H'->R a e σ'):Yu.c (aW L.p) thread size align U R:=by
 refine Yu.o ?_;unfold Yu.v;exact BS hso h hv hw hR
theorem ED (hso:Hz)(h:HH U F L H)(hv:lQ H.tb){thread addr:Int}{a e:Int}(hw:Hk H thread 1 0 0 addr H' a e){R:aN}
 (hR:∀σ' ts',Ext F U σ'->HH σ' (Grow F U) {L with ts:=ts'} H'->R e σ'):Zb.c (aW L.p) thread addr U R:=by
 refine Zb.o ?_;unfold Zb.v;exact BS hso h hv hw hR
def QA (H' H:Hw):Prop:=H'.tb=H.tb/\H'.cf=H.cf/\H'.bQ.length=H.bQ.length/\H'.bV.length=H.bV.length
theorem QA.refl (H:Hw):QA H H:=⟨rfl,rfl,rfl,rfl⟩
theorem QA.trans {H1 H2 H3:Hw}(a:QA H2 H1)(b:QA H3 H2):QA H3 H1:=⟨b.1.trans a.1,b.2.1.trans a.2.1,b.2.2.1.trans a.2.2.1,b.2.2.2.trans a.2.2.2⟩
theorem Km (H:Hw)(t:Nat)(f:Th->Th):QA (H.dQ t f) H:=⟨rfl,rfl,by simp[Hw.dQ],rfl⟩
theorem Kj (H:Hw)(k:Nat)(A:AR)(sp:Sp):QA {H.cC k A with sp:=sp} H:=⟨rfl,rfl,rfl,by simp[Hw.cC]⟩
theorem Mh (H:Hw)(k:Nat)(part:Nat->List Int)(j:Nat):QA (Kz H k part (List.range j)) H:=by
 induction j with
 | zero=>exact QA.refl H
 | succ j ih=>
  rw[KA];split
  ·split
   ·exact ih
   ·exact ih.trans (Kj _ _ _ _)
  ·exact ih
theorem Nm (H:Hw)(own k:Nat)(xs:List Int):QA (UV H own k xs) H:=by
 unfold UV;split
 ·split
  ·exact Kj _ _ _ H.sp
  ·refine QA.trans ?_ (Mh _ _ _ _);split
   ·exact Kj _ _ _ H.sp
   ·exact QA.refl H
 ·exact QA.refl H
theorem Mt (H:Hw)(t k:Nat)(x:Int):QA (ic H t k x) H:=by
 unfold ic;simp only;split<;>split<;>exact⟨rfl,rfl,by simp[Hw.dQ,Qq],rfl⟩
theorem Pl (H:Hw)(t:Nat)(p:Ph):QA (Wt H t p).1 H:=by
 cases p with
 | take k=>simp only[Wt];split<;>exact⟨rfl,rfl,by simp[Va,Qq,Hw.dQ,Hw.cC],by simp[Va,Qq,Hw.dQ,Hw.cC]⟩
 | cH k w=>
  simp only[Wt];split
  ·split
   ·exact(Kj _ _ _ H.sp).trans (Km _ _ _)
   ·exact QA.refl H
  ·exact QA.refl H
 | cI k w=>
  simp only[Wt];split
  ·exact Kj _ _ _ H.sp
  ·exact(Kj _ _ _ H.sp).trans (Km _ _ _)
 | grow k w=>simp only[Wt];split<;>exact Kj _ _ _ _
 | fill=>
  simp only[Wt];split
  ·exact⟨rfl,rfl,by simp[Va,Qq,Hw.dQ,Hw.cC],by simp[Va,Qq,Hw.dQ,Hw.cC]⟩
  ·exact QA.refl H
 | eB m=>simp only[Wt];split<;>exact⟨rfl,rfl,by simp[Va,Qq,Hw.dQ,Hw.cC],by simp[Va,Qq,Hw.dQ,Hw.cC]⟩
 | find x=>
  simp only[Wt,Uq];split
  ·exact QA.refl H
  ·split
   ·exact⟨rfl,rfl,rfl,rfl⟩
   ·exact QA.trans (H2:={H with live:=Go.Vc.di H.live x}) ⟨rfl,rfl,rfl,rfl⟩ (Km _ _ _)
 | put k x=>exact Mt H t k x
 | back=>
  simp only[Wt];split
  ·exact(Km _ _ _).trans (Nm _ _ _ _)
  ·exact QA.refl H
 | dA s a=>
  simp only[Wt];split
  ·exact Kj _ _ _ H.sp
  ·exact QA.refl H
 | drain=>exact Km _ _ _
theorem V9 (H:Hw)(t:Nat)(p:Ph):QA (Qj H t p) H:=(Pl H t p).trans (Km _ _ _)
theorem B3 {n:Nat}{H H':Hw}{t:Nat}{p:Ph}{a e:Int}(h:il n H t p H' a e):QA H' H:=by
 induction h with
 | done=>exact V9 _ _ _
 | next _ _ _ ih=>exact(V9 _ _ _).trans ih
theorem lT.bS (h:lT H)(k:QA H' H):lT H':=⟨by rw[k.2.1];exact h.1,by rw[k.2.1,k.2.2.1];exact h.2.1,by rw[k.1];exact h.2.2⟩
end Go.Ar