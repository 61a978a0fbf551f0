/- Texts joined. -/
import Derived.Test.YtkabjcanamcbeaaGreatDoorI4
set_option linter.unusedVariables false
set_option linter.unusedSimpArgs false
namespace Go.Proofs
open Go.Vc
set_option maxRecDepth 100000
def YG.h:Hn:=.q .o1 (.q (.q .o3 (.c (.q .o1 .l) .l)) (.q .o1 (.q (.q .o8 (.k (.loop [(3,.one .s),(16,.I)] (.q .o1 (.q (.c .l .l) (.q (.k (.q .o3 .o10)) .o2)))))) (.q .o2 .l))))
def YG.v (a:R2)(b:Hp)(c:Sl->Hp->Prop):Prop:=Xo.c a b λd e=>If (!d) (c ⟨none,0,0⟩ e) (NilP a λf=>LdM (f.add 9) e λg=>Za.c g e λh i=>Kx.c h i λj k=>XL [.s,(.i .i64)] (λl=>l ⟨none,0,0⟩ 0 k) λm (n:Sl) (o:Int) p=>If (o<((j.len:Nat):Int)) (Ix j.a j.len o 1 λq=>LdI .i64 q p λr=>NilP a λs=>LdM (s.add 9) p λt=>Lk .i64 (.ag 4) t r p λu=>Nw (.cells #[.I ((u.getD (0,0,0,0)).1),.I ((u.getD (0,0,0,0)).2.1),.I ((u.getD (0,0,0,0)).2.2.1),.I ((u.getD (0,0,0,0)).2.2.2)] 76 (0,0)) p λv w=>App n 4 32 76 [.I 0,.I 0,.I 0,.I 0] ⟨some v,1,1⟩ w λx y=>Ar .i64 (o+1) λz=>m x z y) (c n p))
theorem YG.o {a b c}(d:YG.v a b c):YG.c a b c:=Wa Tryz.func31 (x:=YG.h) (R0 d)
def Ym.h:Hn:=.q .o1 (.q (.q .o3 (.c (.q .o1 .l) .l)) (.q .o6 .l))
def Ym.v (a:R2)(b:Hp)(c:Sl->Hp->Prop):Prop:=Xo.c a b λd e=>If (!d) (c ⟨none,0,0⟩ e) (NilP a λf=>LdS (f.add 0) e λg=>Wc.c g e λh i=>c h i)
theorem Ym.o {a b c}(d:Ym.v a b c):Ym.c a b c:=Wa Tryz.func33 (x:=Ym.h) (R0 d)
def Yp.h:Hn:=.q .o1 (.q (.q .o3 (.c (.q .o2 .l) .l)) (.q (.reg (.heldJ true [12] [(3,.one .ad)] (.take 0 (.take 1 (.take 2 (.take 3 (.take 5 (.take 6 (.take 7 (.take 8 (.all [(4,.all [(9,.take 10 (.all [(11,.all [(12,.done)])])),(11,.all [(9,.take 10 (.all [(12,.done)]))])]),(11,.all [(4,.all [(9,.take 10 (.all [(12,.done)]))])])]))))))))))) (.q (.q .o5 (.k (.loop [] (.q (.reg (.seq [.it .i64 (.ag 4),.op])) (.q (.c .l .l) (.k (.q (.reg (.seq [.it .i64 (.ag 4),.op,.op,.op])) (.q .o3 (.c .o7 .l))))))))) (.q (.q .o6 (.k (.loop [(56,.I)] (.q .o1 (.q (.c .l .l) (.q (.k (.q .o4 (.q (.reg (.held true [7] (.take 0 (.take 1 (.take 2 (.take 3 (.all [(4,.take 5 (.take 6 (.all [(7,.done)])))]))))))) (.q .o4 (.k (.loop [(70,.I)] (.q .o1 (.q (.c .l .l) (.q (.k (.q .o4 (.reg (.tail 17 (RI.ops 17) [.op])))) .o2))))))))) .o2)))))) (.q (.q .o6 (.k (.loop [(98,.I)] (.q .o1 (.q (.c .l .l) (.q (.k (.q .o3 (.q (.o 15) (.q (.o 18) (.o 19))))) .o2)))))) (.q .o2 .l))))))
def Yp.v (a:R2)(b:Hp)(c:Int->Int->Int->Int->Int->Int->Int->Int->Int->Int->Int->Hp->Prop):Prop:=Nw (.cells #[.I 0,.I 0,.I 0,.I 0,.I 0,.I 0,.I 0,.I 0,.I 0,.I 0,.I 0] 89 (0,0)) b λd e=>Xo.c a e λf g=>If (!f) (St1 (d.add 0) (.I 0) g λh=>St1 (d.add 1) (.I 0) h λi=>St1 (d.add 2) (.I 0) i λj=>St1 (d.add 3) (.I 0) j λk=>St1 (d.add 4) (.I 0) k λl=>St1 (d.add 5) (.I 0) l λm=>St1 (d.add 6) (.I 0) m λn=>St1 (d.add 7) (.I 0) n λo=>St1 (d.add 8) (.I 0) o λp=>St1 (d.add 9) (.I 0) p λq=>St1 (d.add 10) (.I 0) q λr=>LdI .i64 (d.add 0) r λs=>LdI .i64 (d.add 1) r λt=>LdI .i64 (d.add 2) r λu=>LdI .i64 (d.add 3) r λv=>LdI .i64 (d.add 4) r λw=>LdI .i64 (d.add 5) r λx=>LdI .i64 (d.add 6) r λy=>LdI .i64 (d.add 7) r λz=>LdI .i64 (d.add 8) r λaa=>LdI .i64 (d.add 9) r λab=>LdI .i64 (d.add 10) r λac=>c s t u v w x y z aa ab ac r) (Jn [.ad] (λ(ad:Addr) ae=>NilP a λaf=>LdM (af.add 9) ae λag=>Rng .i64 (.ag 4) ag ae λah ai=>XL [] (λaj=>aj ai) λak al=>Nxt .i64 (.ag 4) ah al (NilP a λam=>LdS (am.add 8) al λan=>XL [(.i .i64)] (λao=>ao 0 al) λap (aq:Int) ar=>If (aq<((an.len:Nat):Int)) (Ix an.a an.len aq 3 λau=>LdP (au.add 0) ar λav=>LdS (au.add 1) ar λaw=>LdR (au.add 2) ar λax=>Nw (.cells #[.pointer none,.slice none 0 0,.nilIface] 128 (0,0)) ar λay az=>O1 ax <| St1 (ay.add 0) (.pointer av) az λa0=>St1 (ay.add 1) (.slice aw.a aw.len aw.cap) a0 λa1=>St1 (ay.add 2) (ax) a1 λa2=>Held a2 λa3=>LdH a3 (.i .i64) (ad.add 1) λ(a4:Int)=>LdH a3 .p (ay.add 0) λ(a5:R2)=>W6.c a5 a2 λa6 a7=>
 And (a3 a7) <| Ar .i64 (a4+a6) λa8=>St1 (ad.add 1) (.I a8) a7 λa9=>LdS (ay.add 1) a9 λba=>XL [(.i .i64)] (λbb=>bb 0 a9) λbc (bd:Int) be=>If (bd<((ba.len:Nat):Int)) (Ix ba.a ba.len bd 2 λbf=>LdI .i64 (bf.add 0) be λbg=>LdS (bf.add 1) be λbh=>Nw (.cells #[.I 0,.slice none 0 0] 130 (0,0)) be λbi bj=>St1 (bi.add 0) (.I bg) bj λbk=>St1 (bi.add 1) (.slice bh.a bh.len bh.cap) bk λbl=>LdI .i64 (ad.add 2) bl λbm=>LdS (bi.add 1) bl λbn=>NilP a λbo=>LdS (bo.add 0) bl λbp=>LdI .i64 (bi.add 0) bl λbq=>Ix bp.a bp.len bq 3 λbr=>LdI .i64 (br.add 0) bl λbs=>Ar .i64 (((bn.len:Nat):Int)*bs) λbt=>Ar .i64 (bm+bt) λbu=>St1 (ad.add 2) (.I bu) bl λbv=>Ar .i64 (bd+1) λbw=>bc bw bv) (Ar .i64 (aq+1) λbx=>ap bx be)) (NilP a λbz=>LdS (bz.add 7) ar λb0=>XL [(.i .i64)] (λb1=>b1 0 ar) λb2 (b3:Int) b4=>If (b3<((b0.len:Nat):Int)) (Ix b0.a b0.len b3 1 λb5=>LdP b5 b4 λb6=>XC.c b6 b4 λb7 b8 b9 ca cb cc cd=>LdI .i64 (ad.add 3) cd λce=>Ar .i64 (ce+b7) λcf=>LdI .i64 (ad.add 4) cd λcg=>Ar .i64 (cg+b8) λch=>LdI .i64 (ad.add 5) cd λci=>Ar .i64 (ci+b9) λcj=>St1 (ad.add 3) (.I cf) cd λck=>St1 (ad.add 4) (.I ch) ck λcl=>St1 (ad.add 5) (.I cj) cl λcm=>LdI .i64 (ad.add 7) cm λcn=>Ar .i64 (cn+ca) λco=>LdI .i64 (ad.add 6) cm λcp=>Ar .i64 (cb*256) λcq=>Ar .i64 (cp+cq) λcr=>LdI .i64 (ad.add 8) cm λcs=>Ar .i64 (cs+cc) λct=>St1 (ad.add 7) (.I co) cm λcu=>St1 (ad.add 6) (.I cr) cu λcv=>St1 (ad.add 8) (.I ct) cv λcw=>Ar .i64 (b3+1) λcx=>b2 cx cw) (LdI .i64 (ad.add 0) b4 λcy=>LdI .i64 (ad.add 1) b4 λcz=>
 LdI .i64 (ad.add 2) b4 λc0=>LdI .i64 (ad.add 3) b4 λc1=>LdI .i64 (ad.add 4) b4 λc2=>LdI .i64 (ad.add 5) b4 λc3=>LdI .i64 (ad.add 6) b4 λc4=>LdI .i64 (ad.add 7) b4 λc5=>LdI .i64 (ad.add 8) b4 λc6=>LdI .i64 (ad.add 9) b4 λc7=>LdI .i64 (ad.add 10) b4 λc8=>St1 (d.add 0) (.I cy) b4 λc9=>St1 (d.add 1) (.I cz) c9 λda=>St1 (d.add 2) (.I c0) da λdb=>St1 (d.add 3) (.I c1) db λdc=>St1 (d.add 4) (.I c2) dc λdd=>St1 (d.add 5) (.I c3) dd λde=>St1 (d.add 6) (.I c4) de λdf=>St1 (d.add 7) (.I c5) df λdg=>St1 (d.add 8) (.I c6) dg λdh=>St1 (d.add 9) (.I c7) dh λdi=>St1 (d.add 10) (.I c8) di λdj=>LdI .i64 (d.add 0) dj λdk=>LdI .i64 (d.add 1) dj λdl=>LdI .i64 (d.add 2) dj λdm=>LdI .i64 (d.add 3) dj λdn=>LdI .i64 (d.add 4) dj λdp=>LdI .i64 (d.add 5) dj λdq=>LdI .i64 (d.add 6) dj λdr=>LdI .i64 (d.add 7) dj λds=>LdI .i64 (d.add 8) dj λdt=>LdI .i64 (d.add 9) dj λdu=>LdI .i64 (d.add 10) dj λdv=>c dk dl dm dn dp dq dr ds dt du dv dj))) (λdw dx dy=>Ent .i64 (.ag 4) ah dy λdz d0=>Nw (.cells #[.I 0,.I 0,.I 0,.I 0] 76 (0,0)) dy λd1 d2=>St1 (d1.add 0) (.I d0.1) d2 λd3=>St1 (d1.add 1) (.I d0.2.1) d3 λd4=>St1 (d1.add 2) (.I d0.2.2.1) d4 λd5=>St1 (d1.add 3) (.I d0.2.2.2) d5 λd6=>LdI .i64 (d1.add 2) d6 λd7=>If (d7≥0) (LdI .i64 (ad.add 0) d6 λd8=>LdI .i64 (d1.add 1) d6 λd9=>Ar .i64 (d8+d9) λea=>St1 (ad.add 0) (.I ea) d6 λeb=>ak eb) (ak d6))) λec=>Held g λed=>NilP a λee=>LdH ed .p (ee.add 6) λ(ef:Option Addr)=>NilP a λeg=>LdH ed .p (eg.add 6) λ(eh:Option Addr)=>(Xe.c ef g λei ej=>And (ed ej) <|
 (W8.c eh ej λek el=>And (ed el) <| Nw (.cells #[.I 0,.I 0,.I 0,.I 0,.I 0,.I 0,.I 0,.I 0,.I 0,.I 0,.I 0] 89 (0,0)) el λem en=>And (ed en) <| St1 (em.add 0) (.I 0) en λeo=>St1 (em.add 1) (.I 0) eo λep=>St1 (em.add 2) (.I 0) ep λeq=>St1 (em.add 3) (.I 0) eq λer=>St1 (em.add 4) (.I 0) er λes=>St1 (em.add 5) (.I 0) es λet=>St1 (em.add 6) (.I 0) et λeu=>St1 (em.add 7) (.I 0) eu λev=>St1 (em.add 8) (.I 0) ev λew=>St1 (em.add 9) (.I ei) ew λex=>St1 (em.add 10) (.I ek) ex λey=>ec em ey) ∧ (Nw (.cells #[.I 0,.I 0,.I 0,.I 0,.I 0,.I 0,.I 0,.I 0,.I 0,.I 0,.I 0] 89 (0,0)) ej λez e0=>And (ed e0) <| W8.c eh e0 λe1 e2=>And (ed e2) <| St1 (ez.add 0) (.I 0) e2 λe3=>St1 (ez.add 1) (.I 0) e3 λe4=>St1 (ez.add 2) (.I 0) e4 λe5=>St1 (ez.add 3) (.I 0) e5 λe6=>St1 (ez.add 4) (.I 0) e6 λe7=>St1 (ez.add 5) (.I 0) e7 λe8=>St1 (ez.add 6) (.I 0) e8 λe9=>St1 (ez.add 7) (.I 0) e9 λfa=>St1 (ez.add 8) (.I 0) fa λfb=>St1 (ez.add 9) (.I ei) fb λfc=>St1 (ez.add 10) (.I e1) fc λfd=>ec ez fd)) ∧ (Nw (.cells #[.I 0,.I 0,.I 0,.I 0,.I 0,.I 0,.I 0,.I 0,.I 0,.I 0,.I 0] 89 (0,0)) g λfe ff=>And (ed ff) <| Xe.c ef ff λfg fh=>And (ed fh) <| W8.c eh fh λfi fj=>And (ed fj) <| St1 (fe.add 0) (.I 0) fj λfk=>St1 (fe.add 1) (.I 0) fk λfl=>St1 (fe.add 2) (.I 0) fl λfm=>St1 (fe.add 3) (.I 0) fm λfn=>St1 (fe.add 4) (.I 0) fn λfo=>St1 (fe.add 5) (.I 0) fo λfp=>St1 (fe.add 6) (.I 0) fp λfq=>St1 (fe.add 7) (.I 0) fq λfr=>St1 (fe.add 8) (.I 0) fr λfs=>St1 (fe.add 9) (.I fg) fs λft=>St1 (fe.add 10) (.I fi) ft λfu=>
 ec fe fu))
theorem Yp.o {a b c}(d:Yp.v a b c):Yp.c a b c:=Wa Tryz.func36 (x:=Yp.h) (R0 d)
def Yu.h:Hn:=.q .o2 (.q .o10 .l)
def Yu.v (a:R2)(b c d:Int)(e:Hp)(f:Int->Int->Hp->Prop):Prop:=Yi.c a b 0 c d 0 e λg h i=>f g h i
theorem Yu.o {a b c d e f}(g:Yu.v a b c d e f):Yu.c a b c d e f:=Wa Tryz.func52 (x:=Yu.h) (R0 g)
def Yv.h:Hn:=.q .o1 (.q (.q .o3 (.c (.q .o2 .l) .l)) (.q .o5 .l))
def Yv.v (a:R2)(b:Hp)(c:Int->Int->Int->Int->Int->Hp->Prop):Prop:=Nw (.cells #[.I 0,.I 0,.I 0,.I 0,.I 0] 40 (0,0)) b λd e=>Xo.c a e λf g=>If (!f) (St1 (d.add 0) (.I 0) g λh=>St1 (d.add 1) (.I 0) h λi=>St1 (d.add 2) (.I 0) i λj=>St1 (d.add 3) (.I 0) j λk=>St1 (d.add 4) (.I 0) k λl=>LdI .i64 (d.add 0) l λm=>LdI .i64 (d.add 1) l λn=>LdI .i64 (d.add 2) l λo=>LdI .i64 (d.add 3) l λp=>LdI .i64 (d.add 4) l λq=>c m n o p q l) (NilP a λr=>LdI .i64 ((r.add 1).add 0) g λs=>LdI .i64 ((r.add 1).add 1) g λt=>LdI .i64 ((r.add 1).add 2) g λu=>LdI .i64 ((r.add 1).add 3) g λv=>LdI .i64 ((r.add 1).add 4) g λw=>St1 (d.add 0) (.I s) g λx=>St1 (d.add 1) (.I t) x λy=>St1 (d.add 2) (.I u) y λz=>St1 (d.add 3) (.I v) z λaa=>St1 (d.add 4) (.I w) aa λab=>LdI .i64 (d.add 0) ab λac=>LdI .i64 (d.add 1) ab λad=>LdI .i64 (d.add 2) ab λae=>LdI .i64 (d.add 3) ab λaf=>LdI .i64 (d.add 4) ab λag=>c ac ad ae af ag ab)
theorem Yv.o {a b c}(d:Yv.v a b c):Yv.c a b c:=Wa Tryz.func55 (x:=Yv.h) (R0 d)
def Xo.h:Hn:=.q .o1 (.q (.reg (.seq [.op,.op,.op,.grd true 6 (RI.ops 6),.op])) .l)
def Xo.v (a:R2)(b:Hp)(c:Bool->Hp->Prop):Prop:=JnB (λd e=>c d e) λf=>If (!a.isNone) (NilP a λg=>LdS (g.add 8) b λh=>f (decide (((h.len:Nat):Int)>0)) b) (f false b)
theorem Xo.o {a b c}(d:Xo.v a b c):Xo.c a b c:=Wa Tryz.func65 (x:=Xo.h) (R0 d)
def XT.h:Hn:=.q .o2 (.q (.q .o2 (.c (.q .o1 .l) .l)) (.q .o7 .l))
def XT.v (a:R2)(b:Int)(c:Hp)(d:Int->Hp->Prop):Prop:=Nw (.cells #[.I b] 3 (0,0)) c λe f=>LdI .i64 e f λg=>If (g<0) (d (-1) f) (NilP a λh=>LdS (h.add 7) f λi=>Wj.c i ⟨112,#[],#[.pointer (some e)]⟩ f λj k=>d j k)
theorem XT.o {a b c d}(e:XT.v a b c d):XT.c a b c d:=Wa Tryz.func75 (x:=XT.h) (R0 e)
def Yi.h:Hn:=.q .o3 (.q (.q .o5 (.q .o2 (.c (.q .o3 .l) .l))) (.k (.loop [] (.k (.q (.o 11) (.q .o1 (.c (.q (.oq 6) .l) .l)))))))
def Yi.v (a:R2)(b c d e f:Int)(g:Hp)(h:Int->Int->Hp->Prop):Prop:=Nw (.cells #[.I c,.I d,.I e,.I f] 142 (0,0)) g λi j=>LdI .i64 (i.add 0) j λk=>LdI .i64 (i.add 1) j λl=>LdI .i64 (i.add 2) j λm=>LdI .i64 (i.add 3) j λn=>YH.c a b k l m n j λo p=>If (o != 0) (h 0 o p) (XL [] (λq=>q p) λr s=>YO.c a b s λt u v w x=>Nw (.cells #[.I 0,.I 0] 156 (0,0)) x λy z=>St1 (y.add 0) (.I u) z λaa=>St1 (y.add 1) (.I v) aa λab=>If t (LdI .i64 (y.add 0) ab λac=>LdI .i64 (y.add 1) ab λad=>h ac ad ab) (r ab))
theorem Yi.o {a b c d e f g h}(i:Yi.v a b c d e f g h):Yi.c a b c d e f g h:=Wa Tryz.func83 (x:=Yi.h) (R0 i)
def QB.h:Hn:=.q .o3 (.q (.k (.q .o4 (.c (.q .o2 .l) (.q .o4 (.c (.q .o2 .l) .l))))) (.q (.reg (.heldJ true [] [(6,.one .p)] (.take 0 (.take 2 (.all [(1,.all [(3,.take 4 (.all [(5,.take 6 (.done))]))]),(3,.all [(1,.take 4 (.all [(5,.take 6 (.done))]))])]))))) (.q .o10 (.q (.q .o3 (.k (.loop [(36,.I)] (.q .o1 (.q (.c .l .l) (.q (.k (.q (.reg (.held true [7] (.take 0 (.take 1 (.take 2 (.take 3 (.take 4 (.take 5 (.take 6 (.all [(7,.take 8 (.take 9 (.take 10 (.take 11 (.take 12 (.done))))))])))))))))) (.o 11))) .o2)))))) (.q (.q .o3 (.k (.loop [(62,.I)] (.q .o1 (.q (.c .l .l) (.q (.k (.q .o9 (.o 12))) .o2)))))) (.q .o3 .l))))))
def QB.v (a:Sl)(b c d e f:Int)(g:Hp)(h:Option Addr->Int->Hp->Prop):Prop:=Nw (.cells #[.I b,.I c,.I d,.I e,.I f] 40 (0,0)) g λi j=>Y5.c a j λk l=>If (!k) (h none 2 l) (LdI .i64 (i.add 0) l λm=>LdI .i64 (i.add 1) l λn=>LdI .i64 (i.add 2) l λo=>LdI .i64 (i.add 3) l λp=>LdI .i64 (i.add 4) l λq=>ZR.c m n o p q l λr s=>If (!r) (h none 1 s) (Jn [.p] (λ(t:R2) u=>LdI .i64 (i.add 0) u λv=>Qa.c v u λw x y=>NilP t λz=>St1 (z.add 6) (.pointer w) y λaa=>LdI .i64 (i.add 1) aa λab=>XL [(.i .i64)] (λac=>ac 0 aa) λad (ae:Int) af=>If (ae<ab) (Held af λag=>NilP t λah=>LdH ag .p (ah.add 6) λ(ai:R2)=>LdH ag (.i .i64) (i.add 4) λ(aj:Int)=>Z8.c a ai aj af λak al am=>NilP t λan=>LdS (an.add 7) am λao=>Nw (.cells #[.pointer ak] 131 (0,0)) am λap aq=>App ao 1 8 131 [.pointer none] ⟨some ap,1,1⟩ aq λar au=>NilP t λav=>St1 (av.add 7) (.slice ar.a ar.len ar.cap) au λaw=>Ar .i64 (ae+1) λax=>ad ax aw) (LdI .i64 (i.add 2) af λay=>XL [(.i .i64)] (λaz=>az 0 af) λa0 (a1:Int) a2=>If (a1<ay) (LdI .i64 (i.add 3) a2 λa3=>Qc.c a a3 a2 λa4 a5 a6=>NilP t λa7=>LdS (a7.add 8) a6 λa8=>Nw (.cells #[.pointer a4,.slice none 0 0,.nilIface] 128 (0,0)) a6 λa9 ba=>App a8 3 48 128 [.pointer none,.slice none 0 0,.nilIface] ⟨some a9,1,1⟩ ba λbb bc=>NilP t λbd=>St1 (bd.add 8) (.slice bb.a bb.len bb.cap) bc λbe=>Ar .i64 (a1+1) λbf=>a0 bf be) (h t 0 a2))) λbg=>Held s λbh=>LdH bh (.i .i64) (i.add 0) λ(bi:Int)=>LdH bh (.i .i64) (i.add 1) λ(bj:Int)=>
 LdH bh (.i .i64) (i.add 2) λ(bk:Int)=>LdH bh (.i .i64) (i.add 3) λ(bl:Int)=>LdH bh (.i .i64) (i.add 4) λ(bm:Int)=>(Wc.c a s λbn bo=>And (bh bo) <| Nw (.map #[] 0) bo λbp bq=>And (bh bq) <| Nw (.cells #[.slice bn.a bn.len bn.cap,.I bi,.I bj,.I bk,.I bl,.I bm,.pointer none,.slice none 0 0,.slice none 0 0,.map (some bp.block)] 46 (0,0)) bq λbr bs=>And (bh bs) <| bg (some br) bs) ∧ (Nw (.map #[] 0) s λbt bu=>And (bh bu) <| Wc.c a bu λbv bw=>And (bh bw) <| Nw (.cells #[.slice bv.a bv.len bv.cap,.I bi,.I bj,.I bk,.I bl,.I bm,.pointer none,.slice none 0 0,.slice none 0 0,.map (some bt.block)] 46 (0,0)) bw λbx bz=>And (bh bz) <| bg (some bx) bz)))
theorem QB.o {a b c d e f g h}(i:QB.v a b c d e f g h):QB.c a b c d e f g h:=Wa Tryz.func92 (x:=QB.h) (R0 i)
def YH.h:Hn:=.q .o2 (.q (.k (.q .o4 (.c (.q .o1 .l) (.q .o5 (.c (.q .o1 .l) (.q .o10 (.c (.q .o1 .l) .l))))))) (.q .o4 (.q (.q .o2 (.c (.q .o1 .l) .l)) (.q .o9 (.q .o1 .l)))))
def YH.v (a:R2)(b c d e f:Int)(g:Hp)(h:Int->Hp->Prop):Prop:=Nw (.cells #[.I c,.I d,.I e,.I f] 142 (0,0)) g λi j=>Xo.c a j λk l=>If (!k) (h 5 l) (Yo.c a b l λm n=>If (!m) (h 1 n) (NilP a λo=>LdS (o.add 8) n λp=>Ix p.a p.len b 3 λq=>LdR (q.add 2) n λr=>And (IsIf r) <| If (!(nilI r)) (h 5 n) (LdI .i64 (i.add 0) n λs=>LdI .i64 (i.add 1) n λt=>LdI .i64 (i.add 2) n λu=>LdI .i64 (i.add 3) n λv=>X5.c a s t u v n λw x=>And (IsIf w) <| If (nilI w) (h 1 x) (NilP a λy=>LdS (y.add 8) x λz=>Ix z.a z.len b 3 λaa=>And (IsIf w) <| St1 (aa.add 2) (w) x λab=>h 0 ab))))
theorem YH.o {a b c d e f g h}(i:YH.v a b c d e f g h):YH.c a b c d e f g h:=Wa Tryz.func98 (x:=YH.h) (R0 i)
def YO.h:Hn:=.q .o3 (.q (.k (.q .o4 (.c (.q .o4 .l) (.q .o5 (.c (.q .o4 .l) (.q .o10 (.c (.q .o4 .l) .l))))))) (.q (.o 17) (.q .o9 (.q (.reg (.tail 4 (RI.ops 4) [.op,.op])) .l))))
def YO.v (a:R2)(b:Int)(c:Hp)(d:Bool->Int->Int->Int->Hp->Prop):Prop:=Nw (.cells #[.I 0,.I 0] 156 (0,0)) c λe f=>Xo.c a f λg h=>If (!g) (St1 (e.add 0) (.I 0) h λi=>St1 (e.add 1) (.I 0) i λj=>LdI .i64 (e.add 0) j λk=>LdI .i64 (e.add 1) j λl=>d false k l 5 j) (Yo.c a b h λm n=>If (!m) (St1 (e.add 0) (.I 0) n λo=>St1 (e.add 1) (.I 0) o λp=>LdI .i64 (e.add 0) p λq=>LdI .i64 (e.add 1) p λr=>d false q r 1 p) (NilP a λs=>LdS (s.add 8) n λt=>Ix t.a t.len b 3 λu=>LdR (u.add 2) n λv=>And (IsIf v) <| If (nilI v) (St1 (e.add 0) (.I 0) n λw=>St1 (e.add 1) (.I 0) w λx=>LdI .i64 (e.add 0) x λy=>LdI .i64 (e.add 1) x λz=>d false y z 5 x) (NilP a λaa=>LdS (aa.add 8) n λab=>Ix ab.a ab.len b 3 λac=>LdR (ac.add 2) n λad=>YW.c a b (ad) n λae af ag ah=>Nw (.cells #[.I 0,.I 0] 156 (0,0)) ah λai aj=>St1 (ai.add 0) (.I af) aj λak=>St1 (ai.add 1) (.I ag) ak λal=>NilP a λam=>LdS (am.add 8) al λan=>Ix an.a an.len b 3 λao=>And (IsIf ae) <| St1 (ao.add 2) (ae) al λap=>And (IsIf ae) <| LdI .i64 (ai.add 0) ap λaq=>LdI .i64 (ai.add 1) ap λar=>St1 (e.add 0) (.I aq) ap λau=>St1 (e.add 1) (.I ar) au λav=>LdI .i64 (e.add 0) av λaw=>LdI .i64 (e.add 1) av λax=>d (nilI ae) aw ax 0 av)))
theorem YO.o {a b c d}(e:YO.v a b c d):YO.c a b c d:=Wa Tryz.func99 (x:=YO.h) (R0 e)
def YD.h:Hn:=.q .o1 (.q .o5 .l)
def YD.v (a:R2)(b:Addr)(c:Hp)(d:Bool->Hp->Prop):Prop:=LdI .i64 b c λe=>Nz 256<|Ar .i64 (e.tdiv 256) λf=>Yz.c a f c λg h=>d g h
theorem YD.o {a b c d}(e:YD.v a b c d):YD.c a b c d:=Wa Tryz.func112 (x:=YD.h) (R0 e)
def ZR.h:Hn:=.q .o2 (.q (.reg (.seq [.op,.op,.op,.op,.grd true 3 (RI.ops 3),.op,.grd true 4 (RI.ops 4),.op,.grd true 3 (RI.ops 3),.op,.grd true 3 (RI.ops 3),.op,.grd true 3 (RI.ops 3),.op,.grd true 3 (RI.ops 3),.op,.grd true 3 (RI.ops 3),.op,.grd true 3 (RI.ops 3),.op,.grd true 3 (RI.ops 3),.op,.grd true 3 (RI.ops 3),.op])) .l)
def ZR.v (a b c d e:Int)(f:Hp)(g:Bool->Hp->Prop):Prop:=Nw (.cells #[.I a,.I b,.I c,.I d,.I e] 40 (0,0)) f λh i=>LdI .i64 (h.add 0) i λj=>JnB (λk l=>JnB (λm n=>JnB (λo p=>JnB (λq r=>JnB (λs t=>JnB (λu v=>JnB (λw x=>JnB (λy z=>JnB (λaa ab=>JnB (λac ad=>g ac ad) λae=>If aa (LdI .i64 (h.add 4) ab λaf=>ae (decide (af<=8)) ab) (ae false ab)) λag=>If y (LdI .i64 (h.add 4) z λah=>ag (decide (ah≥0)) z) (ag false z)) λai=>If w (LdI .i64 (h.add 3) x λaj=>ai (decide (aj<=65536)) x) (ai false x)) λak=>If u (LdI .i64 (h.add 3) v λal=>ak (decide (al≥0)) v) (ak false v)) λam=>If s (LdI .i64 (h.add 2) t λan=>am (decide (an<=4)) t) (am false t)) λao=>If q (LdI .i64 (h.add 2) r λap=>ao (decide (ap≥1)) r) (ao false r)) λaq=>If o (LdI .i64 (h.add 1) p λar=>aq (decide (ar<=4)) p) (aq false p)) λau=>If m (LdI .i64 (h.add 1) n λav=>au (decide (av≥1)) n) (au false n)) λaw=>If k (LdI .i64 (h.add 0) l λax=>Nz 16 <| aw ((ax.tmod 16)==0) l) (aw false l)) λay=>If (j≥32) (LdI .i64 (h.add 0) i λaz=>ay (decide (az<=1024)) i) (ay false i)
theorem ZR.o {a b c d e f g}(h:ZR.v a b c d e f g):ZR.c a b c d e f g:=Wa Tryz.func123 (x:=ZR.h) (R0 h)
def Yo.h:Hn:=.q .o1 (.q (.reg (.seq [.op,.op,.op,.grd true 7 (RI.ops 7),.op])) .l)
def Yo.v (a:R2)(b:Int)(c:Hp)(d:Bool->Hp->Prop):Prop:=JnB (λe f=>d e f) λg=>If (b≥0) (NilP a λh=>LdS (h.add 8) c λi=>g (decide (b<((i.len:Nat):Int))) c) (g false c)
theorem Yo.o {a b c d}(e:Yo.v a b c d):Yo.c a b c d:=Wa Tryz.func131 (x:=Yo.h) (R0 e)
def X5.h:Hn:=.q .o2 (.q (.q .o2 (.k (.q .o2 (.c (.q (.q (.reg (.seq [.op,.op,.op,.op,.grd false 3 (RI.ops 3)])) (.c (.q .o1 .l) .l)) (.q (.reg (.held true [8] (.take 0 (.take 1 (.take 2 (.take 3 (.take 4 (.take 5 (.take 6 (.take 7 (.all [(8,.take 9 (.take 10 (.take 11 (.take 12 (.take 13 (.done))))))]))))))))))) (.q .o1 (.k (.q .o2 (.c (.q .o4 .l) (.q .o2 (.c (.q .o8 .l) .l)))))))) (.q .o2 (.c (.q .o5 .l) (.q .o2 (.c (.q .o3 .l) .l)))))))) (.q .o1 .l))
def X5.v (a:R2)(b c d e:Int)(f:Hp)(g:Value->Hp->Prop):Prop:=Nw (.cells #[.I b,.I c,.I d,.I e] 142 (0,0)) f λh i=>LdI .i64 (h.add 0) i λj=>If (j==0) (LdI .i64 (h.add 1) i λk=>JnB (λl m=>If l (g (.nilIface) m) (Held m λn=>NilP a λo=>LdH n .s (o.add 0) λ(p:Sl)=>LdH n (.i .i64) (h.add 1) λ(q:Int)=>LdH n (.i .i64) (h.add 2) λ(r:Int)=>Zo.c p q r m λs t u=>If (t==0) (g (.iface 260 (.agg #[.I s])) u) (If (t==4) (LdI .i64 (h.add 1) u λv=>Ar .i64 (v+256) λw=>Ar .i64 (w-1) λx=>Nz 256<|Ar .i64 (x.tdiv 256) λy=>g (.iface 262 (.agg #[.I y])) u) (g (.nilIface) u)))) λz=>If (k<1) (z true i) (LdI .i64 (h.add 1) i λaa=>z (decide (aa>16384)) i)) (If (j==1) (LdI .i64 (h.add 3) i λab=>g (.iface 264 (.agg #[.I ab])) i) (If (j==2) (g (.iface 266 (.agg #[])) i) (g (.nilIface) i)))
theorem X5.o {a b c d e f g}(h:X5.v a b c d e f g):X5.c a b c d e f g:=Wa Tryz.func132 (x:=X5.h) (R0 h)
def YW.h:Hn:=.q .o2 (.q .o7 (.q (.reg (.held true [] (.take 0 (.take 1 (.take 2 (.take 3 (.take 4 (.take 5 (.all [(6,.take 7 (.all [(8,.take 9 (.done))]))]))))))))) (.sjn [] (.q .o1 (.k (.q .o3 (.c (.q .o2 (.q (.q (.reg (.held true [6] (.take 0 (.take 1 (.take 2 (.take 3 (.take 4 (.take 5 (.all [(6,.take 7 (.take 8 (.take 9 (.take 10 (.take 11 (.done))))))]))))))))) (.q .o2 (.c (.q (.reg (.held true [17] (.take 0 (.take 1 (.take 2 (.take 3 (.take 4 (.take 5 (.take 6 (.take 7 (.take 8 (.take 9 (.take 10 (.take 11 (.take 12 (.all [(13,.take 14 (.take 15 (.take 16 (.all [(17,.done)]))))])))))))))))))))) .l) .l))) (.q (.reg (.held true [6] (.take 0 (.take 1 (.take 2 (.take 3 (.take 4 (.take 5 (.all [(6,.take 7 (.take 8 (.take 9 (.take 10 (.take 11 (.done))))))]))))))))) (.q .o8 .l)))) (.q .o3 (.c (.q .o2 (.sjn [] (.q (.oq 12) (.c (.q .o9 (.q .o2 (.c (.q .o6 (.q .o5 .l)) .l))) .l)) (.q .o5 .l))) (.q .o3 (.c (.q .o2 (.q (.q (.o 11) (.q .o3 (.c (.q .o6 (.q .o5 .l)) .l))) (.q .o5 .l))) (.q .o3 (.c (.q .o2 (.q (.q .o5 (.q .o2 (.c (.q .o4 .l) .l))) (.q .o5 .l))) (.q .o3 (.c (.q .o2 (.q .o8 (.q .o4 (.q (.reg (.tail 9 (RI.ops 9) [.op])) (.q (.reg (.held true [20] (.take 0 (.take 1 (.take 2 (.take 3 (.take 4 (.take 5 (.take 6 (.take 7 (.take 8 (.take 9 (.take 10 (.take 11 (.take 12 (.take 13 (.take 14 (.take 15 (.all [(16,.take 17 (.take 18 (.take 19 (.all [(20,.done)]))))]))))))))))))))))))) .l))))) (.q .o3 (.c (.q .o2 (.q .o9 (.q (.q .o2 (.c (.q .o4 .l) .l)) (.q (.o 11) .l)))) (.q .o3 (.c (.q .o2 (.q .o9 .l)) (.q .o3 (.c (.q .o2 (.sjn [] (.q (.reg (.held true [8] (.take 0 (.take 1 (.take 2 (.take 3 (.take 4 (.take 5 (.take 6 (.take 7 (.all [(8,.take 9 (.take 10 (.take 11 (.take 12 (.take 13 (.done))))))]))))))))))) (.q .o3 (.c .o6 .l))) (.q .o9 (.sjn [] (.q .o5 (.c (.reg (.held true [13] (.take 0 (.take 1 (.take 2 (.take 3 (.take 4 (.take 5 (.take 6 (.take 7 (.take 8 (.all [(9,.all [(10,.take 11 (.take 12 (.all [(13,.done)])))])])))))))))))) .l)) (.q .o6 .l))))) (.q .o3 (.c (.q .o2 (.q .o8 (.q .o10 (.q (.reg (.held true [5] (.take 0 (.take 1 (.take 2 (.take 4 (.all [(3,.all [(5,.done)])]))))))) (.q .o6 .l))))) (.q .o3 (.c (.q .o2 (.reg (.tail 10 (RI.ops 10) [.op]))) (.q .o3 (.c (.q .o2 (.q .o9 (.q .o6 .l))) .l)))))))))))))))))))))))) (.q .o3 .l))))
def YW.v (a:R2)(b:Int)(c:Value)(d:Hp)(e:Value->Int->Int->Hp->Prop):Prop:=Nw (.cells #[.I 0,.I 0] 156 (0,0)) d λf g=>NilP a λh=>LdS (h.add 8) g λi=>Ix i.a i.len b 3 λj=>Held g λk=>NilP a λl=>LdH k .s (l.add 7) λ(m:Sl)=>Y3.c a b g λn o=>And (k o) <| Ix m.a m.len n 1 λp=>LdP p o λq=>And (k o) <| Jn [] (λr=>St1 (f.add 0) (.I 0) r λs=>St1 (f.add 1) (.I 0) s λt=>LdI .i64 (f.add 0) t λu=>LdI .i64 (f.add 1) t λv=>e (.nilIface) u v t) λw=>∃t52:Int,∃is:Bool,AsB c 260 [.I t52] [.I 0] is ∧ (If is (Nw (.cells #[.I 0] 260 (0,0)) o λx y=>St1 x (.I t52) y λz=>Held z λaa=>NilP (some j) λab=>LdH aa .p (ab.add 0) λ(ac:R2)=>LdH aa (.i .i64) (x.add 0) λ(ad:Int)=>XO.c ac ad z λae af ag=>If (af==0) (Held ag λah=>NilP a λai=>LdH ah .s (ai.add 0) λ(aj:Sl)=>LdH ah (.i .i64) (x.add 0) λ(ak:Int)=>Ix aj.a aj.len ak 3 λal=>LdH ah (.i .i64) (al.add 0) λ(am:Int)=>LdH ah (.i .i64) (x.add 0) λ(an:Int)=>Yq.c a ae am an ag λao ap aq ar=>And (ah ar) <| St1 (f.add 0) (.I ap) ar λau=>St1 (f.add 1) (.I aq) au λav=>LdI .i64 (f.add 0) av λaw=>LdI .i64 (f.add 1) av λax=>e (ao) aw ax av) (Held ag λay=>NilP (some j) λaz=>LdH ay .p (az.add 0) λ(a0:R2)=>LdH ay (.i .i64) (x.add 0) λ(a1:Int)=>XV.c a0 a1 ag λa2 a3 a4=>LdI .i64 (x.add 0) a4 λa5=>St1 (f.add 0) (.I 0) a4 λa6=>St1 (f.add 1) (.I 0) a6 λa7=>LdI .i64 (f.add 0) a7 λa8=>LdI .i64 (f.add 1) a7 λa9=>e (.iface 270 (.agg #[.I a5,.I a2])) a8 a9 a7)) (∃t99:Int,∃t991:Int,∃is1:Bool,AsB c 270 [.I t99,.I t991] [.I 0,.I 0] is1 ∧
 (If is1 (Nw (.cells #[.I 0,.I 0] 270 (0,0)) o λba bb=>St1 (ba.add 0) (.I t99) bb λbc=>St1 (ba.add 1) (.I t991) bc λbd=>Jn [] (λbe=>LdI .i64 (ba.add 0) be λbf=>LdI .i64 (ba.add 1) be λbg=>St1 (f.add 0) (.I 0) be λbh=>St1 (f.add 1) (.I 0) bh λbi=>LdI .i64 (f.add 0) bi λbj=>LdI .i64 (f.add 1) bi λbk=>e (.iface 275 (.agg #[.I bf,.I bg])) bj bk bi) λbl=>LdI .i64 (ba.add 1) bd λbm=>NilP a λbn=>LdS (bn.add 0) bd λbo=>LdI .i64 (ba.add 0) bd λbp=>Ix bo.a bo.len bp 3 λbq=>LdI .i64 (bq.add 2) bd λbr=>If (bm==br) (LdI .i64 (ba.add 0) bd λbs=>Wy.c q bs bd λbt bu bv=>If (bu==0) (LdI .i64 (ba.add 0) bv λbw=>X4.c a b bw bt bv λbx=>St1 (f.add 0) (.I 0) bx λbz=>St1 (f.add 1) (.I 0) bz λb0=>LdI .i64 (f.add 0) b0 λb1=>LdI .i64 (f.add 1) b0 λb2=>e (.iface 274 (.agg #[])) b1 b2 b0) (bl bv)) (bl bd)) (∃t135:Int,∃t1351:Int,∃is2:Bool,AsB c 275 [.I t135,.I t1351] [.I 0,.I 0] is2 ∧ (If is2 (Nw (.cells #[.I 0,.I 0] 275 (0,0)) o λb3 b4=>St1 (b3.add 0) (.I t135) b4 λb5=>St1 (b3.add 1) (.I t1351) b5 λb6=>LdI .i64 (b3.add 0) b6 λb7=>LdI .i64 (b3.add 1) b6 λb8=>Wz.c q b7 b8 b6 λb9 ca cb=>If (((b9.len:Nat):Int)>0) (LdI .i64 (b3.add 0) cb λcc=>X4.c a b cc b9 cb λcd=>St1 (f.add 0) (.I 0) cd λce=>St1 (f.add 1) (.I 0) ce λcf=>LdI .i64 (f.add 0) cf λcg=>LdI .i64 (f.add 1) cf λch=>e (.iface 274 (.agg #[])) cg ch cf) (LdI .i64 (b3.add 0) cb λci=>LdI .i64 (b3.add 1) cb λcj=>St1 (f.add 0) (.I 0) cb λck=>St1 (f.add 1) (.I 0) ck λcl=>LdI .i64 (f.add 0) cl λcm=>LdI .i64 (f.add 1) cl λcn=>
 e (.iface 277 (.agg #[.I ci,.I cj])) cm cn cl)) (∃t162:Int,∃t1621:Int,∃is3:Bool,AsB c 277 [.I t162,.I t1621] [.I 0,.I 0] is3 ∧ (If is3 (Nw (.cells #[.I 0,.I 0] 277 (0,0)) o λco cp=>St1 (co.add 0) (.I t162) cp λcq=>St1 (co.add 1) (.I t1621) cq λcr=>LdI .i64 (co.add 0) cr λcs=>XM.c q cs cr λct cu=>If (ct != 0) (St1 (f.add 0) (.I 0) cu λcv=>St1 (f.add 1) (.I ct) cv λcw=>LdI .i64 (f.add 0) cw λcx=>LdI .i64 (f.add 1) cw λcy=>e (.nilIface) cx cy cw) (LdI .i64 (co.add 0) cu λcz=>LdI .i64 (co.add 1) cu λc0=>St1 (f.add 0) (.I 0) cu λc1=>St1 (f.add 1) (.I 0) c1 λc2=>LdI .i64 (f.add 0) c2 λc3=>LdI .i64 (f.add 1) c2 λc4=>e (.iface 275 (.agg #[.I cz,.I c0])) c3 c4 c2)) (∃is4:Bool,AsB c 274 [] [] is4 ∧ (If is4 (Nw (.cells #[] 274 (0,0)) o λc5 c6=>NilP (some j) λc7=>LdS (c7.add 1) c6 λc8=>Ix c8.a c8.len 0 2 λc9=>LdI .i64 (c9.add 0) c6 λda=>LdS (c9.add 1) c6 λdb=>Nw (.cells #[.I 0,.slice none 0 0] 130 (0,0)) c6 λdc dd=>St1 (dc.add 0) (.I da) dd λde=>St1 (dc.add 1) (.slice db.a db.len db.cap) de λdf=>NilP (some j) λdg=>St1 (dg.add 1) (.slice none 0 0) df λdh=>NilP (some j) λdi=>LdP (di.add 0) dh λdj=>LdI .i64 (dc.add 0) dh λdk=>LdS (dc.add 1) dh λdl=>SlcL dl 1 1 (dl.len:Nat) (dl.cap:Nat) λdm=>XQ.c dj dk dm dh λdn dp=>Held dp λdq=>LdH dq .s (dc.add 1) λ(dr:Sl)=>Ix dr.a dr.len 0 1 λds=>LdH dq (.i .i64) ds λ(dt:Int)=>NilP a λdu=>LdH dq .s (du.add 0) λ(dv:Sl)=>LdH dq (.i .i64) (dc.add 0) λ(dw:Int)=>Ix dv.a dv.len dw 3 λdx=>LdH dq (.i .i64) (dx.add 0) λ(dy:Int)=>
 LdH dq (.i .i64) (dc.add 0) λ(dz:Int)=>Yq.c a dt dy dz dp λd0 d1 d2 d3=>And (dq d3) <| St1 (f.add 0) (.I d1) d3 λd4=>St1 (f.add 1) (.I d2) d4 λd5=>LdI .i64 (f.add 0) d5 λd6=>LdI .i64 (f.add 1) d5 λd7=>e (d0) d6 d7 d5) (∃t217:Int,∃is5:Bool,AsB c 262 [.I t217] [.I 0] is5 ∧ (If is5 (Nw (.cells #[.I 0] 262 (0,0)) o λd8 d9=>St1 d8 (.I t217) d9 λea=>LdI .i64 (d8.add 0) ea λeb=>WH.c q eb 1 ea λec ed ee=>If (ed != 0) (St1 (f.add 0) (.I 0) ee λef=>St1 (f.add 1) (.I ed) ef λeg=>LdI .i64 (f.add 0) eg λeh=>LdI .i64 (f.add 1) eg λei=>e (.nilIface) eh ei eg) (Ar .i64 (ec*256) λej=>LdI .i64 (d8.add 0) ee λek=>Ar .i64 (ek*256) λel=>Yq.c a ej el (-1) ee λem en eo ep=>St1 (f.add 0) (.I en) ep λeq=>St1 (f.add 1) (.I eo) eq λer=>LdI .i64 (f.add 0) er λes=>LdI .i64 (f.add 1) er λet=>e (em) es et er)) (∃t240:Int,∃is6:Bool,AsB c 264 [.I t240] [.I 0] is6 ∧ (If is6 (Nw (.cells #[.I 0] 264 (0,0)) o λeu ev=>St1 eu (.I t240) ev λew=>LdI .i64 (eu.add 0) ew λex=>YZ.c a b ex ew λey ez e0 e1=>St1 (f.add 0) (.I ez) e1 λe2=>St1 (f.add 1) (.I e0) e2 λe3=>LdI .i64 (f.add 0) e3 λe4=>LdI .i64 (f.add 1) e3 λe5=>e (ey) e4 e5 e3) (∃t250:Int,∃t2501:Int,∃is7:Bool,AsB c 282 [.I t250,.I t2501] [.I 0,.I 0] is7 ∧ (If is7 (Nw (.cells #[.I 0,.I 0] 282 (0,0)) o λe6 e7=>St1 (e6.add 0) (.I t250) e7 λe8=>St1 (e6.add 1) (.I t2501) e8 λe9=>Jn [] (λfa=>NilP (some j) λfb=>LdS (fb.add 1) fa λfc=>SlcL fc 2 1 (fc.len:Nat) (fc.cap:Nat) λfd=>NilP (some j) λfe=>St1 (fe.add 1) (.slice fd.a fd.len fd.cap) fa λff=>Jn [] (λfg=>
 WR.c a b fg λfh fi=>St1 (f.add 0) (.I 0) fi λfj=>St1 (f.add 1) (.I 0) fj λfk=>LdI .i64 (f.add 0) fk λfl=>LdI .i64 (f.add 1) fk λfm=>e (fh) fl fm fk) λfn=>NilP (some j) λfo=>LdP (fo.add 0) ff λfp=>XX.c fp ff λfq fr=>If fq (Held fr λfs=>NilP (some j) λft=>LdH fs .s (ft.add 1) λ(fu:Sl)=>NilP (some j) λfv=>LdH fs .p (fv.add 0) λ(fw:Option Addr)=>WV.c fw fr λfx fy=>And (fs fy) <| App fu 2 32 130 [.I 0,.slice none 0 0] fx fy λfz f0=>And (fs f0) <| NilP (some j) λf1=>St1 (f1.add 1) (.slice fz.a fz.len fz.cap) f0 λf2=>fn f2) (fn fr)) λf3=>Held e9 λf4=>NilP (some j) λf5=>LdH f4 .p (f5.add 0) λ(f6:Option Addr)=>LdH f4 (.i .i64) (e6.add 0) λ(f7:Int)=>LdH f4 (.i .i64) (e6.add 1) λ(f8:Int)=>Yn.c f6 f7 f8 e9 λf9 ga gb=>If (((f9.len:Nat):Int)>0) (LdI .i64 (e6.add 0) gb λgc=>X4.c a b gc f9 gb λgd=>f3 gd) (f3 gb)) (∃is8:Bool,AsB c 285 [] [] is8 ∧ (If is8 (Nw (.cells #[] 285 (0,0)) o λge gf=>NilP (some j) λgg=>LdS (gg.add 1) gf λgh=>Ix gh.a gh.len 0 2 λgi=>LdI .i64 (gi.add 0) gf λgj=>LdS (gi.add 1) gf λgk=>Nw (.cells #[.I 0,.slice none 0 0] 130 (0,0)) gf λgl gm=>St1 (gl.add 0) (.I gj) gm λgn=>St1 (gl.add 1) (.slice gk.a gk.len gk.cap) gn λgo=>NilP (some j) λgp=>LdS (gp.add 1) go λgq=>SlcL gq 2 1 (gq.len:Nat) (gq.cap:Nat) λgr=>Wn.c gr go λgs gt=>NilP (some j) λgu=>St1 (gu.add 1) (.slice gs.a gs.len gs.cap) gt λgv=>Held gv λgw=>LdH gw (.i .i64) (gl.add 0) λ(gx:Int)=>LdH gw .s (gl.add 1) λ(gy:Sl)=>Y3.c a b gv λgz g0=>And (gw g0) <| YX.c a gz gx gy g0 λg1=>
 WR.c a b g1 λg2 g3=>St1 (f.add 0) (.I 0) g3 λg4=>St1 (f.add 1) (.I 0) g4 λg5=>LdI .i64 (f.add 0) g5 λg6=>LdI .i64 (f.add 1) g5 λg7=>e (g2) g6 g7 g5) (∃t332:Int,∃t3321:Int,∃is9:Bool,AsB c 289 [.I t332,.I t3321] [.I 0,.I 0] is9 ∧ (If is9 (Nw (.cells #[.I 0,.I 0] 289 (0,0)) o λg8 g9=>St1 (g8.add 0) (.I t332) g9 λha=>St1 (g8.add 1) (.I t3321) ha λhb=>NilP a λhc=>LdS (hc.add 7) hb λhd=>LdI .i64 (g8.add 1) hb λhe=>Ix hd.a hd.len he 1 λhf=>LdP hf hb λhg=>LdI .i64 (g8.add 0) hb λhh=>WG.c hg hh hb λhi hj=>w hj) (∃is10:Bool,AsB c 266 [] [] is10 ∧ (If is10 (Nw (.cells #[] 266 (0,0)) o λhk hl=>NilP (some j) λhm=>LdP (hm.add 0) hl λhn=>Xw.c hn hl λho hp=>NilP (some j) λhq=>St1 (hq.add 1) (.slice ho.a ho.len ho.cap) hp λhr=>WR.c a b hr λhs ht=>St1 (f.add 0) (.I 0) ht λhu=>St1 (f.add 1) (.I 0) hu λhv=>LdI .i64 (f.add 0) hv λhw=>LdI .i64 (f.add 1) hv λhx=>e (hs) hw hx hv) (w o))))))))))))))))))))))
theorem YW.o {a b c d e}(f:YW.v a b c d e):YW.c a b c d e:=Wa Tryz.func133 (x:=YW.h) (R0 f)
def Y3.h:Hn:=.q .o1 (.q .o8 .l)
def Y3.v (a:R2)(b:Int)(c:Hp)(d:Int->Hp->Prop):Prop:=NilP a λe=>LdS (e.add 7) c λf=>Nz ((f.len:Nat):Int) <| d (b.tmod ((f.len:Nat):Int)) c
theorem Y3.o {a b c d}(e:Y3.v a b c d):Y3.c a b c d:=Wa Tryz.func170 (x:=Y3.h) (R0 e)
def Yq.h:Hn:=.q .o2 (.q (.reg (.held true [12] (.take 0 (.take 1 (.take 2 (.take 3 (.take 4 (.take 5 (.take 6 (.take 7 (.take 8 (.take 9 (.all [(10,.take 11 (.all [(12,.done)]))]))))))))))))) (.q .o4 .l))
def Yq.v (a:R2)(b c d:Int)(e:Hp)(f:Value->Int->Int->Hp->Prop):Prop:=Nw (.cells #[.I 0,.I 0] 156 (0,0)) e λg h=>Held h λi=>NilP a λj=>LdH i .m (j.add 9) λ(k:Option Nat)=>XT.c a b h λl m=>And (i m) <| MSet .i64 (.ag 4) k b (b,c,d,l) m λn=>St1 (g.add 0) (.I b) n λo=>St1 (g.add 1) (.I 0) o λp=>LdI .i64 (g.add 0) p λq=>LdI .i64 (g.add 1) p λr=>f (.nilIface) q r p
theorem Yq.o {a b c d e f}(g:Yq.v a b c d e f):Yq.c a b c d e f:=Wa Tryz.func172 (x:=Yq.h) (R0 g)
def X4.h:Hn:=.reg (.held true [20] (.take 0 (.take 1 (.take 2 (.take 3 (.take 4 (.take 5 (.take 6 (.take 7 (.take 8 (.take 9 (.take 10 (.take 11 (.take 12 (.take 13 (.take 14 (.take 15 (.all [(16,.all [(17,.take 18 (.take 19 (.all [(20,.done)])))])]))))))))))))))))))
def X4.v (a:R2)(b c:Int)(d:Sl)(e:Hp)(f:Hp->Prop):Prop:=Held e λg=>NilP a λh=>LdH g .s (h.add 8) λ(i:Sl)=>NilP a λj=>LdH g .s (j.add 8) λ(k:Sl)=>Ix k.a k.len b 3 λl=>LdH g .s (l.add 1) λ(m:Sl)=>Nw (.cells #[.I c,.slice d.a d.len d.cap] 130 (0,0)) e λn o=>And (g o) <| App m 2 32 130 [.I 0,.slice none 0 0] ⟨some n,1,1⟩ o λp q=>And (g q) <| Ix i.a i.len b 3 λr=>St1 (r.add 1) (.slice p.a p.len p.cap) q λs=>f s
theorem X4.o {a b c d e f}(g:X4.v a b c d e f):X4.c a b c d e f:=Wa Tryz.func175 (x:=X4.h) (R0 g)
def YZ.h:Hn:=.q .o2 (.q (.o 12) (.q (.q .o2 (.c (.sjn [] (.q .o4 (.q .o2 (.c (.q (.o 16) (.q (.reg (.seq [.op,.op,.op,.grd true 2 [.op,.op],.op,.grd true 3 (RI.ops 3)])) (.c (.q .o3 .l) .l))) .l))) (.q .o3 .l)) .l)) (.q .o6 (.q (.q .o3 (.c (.q .o9 .l) .l)) (.q .o7 (.q .o8 .l))))))
def YZ.v (a:R2)(b c:Int)(d:Hp)(e:Value->Int->Int->Hp->Prop):Prop:=Nw (.cells #[.I 0,.I 0] 156 (0,0)) d λf g=>NilP a λh=>LdM (h.add 9) g λi=>Lk .i64 (.ag 4) i c g λj=>Nw (.cells #[.I 0,.I 0,.I 0,.I 0] 76 (0,0)) g λk l=>St1 (k.add 0) (.I ((j.getD (0,0,0,0)).1)) l λm=>St1 (k.add 1) (.I ((j.getD (0,0,0,0)).2.1)) m λn=>St1 (k.add 2) (.I ((j.getD (0,0,0,0)).2.2.1)) n λo=>St1 (k.add 3) (.I ((j.getD (0,0,0,0)).2.2.2)) o λp=>If (!j.isSome) (Jn [] (λq=>St1 (f.add 0) (.I 0) q λr=>St1 (f.add 1) (.I 8) r λs=>LdI .i64 (f.add 0) s λt=>LdI .i64 (f.add 1) s λu=>e (.nilIface) t u s) λv=>XT.c a c p λw x=>If (w≥0) (NilP a λy=>LdS (y.add 7) x λz=>Ix z.a z.len w 1 λaa=>LdP aa x λab=>Yw.c ab c x λac ad ae af=>JnB (λag ah=>JnB (λai aj=>If ai (St1 (f.add 0) (.I 0) aj λak=>St1 (f.add 1) (.I 9) ak λal=>LdI .i64 (f.add 0) al λam=>LdI .i64 (f.add 1) al λan=>e (.nilIface) am an al) (v aj)) λao=>If ag (ao (ad==c) ah) (ao false ah)) λap=>If (ae==0) (ap (decide (ac≥0)) af) (ap false af)) (v x)) (NilP a λaq=>LdM (aq.add 9) p λar=>MDel .i64 (.ag 4) ar c p λau=>LdI .i64 (k.add 2) au λav=>If (av<0) (Nz 256<|Ar .i64 (c.tdiv 256) λaw=>LdI .i64 (k.add 3) au λax=>St1 (f.add 0) (.I 0) au λay=>St1 (f.add 1) (.I 0) ay λaz=>LdI .i64 (f.add 0) az λa0=>LdI .i64 (f.add 1) az λa1=>e (.iface 289 (.agg #[.I aw,.I ax])) a0 a1 az) (LdI .i64 (k.add 2) au λa2=>Nw (.cells #[.I c] 3 (0,0)) au λa3 a4=>X4.c a b a2 ⟨some a3,1,1⟩ a4 λa5=>LdI .i64 (k.add 2) a5 λa6=>St1 (f.add 0) (.I 0) a5 λa7=>
 St1 (f.add 1) (.I 0) a7 λa8=>LdI .i64 (f.add 0) a8 λa9=>LdI .i64 (f.add 1) a8 λba=>e (.iface 282 (.agg #[.I a6,.I c])) a9 ba a8))
theorem YZ.o {a b c d e}(f:YZ.v a b c d e):YZ.c a b c d e:=Wa Tryz.func180 (x:=YZ.h) (R0 f)
def WR.h:Hn:=.q .o1 (.q (.q .o10 (.c (.q .o1 .l) .l)) (.q .o3 .l))
def WR.v (a:R2)(b:Int)(c:Hp)(d:Value->Hp->Prop):Prop:=NilP a λe=>LdS (e.add 8) c λf=>Ix f.a f.len b 3 λg=>LdS (g.add 1) c λh=>If (((h.len:Nat):Int)==0) (d (.nilIface) c) (d (.iface 285 (.agg #[])) c)
theorem WR.o {a b c d}(e:WR.v a b c d):WR.c a b c d:=Wa Tryz.func184 (x:=WR.h) (R0 e)
def YX.h:Hn:=.q .o1 (.q .o7 (.q (.q .o4 (.k (.loop [(23,.I)] (.q .o1 (.q (.c .l .l) (.q (.k (.q .o3 (.q .o4 (.o 11)))) .o2)))))) (.sjn [] (.q (.oq 9) (.c (.q (.reg (.held true [] (.take 0 (.take 1 (.take 2 (.take 3 (.take 4 (.take 5 (.take 6 (.take 7 (.take 8 (.take 9 (.take 10 (.all [(11,.take 12 (.take 13 (.take 14 (.take 15 (.take 16 (.done))))))])))))))))))))) (.q (.reg (.seq [.op,.op,.grd true 2 [.op,.op]])) (.c .l .l))) .l)) (.q .o3 (.k (.loop [(72,.I)] (.q .o1 (.q (.c .l .l) (.q (.k (.q .o5 (.q .o3 (.c (.reg (.tail 10 (RI.ops 10) [.op])) .l)))) .o2)))))))))
def YX.v (a:R2)(b c:Int)(d:Sl)(e:Hp)(f:Hp->Prop):Prop:=Nw (.cells #[.I c,.slice d.a d.len d.cap] 130 (0,0)) e λg h=>NilP a λi=>LdS (i.add 7) h λj=>Mk ((j.len:Nat):Int) ((j.len:Nat):Int) 24 69 [.slice none 0 0] h λk l=>LdS (g.add 1) l λm=>XL [(.i .i64)] (λn=>n 0 l) λo (p:Int) q=>If (p<((m.len:Nat):Int)) (Ix m.a m.len p 1 λr=>LdI .i64 r q λs=>XT.c a s q λt u=>Ix k.a k.len t 1 λv=>LdS v u λw=>Nw (.cells #[.I s] 3 (0,0)) u λx y=>App w 1 8 3 [.I 0] ⟨some x,1,1⟩ y λz aa=>Ix k.a k.len t 1 λab=>St1 ab (.slice z.a z.len z.cap) aa λac=>Ar .i64 (p+1) λad=>o ad ac) (Jn [] (λae=>XL [(.i .i64)] (λaf=>af 0 ae) λag (ah:Int) ai=>If (ah<((k.len:Nat):Int)) (Ix k.a k.len ah 1 λaj=>LdS aj ai λak=>If (((ak.len:Nat):Int)>0) (NilP a λal=>LdS (al.add 7) ai λam=>Ix am.a am.len ah 1 λan=>LdP an ai λao=>LdI .i64 (g.add 0) ai λap=>WJ.c ao ap ak ai λaq ar=>Ar .i64 (ah+1) λau=>ag au ar) (Ar .i64 (ah+1) λav=>ag av ai)) (f ai)) λaw=>Ix k.a k.len b 1 λax=>LdS ax q λay=>LdS (g.add 1) q λaz=>If (((ay.len:Nat):Int)==((az.len:Nat):Int)) (Held q λa0=>NilP a λa1=>LdH a0 .s (a1.add 7) λ(a2:Sl)=>Ix a2.a a2.len b 1 λa3=>LdH a0 .p a3 λ(a4:R2)=>LdH a0 (.i .i64) (g.add 0) λ(a5:Int)=>LdH a0 .s (g.add 1) λ(a6:Sl)=>WD.c a4 a5 a6 q λa7 a8 a9=>And (a0 a9) <| JnB (λba bb=>If ba (f bb) (aw bb)) λbc=>If a7 (bc (a8==0) a9) (bc false a9)) (aw q))
theorem YX.o {a b c d e f}(g:YX.v a b c d e f):YX.c a b c d e f:=Wa Tryz.func186 (x:=YX.h) (R0 g)
end Go.Proofs
namespace Go.Ar
open Go Go.Vc Go.Proofs
def phV:Option Ph->Value
 | none=>.nilIface
 | some (.take k)=>.iface 260 (.agg #[.int .i64 (k:Int)])
 | some (.transfer k w)=>.iface 270 (.agg #[.int .i64 (k:Int),.int .i64 (w:Int)])
 | some (.central k w)=>.iface 275 (.agg #[.int .i64 (k:Int),.int .i64 (w:Int)])
 | some (.grow k w)=>.iface 277 (.agg #[.int .i64 (k:Int),.int .i64 (w:Int)])
 | some .fill=>.iface 274 (.agg #[])
 | some (.large m)=>.iface 262 (.agg #[.int .i64 (m:Int)])
 | some (.find x)=>.iface 264 (.agg #[.int .i64 x])
 | some (.put k x)=>.iface 282 (.agg #[.int .i64 (k:Int),.int .i64 x])
 | some .back=>.iface 285 (.agg #[])
 | some (.give s a)=>.iface 289 (.agg #[.int .i64 s,.int .i64 a])
 | some .drain=>.iface 266 (.agg #[])
theorem WbM (p:Option Ph):IsIf (phV p):=by
 cases p with
 | none=>exact .inl rfl
 | some p=>cases p<;>exact .inr ⟨_,_,rfl⟩
theorem WaQ (p:Option Ph):nilI (phV p)=p.isNone:=by
 cases p with
 | none=>rfl
 | some p=>cases p<;>rfl
inductive LbH where
 | hd|tab|sp|arow|trow|live
 | ar (k:Nat)
 | ca (k:Nat)
 | hn (k:Nat)
 deriving DecidableEq
structure LayT where
 c:LayC
 h:Sl
structure LayH where
 p:Nat
 hs:Nat
 lm:Nat
 tab:Sl
 arow:Sl
 trow:Sl
 ys:List Lay
 ts:List LayT
def hdH (L:LayH)(c:Cf):List Value:=[.slice L.tab.a L.tab.len L.tab.cap,.int .i64 (c.pages:Int),.int .i64 (c.arenas:Int),.int .i64 (c.threads:Int),.int .i64 (c.budget:Int),.int .i64 (c.room:Int),
 .pointer (some ⟨L.hs,0,none⟩),.slice L.arow.a L.arow.len L.arow.cap,.slice L.trow.a L.trow.len L.trow.cap,.map (some L.lm)]
def thV (x:LayT×Th):List Value:=[.pointer (some ⟨x.1.c.p,0,none⟩),.slice x.1.h.a x.1.h.len x.1.h.cap,phV x.2.ph]
def trV (ts:List LayT)(ths:List Th):List Value:=(ts.zip ths).flatMap thV
theorem Uw:∀{ts:List LayT} {ths:List Th},ts.length=ths.length->(trV ts ths).length=ths.length*3
 | [],[],_=>rfl
 | x::ts,h::ths,e=>by
  have e1:trV (x::ts) (h::ths)=thV (x,h)++trV ts ths:=rfl;have e3:(thV (x,h)).length=3:=rfl;rw[e1,zJ,Uw (by simpa using e),e3,zU];omega
 | [],_::_,e=>by simp at e
 | _::_,[],e=>by simp at e
theorem Wb8:∀{ts:List LayT} {ths:List Th} {i:Nat} {x:LayT} {h:Th},ts[i]?=some x->ths[i]?=some h->∀{d:Nat},d<3->(trV ts ths)[3*i+d]?=(thV (x,h))[d]?
 | [],_,_,_,_,h1,_,_,_=>by simp at h1
 | _::_,[],_,_,_,_,h2,_,_=>by simp at h2
 | y::ts,g::ths,0,x,h,h1,h2,d,hd=>by
  have e1:trV (y::ts) (g::ths)=thV (y,g)++trV ts ths:=rfl;have e3:(thV (y,g)).length=3:=rfl;simp at h1 h2;subst h1;subst h2;rw[e1,zd (by omega)];congr 1;omega
 | y::ts,g::ths,i+1,x,h,h1,h2,d,hd=>by
  have e1:trV (y::ts) (g::ths)=thV (y,g)++trV ts ths:=rfl;have e3:(thV (y,g)).length=3:=rfl;rw[e1,zk (by omega),e3,show 3*(i+1)+d-3=3*i+d by omega];exact Wb8 (by simpa using h1) (by simpa using h2) hd
theorem Waf:∀{ts:List LayT} {ths:List Th} {i:Nat} {x:LayT} {h:Th},ts[i]?=some x->ths[i]?=some h->∀{d:Nat} {v:Value} {x':LayT} {h':Th},d<3->thV (x',h')=(thV (x,h)).set d v →
 (trV ts ths).set (3*i+d) v=trV (ts.set i x') (ths.set i h')
 | [],_,_,_,_,h1,_,_,_,_,_,_,_=>by simp at h1
 | _::_,[],_,_,_,_,h2,_,_,_,_,_,_=>by simp at h2
 | y::ts,g::ths,0,x,h,h1,h2,d,v,x',h',hd,e=>by
  have e1:trV (y::ts) (g::ths)=thV (y,g)++trV ts ths:=rfl;have e2:trV ((y::ts).set 0 x') ((g::ths).set 0 h')=thV (x',h')++trV ts ths:=rfl;have e3:(thV (y,g)).length=3:=rfl;simp at h1 h2;subst h1;subst h2;rw[e1,e2,List.set_append_left _ _ (by omega),e,show 3*0+d=d by omega]
 | y::ts,g::ths,i+1,x,h,h1,h2,d,v,x',h',hd,e=>by
  have e1:trV (y::ts) (g::ths)=thV (y,g)++trV ts ths:=rfl;have e2:trV ((y::ts).set (i+1) x') ((g::ths).set (i+1) h')=thV (y,g)++trV (ts.set i x') (ths.set i h'):=rfl;have e3:(thV (y,g)).length=3:=rfl;rw[e1,e2,List.set_append_right _ _ (by omega),e3,show 3*(i+1)+d-3=3*i+d by omega];rw[Waf (by simpa using h1) (by simpa using h2) hd e]
def ArH (y:Option Lay)(a:Option AR):Hp->Rg->Prop:=λσ F=>match y,a with
 | some Y,some A=>AHY σ F Y A (traT A Y)
 | _,_=>True
def CaH (x:Option LayT)(h:Option Th)(tb:List Cls)(bud:Nat):Hp->Rg->Prop:=λσ F=>match x,h with
 | some x,some h=>CaY σ F x.c tb bud h.ls
 | _,_=>True
def HnH (x:Option LayT)(h:Option Th):Hp->Rg->Prop:=λσ F=>match x,h with
 | some x,some h=>BtR x.h h.hands σ F
 | _,_=>True
def CH (H:Hw)(L:LayH):LbH->Hp->Rg->Prop
 | .hd=>BlkR L.p (hdH L H.cf)
 | .tab=>SlR L.tab 3 (tabV H.tb)
 | .sp=>λσ F=>SpH3 σ F L.hs H.sp
 | .arow=>SlR L.arow 1 (ptrV (L.ys.map (·.p)))
 | .trow=>RowR L.trow 3 (trV L.ts H.ths)
 | .live=>MapR L.lm .i64 (.ag 4) H.live
 | .ar k=>ArH L.ys[k]? H.ars[k]?
 | .ca t=>CaH L.ts[t]? H.ths[t]? H.tb H.cf.budget
 | .hn t=>HnH L.ts[t]? H.ths[t]?
theorem ArH.loc (y:Option Lay)(a:Option AR):Lcl (ArH y a):=by
 intro σ σ' F G h hz hs;unfold ArH at *;split at h
 ·exact AHY.loc _ _ _ _ h hz hs
 ·trivial
theorem CaH.loc (x:Option LayT)(h:Option Th)(tb:List Cls)(bud:Nat):Lcl (CaH x h tb bud):=by
 intro σ σ' F G h hz hs;unfold CaH at *;split at h
 ·exact CaY.loc _ _ _ _ h hz hs
 ·trivial
theorem HnH.loc (x:Option LayT)(h:Option Th):Lcl (HnH x h):=by
 intro σ σ' F G h hz hs;unfold HnH at *;split at h
 ·exact BtR.loc _ _ _ _ _ _ h hz hs
 ·trivial
theorem CH.loc {H:Hw}{L:LayH}:∀i,Lcl (CH H L i)
 | .hd=>BlkR.loc _ _
 | .tab=>SlR.loc _ _ _
 | .sp=>SpH3.loc
 | .arow=>SlR.loc _ _ _
 | .trow=>RowR.loc _ _ _
 | .live=>MapR.loc _ _ _ _
 | .ar k=>ArH.loc _ _
 | .ca t=>CaH.loc _ _ _ _
 | .hn t=>HnH.loc _ _
structure HS (L:LayH) (H:Hw):Prop where
 ys:L.ys.length=H.ars.length
 hs:∀Y∈L.ys,Y.hs=L.hs
 ts:L.ts.length=H.ths.length
 a1:1<=H.ars.length
 a2:H.ars.length<=4
 t1:1<=H.ths.length
 t2:H.ths.length<=4
 tb:∀A∈H.ars,A.tb=H.tb
structure HH (σ:Hp) (F:Rg) (L:LayH) (H:Hw):Prop where
 s:HS L H
 sep:Sep (CH H L) σ F
 g:Gl σ
 gd:Gd σ
 o:Off F
 o2:¬F 1
variable {σ:Hp}{F:Rg}{L:LayH}{H:Hw}{t k:Nat}
theorem HH.keep0 (h:HH σ F L H){σ':Hp}(e:Ext0 σ σ'):HH σ' F L H:=⟨h.s,(Sep.loc CH.loc).keep0 h.sep e,h.g.keep0 e,h.gd.keep0 e,h.o,h.o2⟩
theorem HH.keep (h:HH σ F L H){σ':Hp}{T:Rg}(e:Ext T σ σ')(hT:∀b,b<σ.size->F b->¬T b)(hg:Off T)(hg2:¬T 1):HH σ' F L H:=⟨h.s,(Sep.loc CH.loc).keep h.sep e hT,h.g.keep e hg,h.gd.keep e hg2,h.o,h.o2⟩
theorem Wgb {σ:Hp}(g:Gd σ):1<σ.size:=g.lt
theorem HH.mono (h:HH σ F L H){G:Rg}(hs:∀b,b<σ.size->F b->G b)(o:Off G)(o2:¬G 1):HH σ G L H:=⟨h.s,(Sep.loc CH.loc).mono h.sep hs,h.g,h.gd,o,o2⟩
theorem HH.oG (h:HH σ F L H):Off (Grow F σ):=h.o.grow h.g
theorem HH.oG2 (h:HH σ F L H):¬Grow F σ 1:=λhb=>by
 rcases hb with hb|hb
 ·exact h.o2 hb
 ·have:=Wgb h.gd;omega
theorem HH.sub (h:HH σ F L H){G:Rg}(hs:∀b,b<σ.size->F b->G b)(hg:∀b,G b->F b\/σ.size<=b):HH σ G L H:=
 h.mono hs (h.oG.sub hg) λhb=>h.oG2 (hg _ hb)
theorem HH.keepN {v v':Hp}{G T:Rg}{L0:LayH}{H0:Hw}(h0:HH σ F L0 H0)(h:HH v G L H)(e:Ext T v v')(hT:∀b,T b->σ.size<=b)(hG:∀b,b<v.size->G b->¬T b):HH v' G L H:=
 h.keep e hG (h0.oG.sub λb hb=>.inr (hT b hb)) λhb=>h0.oG2 (.inr (hT _ hb))
theorem HH.grown {σ':Hp}{R:Rg}{L':LayH}{H':Hw}(h:HH σ F L H)(h':HH σ' R L' H')(hr:∀b,b<σ'.size->R b->Grow F σ b):HH σ' (Grow F σ) L' H':=h'.mono hr h.oG h.oG2
theorem HH.cut (h:HH σ F L H):HH σ (Cut F σ) L H:=h.sub (λb hb hf=>⟨hf,hb⟩) λb hb=>.inl hb.1
theorem HH.step1 (h:HH σ F L H)(i:LbH):∃G:Rg,(∀b,G b->F b)/\CH H L i σ G/\(∀j,j≠i->∃D:Rg,(∀b,D b->F b)/\(∀b,D b->¬G b)/\CH H L j σ D) ∧
 ∀(σ':Hp) (H':Hw) (L':LayH) (G':Rg),HS L' H'->(∀j,j≠i->CH H' L' j=CH H L j)->Ext G σ σ'->(∀b,G' b->Grow G σ b)->CH H' L' i σ' G' →
  Ext F σ σ'/\HH σ' (λb=>F b/\b<σ.size/\¬G b\/G' b) L' H':=by
 obtain⟨G,hG,hi,hd,hput⟩:=h.sep.stepD CH.loc i;refine⟨G,hG,hi,hd,λσ' H' L' G' hs hj e hg hC=>?_⟩;have eF:=e.sub hG;have hin:∀b,(F b/\b<σ.size/\¬G b\/G' b)->Grow F σ b:=λb hb=>by
  rcases hb with hb|hb
  ·exact .inl hb.1
  ·exact(hg b hb).imp (hG b) id
 refine⟨eF,hs,hput σ' (CH H' L') G' hj e hg hC (CH.loc _),h.g.keep eF h.o,h.gd.keep eF h.o2,λb hb=>(h.o.grow h.g) b (hin b hb),λhb=>?_⟩;rcases hin _ hb with h1|h1
 ·exact h.o2 h1
 ·have:=Wgb h.gd;omega
theorem _root_.Go.Vc.Sep.step2D {L:Type}{C:L->Hp->Rg->Prop}{σ:Hp}{F:Rg}(hC:∀i,Lcl (C i))(h:Sep C σ F)(i j:L)(hij:i≠j)(N:Rg)(hN:∀b,b<σ.size->F b->¬N b):∃G D:Rg,(∀b,G b->F b)/\(∀b,D b->F b)/\(∀b,G b->¬D b)/\C i σ G/\C j σ D/\(∀m,m≠i->m≠j->∃E:Rg,(∀b,E b->F b)/\(∀b,E b->¬(G b\/D b))/\C m σ E) ∧
 ∀(σ':Hp) (C':L->Hp->Rg->Prop) (G' D':Rg),(∀k,k≠i->k≠j->C' k=C k)->Ext (λb=>G b\/D b) σ σ'->(∀b,G' b->(G b\/D b)\/N b)->(∀b,D' b->(G b\/D b)\/N b)->(∀b,G' b->¬D' b)->C' i σ' G'->C' j σ' D'->(∀k,Lcl (C' k)) →
 Sep C' σ' λb=>F b/\b<σ.size/\¬(G b\/D b)\/G' b\/D' b:=by
 obtain⟨ρ,h⟩:=h
 let G:Rg:=λb=>F b/\ρ b=i
 let D:Rg:=λb=>F b/\ρ b=j
 refine⟨G,D,λb hb=>hb.1,λb hb=>hb.1,λb h1 h2=>hij (h1.2.symm.trans h2.2),h i,h j,λm h1 h2=>⟨λb=>F b/\ρ b=m,λb hb=>hb.1,λb hb hx=>hx.elim (λhy=>h1 (hb.2.symm.trans hy.2)) λhy=>h2 (hb.2.symm.trans hy.2),h m⟩,λσ' C' G' D' hk e hg hh hd hi hj hL=>?_⟩
 open Classical in
 refine⟨λb=>if G' b then i else if D' b then j else ρ b,λk=>?_⟩
 by_cases hki:k=i
 ·subst hki;exact(hL _).mono hi λb _ hb=>⟨.inr (.inl hb),zB hb⟩
 by_cases hkj:k=j
 ·subst hkj;exact(hL _).mono hj λb _ hb=>⟨.inr (.inr hb),by show(if G' b then i else if D' b then k else ρ b)=k;rw[zA λhx=>hd b hx hb,zB hb]⟩
 ·rw[hk k hki hkj];refine hC k _ _ _ _ (h k) e.1 λb hb hf=>?_;have hn:¬(G b\/D b):=by
   rintro(hx|hx)
   ·exact hki (hf.2.symm.trans hx.2)
   ·exact hkj (hf.2.symm.trans hx.2)
  have hnG':¬G' b:=λhx=>(hg b hx).elim hn (hN b hb hf.1);have hnH':¬D' b:=λhx=>(hh b hx).elim hn (hN b hb hf.1);exact⟨⟨.inl ⟨hf.1,hb,hn⟩,by show(if G' b then i else if D' b then j else ρ b)=k;rw[zA hnG',zA hnH'];exact hf.2⟩,e.2 b hb hn⟩
theorem HH.step2N (h:HH σ F L H)(i j:LbH)(hij:i≠j)(N:Rg)(hN:∀b,b<σ.size->F b->¬N b)(oN:Off N)(oN2:¬N 1):∃G D:Rg,(∀b,G b->F b)/\(∀b,D b->F b)/\(∀b,G b->¬D b)/\CH H L i σ G/\CH H L j σ D/\(∀m,m≠i->m≠j->∃E:Rg,(∀b,E b->F b)/\(∀b,E b->¬(G b\/D b))/\CH H L m σ E) ∧
 ∀(σ':Hp) (H':Hw) (L':LayH) (G' D':Rg),HS L' H'->(∀m,m≠i->m≠j->CH H' L' m=CH H L m)->Ext (λb=>G b\/D b) σ σ'->(∀b,G' b->(G b\/D b)\/N b)->(∀b,D' b->(G b\/D b)\/N b)->(∀b,G' b->¬D' b)->CH H' L' i σ' G'->CH H' L' j σ' D' →
  Ext F σ σ'/\HH σ' (λb=>F b/\b<σ.size/\¬(G b\/D b)\/G' b\/D' b) L' H':=by
 obtain⟨G,D,hG,hD,hd,hi,hj,hoth,hput⟩:=h.sep.step2D CH.loc i j hij N hN;refine⟨G,D,hG,hD,hd,hi,hj,hoth,λσ' H' L' G' D' hs hm e hg hh hdd h1 h2=>?_⟩;have eF:Ext F σ σ':=e.sub λb hb=>hb.elim (hG b) (hD b);have hin:∀b,(F b/\b<σ.size/\¬(G b\/D b)\/G' b\/D' b)->F b\/N b:=λb hb=>by
  rcases hb with hb|hb|hb
  ·exact .inl hb.1
  ·exact(hg b hb).imp (λhx=>hx.elim (hG b) (hD b)) id
  ·exact(hh b hb).imp (λhx=>hx.elim (hG b) (hD b)) id
 refine⟨eF,hs,hput σ' (CH H' L') G' D' hm e hg hh hdd h1 h2 CH.loc,h.g.keep eF h.o,h.gd.keep eF h.o2,λb hb=>(hin b hb).elim (h.o b) (oN b),λhb=>?_⟩;exact(hin _ hb).elim h.o2 oN2
theorem HH.newN (h:HH σ F L H):Off (λb=>σ.size<=b)/\¬(σ.size<=1):=⟨h.oG.sub λb hb=>.inr hb,λhb=>h.oG2 (.inr hb)⟩
theorem HH.step2 (h:HH σ F L H)(i j:LbH)(hij:i≠j):∃G D:Rg,(∀b,G b->F b)/\(∀b,D b->F b)/\(∀b,G b->¬D b)/\CH H L i σ G/\CH H L j σ D/\(∀m,m≠i->m≠j->∃E:Rg,(∀b,E b->F b)/\(∀b,E b->¬(G b\/D b))/\CH H L m σ E) ∧
 ∀(σ':Hp) (H':Hw) (L':LayH) (G' D':Rg),HS L' H'->(∀m,m≠i->m≠j->CH H' L' m=CH H L m)->Ext (λb=>G b\/D b) σ σ'->(∀b,G' b->(G b\/D b)\/σ.size<=b)->(∀b,D' b->(G b\/D b)\/σ.size<=b)->(∀b,G' b->¬D' b)->CH H' L' i σ' G'->CH H' L' j σ' D' →
  Ext F σ σ'/\HH σ' (λb=>F b/\b<σ.size/\¬(G b\/D b)\/G' b\/D' b) L' H':=
 h.step2N i j hij _ (λb hb _=>by omega) h.newN.1 h.newN.2
theorem HH.hd (h:HH σ F L H):Blk σ L.p (hdH L H.cf):=by obtain⟨G,hG,hb⟩:=h.sep.get .hd;exact hb.2
theorem HH.tabS (h:HH σ F L H):SlR L.tab 3 (tabV H.tb) σ F:=by
 obtain⟨G,hG,hb⟩:=h.sep.get .tab;exact(SlR.loc _ _ _).mono hb λb _ hb=>hG b hb
theorem HH.tabL (h:HH σ F L H):L.tab.len=H.tb.length:=by
 have:=h.tabS.1;rw[QE]at this;omega
theorem HH.arowS (h:HH σ F L H):SlR L.arow 1 (ptrV (L.ys.map (·.p))) σ F:=by
 obtain⟨G,hG,hb⟩:=h.sep.get .arow;exact(SlR.loc _ _ _).mono hb λb _ hb=>hG b hb
theorem HH.arowL (h:HH σ F L H):L.arow.len=H.ars.length:=by
 have:=h.arowS.1;have:=h.s.ys;simp[ptrV]at *;omega
theorem HH.trowS (h:HH σ F L H):SlR L.trow 3 (trV L.ts H.ths) σ F:=by
 obtain⟨G,hG,hb⟩:=h.sep.get .trow;exact(SlR.loc _ _ _).mono (RowR.slR hb) λb _ hb=>hG b hb
theorem HH.trowL (h:HH σ F L H):L.trow.len=H.ths.length:=by
 have:=h.trowS.1;rw[Uw h.s.ts]at this;omega
theorem HH.liveM (h:HH σ F L H):MapL σ L.lm .i64 (.ag 4) H.live:=by obtain⟨G,hG,hb⟩:=h.sep.get .live;exact hb.2
theorem HH.spS (h:HH σ F L H):SpH3 σ F L.hs H.sp:=by
 obtain⟨G,hG,hb⟩:=h.sep.get .sp;exact Lcl.mono SpH3.loc hb λb _ hb=>hG b hb
theorem HH.ar (h:HH σ F L H){A:AR}(hk:H.ars[k]?=some A):∃Y,L.ys[k]?=some Y/\Y.hs=L.hs/\AHY σ F Y A (traT A Y):=by
 have hl:=(gSi.1 hk).1;have hy:L.ys[k]?=some (L.ys[k]'(by rw[h.s.ys];exact hl)):=gGe _;obtain⟨G,hG,hb⟩:=h.sep.get (.ar k);simp only[CH,hk,hy,ArH]at hb;exact⟨_,hy,h.s.hs _ (zE hy),hb.mono λb _ hb=>hG b hb⟩
theorem HH.rA (h:HH σ F L H){Y:Lay}(hy:L.ys[k]?=some Y){K:Option Addr->Prop}(hK:K (some ⟨Y.p,0,none⟩)):Ix L.arow.a L.arow.len (k:Int) 1 λa=>LdP a σ K:=
 WfY h.arowS (by simp[hy]) hK
theorem HH.th (h:HH σ F L H)(ht:t<H.ths.length):∃x g,L.ts[t]?=some x/\H.ths[t]?=some g:=⟨L.ts[t]'(by rw[h.s.ts];exact ht),H.ths[t],gGe _,gGe _⟩
theorem Vb {s:Sl}{ts:List LayT}{ths:List Th}(h:SlR s 3 (trV ts ths) σ F){x:LayT}{g:Th}(hx:ts[t]?=some x)(hg:ths[t]?=some g){d:Nat}(hd:d<3){v:Value}(hv:(thV (x,g))[d]?=some v):∃b o,s.a=some ⟨b,o,none⟩/\cell σ ⟨b,o+(3*t+d),none⟩=some v:=
 h.cell ((Wb8 hx hg hd).trans hv)
theorem Wkk {s:Sl}{ts:List LayT}{ths:List Th}(hs:SlR s 3 (trV ts ths) σ F)(hl:ts.length=ths.length){x:LayT}{g:Th}(hx:ts[t]?=some x)(hg:ths[t]?=some g){d:Nat}(hd:d<3){v:Value}(hv:(thV (x,g))[d]?=some v){K:Addr->Prop}
 (hK:∀b o,s.a=some ⟨b,o,none⟩->cell σ (Addr.add ⟨b,o+3*t,none⟩ d)=some v->K ⟨b,o+3*t,none⟩):Ix s.a s.len (t:Int) 3 K:=by
 have ht:=(gSi.1 hg).1;have hl':=hs.1;rw[Uw hl]at hl';obtain⟨b,o,ha,hc⟩:=Vb hs hx hg hd hv;rw[ha];refine ix (by omega) (by omega) ?_;rw[add_lit,show o+(t:Int).toNat*3=o+3*t by omega];exact hK b o ha (by rw[add_lit,show o+3*t+d=o+(3*t+d) by omega];exact hc)
theorem HH.tIx (h:HH σ F L H){x:LayT}{g:Th}(hx:L.ts[t]?=some x)(hg:H.ths[t]?=some g){d:Nat}(hd:d<3){v:Value}(hv:(thV (x,g))[d]?=some v){K:Addr->Prop}
 (hK:∀b o,cell σ (Addr.add ⟨b,o+3*t,none⟩ d)=some v->K ⟨b,o+3*t,none⟩):Ix L.trow.a L.trow.len (t:Int) 3 K:=
 Wkk h.trowS h.s.ts hx hg hd hv λb o _ hc=>hK b o hc
theorem HH.tS (h:HH σ F L H){x:LayT}{g:Th}(hx:L.ts[t]?=some x)(hg:H.ths[t]?=some g){K:Sl->Prop}(hK:K x.h):Ix L.trow.a L.trow.len (t:Int) 3 λa=>LdS (a.add 1) σ K:=
 h.tIx hx hg (d:=1) (by omega) rfl λb o hc=>ldS hc hK
theorem HH.tR (h:HH σ F L H){x:LayT}{g:Th}(hx:L.ts[t]?=some x)(hg:H.ths[t]?=some g){K:Value->Prop}(hK:K (phV g.ph)):Ix L.trow.a L.trow.len (t:Int) 3 λa=>LdR (a.add 2) σ K:=
 h.tIx hx hg (d:=2) (by omega) rfl λb o hc=>⟨_,hc,hK⟩
theorem HS.setT (h:HS L H){ths:List Th}{ts:List LayT}(e:ts.length=ths.length)(e2:ths.length=H.ths.length):HS {L with ts:=ts} {H with ths:=ths}:=⟨h.ys,h.hs,e,h.a1,h.a2,by rw[e2];exact h.t1,by rw[e2];exact h.t2,h.tb⟩
theorem HS.setA (h:HS L H){A:AR}{sp:Sp}(e:A.tb=H.tb):HS L {H.setA k A with sp:=sp}:=⟨by simp[Hw.setA,h.ys],h.hs,h.ts,by simp[Hw.setA,h.a1],by simp[Hw.setA,h.a2],h.t1,h.t2,λB hB=>by
 rcases zFF hB with h1|h1
 ·exact h.tb B h1
 ·subst h1;exact e⟩
theorem WkC {A:AR}:∀j,j≠LbH.ar k->CH (H.setA k A) L j=CH H L j:=by
 intro j hj;cases j<;>try rfl
 rename_i m;have hm:m≠k:=λe=>hj (by rw[e]);simp only[CH,Hw.setA,zf (Ne.symm hm)]
theorem WlJ {sp:Sp}:∀j,j≠LbH.sp->CH {H with sp:=sp} L j=CH H L j:=by
 intro j hj;cases j<;>first|rfl|exact absurd rfl hj
theorem WiW {l:List (Int×Bk)}:∀j,j≠LbH.live->CH {H with live:=l} L j=CH H L j:=by
 intro j hj;cases j<;>first|rfl|exact absurd rfl hj
theorem HH.stepA (h:HH σ F L H){A:AR}(hk:H.ars[k]?=some A):∃(Y:Lay) (G:Rg),L.ys[k]?=some Y/\Y.hs=L.hs/\(∀b,G b->F b)/\AHY σ G Y A (traT A Y)/\∀(σ':Hp) (A':AR) (G':Rg),A'.tb=A.tb->Ext G σ σ'->(∀b,G' b->Grow G σ b)->AHY σ' G' Y A' (traT A' Y) →
 Ext F σ σ'/\HH σ' (λb=>F b/\b<σ.size/\¬G b\/G' b) L (H.setA k A'):=by
 have hl:=(gSi.1 hk).1;have hy:L.ys[k]?=some (L.ys[k]'(by rw[h.s.ys];exact hl)):=gGe _;generalize (L.ys[k]'(by rw[h.s.ys];exact hl))=Y at hy;obtain⟨G,hG,hi,_,hput⟩:=h.step1 (.ar k);simp only[CH,hk,hy,ArH]at hi;refine⟨Y,G,hy,h.s.hs _ (zE hy),hG,hi,λσ' A' G' htb e hg hA=>?_⟩;refine hput σ' (H.setA k A') L G' (h.s.setA (sp:=H.sp) (htb.trans (h.s.tb A (zE hk)))) WkC e hg ?_;simp only[CH,Hw.setA,hy,zK hl,ArH];exact hA
theorem HH.stepAS (h:HH σ F L H){A:AR}(hk:H.ars[k]?=some A):∃(Y:Lay) (G D:Rg),L.ys[k]?=some Y/\Y.hs=L.hs/\W2 σ G D Y A (traT A Y) H.sp/\∀(σ':Hp) (A':AR) (sp':Sp) (G' D':Rg),A'.tb=A.tb->Ext (Both G D) σ σ'->Fits σ G D G' D'->W2 σ' G' D' Y A' (traT A' Y) sp' →
 Ext F σ σ'/\HH σ' (Grow F σ) L {H.setA k A' with sp:=sp'}:=by
 have hl:=(gSi.1 hk).1;have hy:L.ys[k]?=some (L.ys[k]'(by rw[h.s.ys];exact hl)):=gGe _;generalize (L.ys[k]'(by rw[h.s.ys];exact hl))=Y at hy;obtain⟨G,D,hG,hD,hd,hi,hj,_,hput⟩:=h.step2 (.ar k) .sp (by intro e;cases e);simp only[CH,hk,hy,ArH]at hi;have hj:SpH3 σ D L.hs H.sp:=hj;have hhs:=h.s.hs _ (zE hy);refine⟨Y,G,D,hy,hhs,⟨hi,by rw[hhs];exact hj,hd,h.g,h.o.sub hG,h.o.sub hD⟩,λσ' A' sp' G' D' htb e hf hW=>?_⟩;have hF':∀b,G' b->(G b\/D b)\/σ.size<=b:=λb hb=>(hf.1 b hb).imp .inl id;have hH':∀b,D' b->(G b\/D b)\/σ.size<=b:=λb hb=>.inl (.inr (hf.2 b hb));have c1:∀m,m≠LbH.ar k->m≠LbH.sp->CH {H.setA k A' with sp:=sp'} L m=CH H L m:=λm h1 h2=>
  (WkC (H:={H with sp:=sp'}) (L:=L) (A:=A') m h1).trans (WlJ m h2)
 have c2:CH {H.setA k A' with sp:=sp'} L (.ar k) σ' G':=by
  simp only[CH,Hw.setA,hy,zK hl,ArH];exact hW.a
 have c3:CH {H.setA k A' with sp:=sp'} L .sp σ' D':=by
  show SpH3 σ' D' L.hs sp';rw[←hhs];exact hW.s
 obtain⟨e1,h1⟩:=hput σ' {H.setA k A' with sp:=sp'} L G' D' (h.s.setA (htb.trans (h.s.tb A (zE hk)))) c1 e hF' hH' hW.d c2 c3;refine⟨e1,h.grown h1 λb hb hx=>?_⟩;rcases hx with hx|hx|hx
 ·exact .inl hx.1
 ·exact(hF' b hx).imp (λhy=>hy.elim (hG b) (hD b)) id
 ·exact(hH' b hx).imp (λhy=>hy.elim (hG b) (hD b)) id
theorem HH.stepL (h:HH σ F L H):F L.lm/\∀(σ':Hp) (l:List (Int×Bk)),ZY σ σ' L.lm->MapL σ' L.lm .i64 (.ag 4) l->Ext F σ σ'/\HH σ' F L {H with live:=l}:=by
 obtain⟨G,hG,hi,_,hput⟩:=h.step1 .live;have hi:MapR L.lm .i64 (.ag 4) H.live σ G:=hi;refine⟨hG _ hi.1,λσ' l ho hm=>?_⟩;obtain⟨e1,h1⟩:=hput σ' {H with live:=l} L G ⟨h.s.ys,h.s.hs,h.s.ts,h.s.a1,h.s.a2,h.s.t1,h.s.t2,h.s.tb⟩ WiW (ho.ext.sub λb hb=>by rw[hb];exact hi.1) (λb hb=>.inl hb) ⟨hi.1,hm⟩;exact⟨e1,h1.mono (λb _ hx=>by
  rcases hx with hx|hx
  ·exact hx.1
  ·exact hG b hx) h.o h.o2⟩
theorem HH.stepC (h:HH σ F L H){x:LayT}{g:Th}(hx:L.ts[t]?=some x)(hg:H.ths[t]?=some g):∃G:Rg,(∀b,G b->F b)/\CaY σ G x.c H.tb H.cf.budget g.ls/\∀(σ':Hp) (ls:List Li) (Y':LayC) (G':Rg),Y'.p=x.c.p->Ext G σ σ'->(∀b,G' b->Grow G σ b)->CaY σ' G' Y' H.tb H.cf.budget ls →
 Ext F σ σ'/\HH σ' (λb=>F b/\b<σ.size/\¬G b\/G' b) {L with ts:=L.ts.set t {x with c:=Y'}} {H with ths:=H.ths.set t {g with ls:=ls}}:=by
 have hl1:=(gSi.1 hx).1;have hl2:=(gSi.1 hg).1;obtain⟨G,hG,hi,_,hput⟩:=h.step1 (.ca t);simp only[CH,hx,hg,CaH]at hi;refine⟨G,hG,hi,λσ' ls Y' G' hp e hgr hC=>?_⟩;have htr:trV (L.ts.set t {x with c:=Y'}) (H.ths.set t {g with ls:=ls})=trV L.ts H.ths:=by
  have e0:(trV L.ts H.ths).set (3*t+0) (.pointer (some ⟨x.c.p,0,none⟩))=trV L.ts H.ths:=ZC (Wb8 hx hg (by omega));rw[←e0];exact(Waf hx hg (d:=0) (by omega) (by simp[thV,hp])).symm
 refine hput σ' {H with ths:=H.ths.set t {g with ls:=ls}} {L with ts:=L.ts.set t {x with c:=Y'}} G' (h.s.setT (by simp[h.s.ts]) (by simp)) (λj hj=>?_) e hgr ?_
 ·cases j<;>try rfl
  ·simp only[CH,htr]
  ·rename_i m;have hm:m≠t:=λe=>hj (by rw[e]);simp only[CH,zf (Ne.symm hm)]
  ·rename_i m;by_cases hm:m=t
   ·subst hm;simp only[CH,zK hl1,zK hl2,hx,hg];rfl
   ·simp only[CH,zf (Ne.symm hm)]
 ·simp only[CH,zK hl1,zK hl2,CaH];exact hC
theorem HH.stepN (h:HH σ F L H){x:LayT}{g:Th}(hx:L.ts[t]?=some x)(hg:H.ths[t]?=some g)(N:Rg)(hN:∀b,b<σ.size->F b->¬N b)(oN:Off N)(oN2:¬N 1):∃G D:Rg,(∀b,G b->F b)/\(∀b,D b->F b)/\(∀b,G b->¬D b)/\BtR x.h g.hands σ G/\RowR L.trow 3 (trV L.ts H.ths) σ D/\(∃E:Rg,(∀b,E b->¬G b)/\(∀b,E b->¬D b)/\BlkR L.p (hdH L H.cf) σ E) ∧
 ∀(σ':Hp) (s:Sl) (bs:List Bt) (G' D':Rg),Ext (λb=>G b\/D b) σ σ'->(∀b,G' b->(G b\/D b)\/N b)->(∀b,D' b->(G b\/D b)\/N b)->(∀b,G' b->¬D' b)->BtR s bs σ' G'->RowR L.trow 3 ((trV L.ts H.ths).set (3*t+1) (.slice s.a s.len s.cap)) σ' D' →
  Ext F σ σ'/\HH σ' (λb=>F b/\b<σ.size/\¬(G b\/D b)\/G' b\/D' b) {L with ts:=L.ts.set t {x with h:=s}} {H with ths:=H.ths.set t {g with hands:=bs}}:=by
 have hl1:=(gSi.1 hx).1;have hl2:=(gSi.1 hg).1;obtain⟨G,D,hG,hD,hd,hi,hj,hoth,hput⟩:=h.step2N (.hn t) .trow (by intro e;cases e) N hN oN oN2;simp only[CH,hx,hg,HnH]at hi;have hj:RowR L.trow 3 (trV L.ts H.ths) σ D:=hj;obtain⟨E,_,hE,hhd⟩:=hoth .hd (by intro e;cases e) (by intro e;cases e);refine⟨G,D,hG,hD,hd,hi,hj,⟨E,λb hb hx=>hE b hb (.inl hx),λb hb hx=>hE b hb (.inr hx),hhd⟩,λσ' s bs G' D' e hg1 hd1 hdd hB hr=>?_⟩;have htr:trV (L.ts.set t {x with h:=s}) (H.ths.set t {g with hands:=bs})=(trV L.ts H.ths).set (3*t+1) (.slice s.a s.len s.cap):=(Waf hx hg (d:=1) (by omega) (by simp[thV])).symm;refine hput σ' {H with ths:=H.ths.set t {g with hands:=bs}} {L with ts:=L.ts.set t {x with h:=s}} G' D' (h.s.setT (by simp[h.s.ts]) (by simp)) (λm h1 h2=>?_) e hg1 hd1 hdd ?_ ?_
 ·cases m<;>first|rfl|exact absurd rfl h2|skip
  ·rename_i m;by_cases hm:m=t
   ·subst hm;simp only[CH,zK hl1,zK hl2,hx,hg];rfl
   ·simp only[CH,zf (Ne.symm hm)]
  ·rename_i m;have hm:m≠t:=λe=>h1 (by rw[e]);simp only[CH,zf (Ne.symm hm)]
 ·simp only[CH,zK hl1,zK hl2,HnH];exact hB
 ·simp only[CH,htr];exact hr
theorem HH.stepP (h:HH σ F L H){x:LayT}{g:Th}(hx:L.ts[t]?=some x)(hg:H.ths[t]?=some g)(p:Option Ph){K:Hp->Prop}(hK:∀σ',Ext F σ σ'->HH σ' F L {H with ths:=H.ths.set t {g with ph:=p}}->K σ') :
 Ix L.trow.a L.trow.len (t:Int) 3 λa=>And (IsIf (phV p)) (St1 (a.add 2) (phV p) σ K):=by
 have hl1:=(gSi.1 hx).1;have hl2:=(gSi.1 hg).1;have hlen:=h.trowL;obtain⟨G,hG,hi,_,hput⟩:=h.step1 .trow;have hi:RowR L.trow 3 (trV L.ts H.ths) σ G:=hi;have htl:=Uw h.s.ts;obtain⟨b,hb⟩:∃b,L.trow.a=some ⟨b,0,none⟩:=by
  rcases hi.2 with⟨h0,_⟩|⟨b,_,_,ha,_⟩
  ·omega
  ·exact⟨b,ha⟩
 rw[hb];refine ix (by omega) (by omega) ⟨WbM p,?_⟩;refine hi.st (j:=3*t+2) (by omega) (λb' hb'=>by rw[hb]at hb';cases hb';rw[add_lit,add_lit];congr 1;omega) λσ' e hr=>?_;have htr:trV L.ts (H.ths.set t {g with ph:=p})=(trV L.ts H.ths).set (3*t+2) (phV p):=by
  have:=Waf hx hg (d:=2) (v:=phV p) (x':=x) (h':={g with ph:=p}) (by omega) (by simp[thV]);rw[this,ZC hx]
 obtain⟨e1,h1⟩:=hput σ' {H with ths:=H.ths.set t {g with ph:=p}} L G (h.s.setT (ts:=L.ts) (by simp[h.s.ts]) (by simp)) (λj hj=>by
  cases j<;>first|rfl|exact absurd rfl hj|skip
  ·rename_i m;by_cases hm:t=m
   ·subst hm;simp only[CH,zK hl2,hx,hg];rfl
   ·simp only[CH,zf hm]
  ·rename_i m;by_cases hm:t=m
   ·subst hm;simp only[CH,zK hl2,hx,hg];rfl
   ·simp only[CH,zf hm]) e (λb hb=>.inl hb) (by simp only[CH,htr];exact hr)
 exact hK σ' e1 (h1.mono (λb _ hx=>by
  rcases hx with hx|hx
  ·exact hx.1
  ·exact hG b hx) h.o h.o2)
end Go.Ar
namespace Go.Ar
open Go Go.Vc Go.Proofs
open Go.Bu (YT ZU YR cnt)
variable {σ:Hp}{F H:Rg}{p hs:Nat}{A:AR}{sp:Sp}{Y:Lay}{T:Nat->Hp->Rg->Prop}
theorem WeP {s:Sl}{tb:List Cls}(h:SlR s 3 (tabV tb) σ F)(hl:tb.length<=40){R:Sl->Hp->Prop}(hR:∀s' σ',Ext0 σ σ'->SlR s' 3 (tabV tb) σ' (λb=>σ.size<=b)->R s' σ'):Wc.c s σ R:=by
 refine Wc.o ?_;unfold Wc.v;have hlen:=h.1;rw[QE]at hlen;exact Wan h (by decide) rfl WdK (by decide) (by omega) λs' σ' _ e hr=>hR s' σ' e hr.slR
end Go.Ar
namespace Go.Ar
open Go Go.Vc Go.Proofs
variable {σ:Hp}{F:Rg}{L:LayH}{H:Hw}{t k:Nat}
theorem Vy (h:HH σ F L H){R:Bool->Hp->Prop}(hR:R true σ):Xo.c (some ⟨L.p,0,none⟩) σ R:=by
 refine Xo.o ?_;unfold Xo.v;have hl:=h.trowL;have h1:=h.s.t1;refine JnB.intro (ifT rfl (nilP (h.hd.rS rfl ?_)));rw[zQ (by simp only;omega)];exact hR
theorem Wbo (h:HH σ F L H)(x:Int){R:Bool->Hp->Prop}(hR:R (decide (0<=x/\x<(H.ths.length:Int))) σ):Yo.c (some ⟨L.p,0,none⟩) x σ R:=by
 refine Yo.o ?_;unfold Yo.v;have hl:=h.trowL;refine JnB.intro (ifD (λc1=>nilP (h.hd.rS rfl ?_)) λc1=>?_)
 ·have:decide (x<((L.trow.len:Nat):Int))=decide (0<=x/\x<(H.ths.length:Int)):=by rw[decide_eq_decide,hl];omega
  simp only[this];exact hR
 ·rw[zT (by omega)]at hR;exact hR
theorem Wgh (h:HH σ F L H)(t:Nat){R:Int->Hp->Prop}(hR:R ((H.own t:Nat):Int) σ):Y3.c (some ⟨L.p,0,none⟩) (t:Int) σ R:=by
 refine Y3.o ?_;unfold Y3.v;have hl:=h.arowL;have h1:=h.s.a1;refine nilP (h.hd.rS rfl (nz (by simp only;omega) ?_));have:((t:Int).tmod ((L.arow.len:Nat):Int))=((H.own t:Nat):Int):=by rw[Qw (by omega),hl];unfold Hw.own;omega
 simp only[this];exact hR
theorem Gk (h:HH σ F L H)(x:Int)(hx9:x<=9223372036854775807){R:Int->Hp->Prop}(hR:∀σ',Ext0 σ σ'->R (Yd H.ars x) σ'):XT.c (some ⟨L.p,0,none⟩) x σ R:=by
 refine XT.o ?_;unfold XT.v;refine nw (cs:=[.int .i64 x]) λv hz e hb=>hb.rI0 rfl ?_;have h':=h.keep0 e;by_cases hx:x<0
 ·have:=hR v e;unfold Yd at this;rw[zB hx]at this;exact ifDT hx this
 refine ifDF hx (nilP (h'.hd.rS rfl ?_));have hl:=h.arowL;have ha2:=h.s.a2;refine Wj.o ?_;unfold Wj.v;refine Zw (a:=.i .i64) (λ(z:Int) w=>∃i:Nat,z=(i:Int)/\i<=H.ars.length/\Ext0 σ w/\HH w F L H/\Blk w σ.size [.int .i64 x]/\∀j A,j<i->H.ars[j]?=some A->VB A (x/256)=false) (λz _=>H.ars.length-z.toNat) ⟨0,rfl,by omega,e,h',hb,λj A hj=>by omega⟩ ?_;rintro z w ⟨i,rfl,hi,ew,hw,hbw,hno⟩;refine ifD (λhlt=>?_) λhge=>?_
 ·simp only at hlt;have hi':i<H.ars.length:=by omega
  have hA:H.ars[i]?=some H.ars[i]:=gGe hi';generalize H.ars[i]=A at hA;obtain⟨Y,hy,hhs,hAY⟩:=hw.ar hA;refine hw.rA hy (WaN (all := #[.pointer (some ⟨Y.p,0,none⟩),.pointer (some ⟨σ.size,0,none⟩)]) (by kernel_rfl) (by simp) ?_);refine YD.o ?_;unfold YD.v;refine hbw.rI0 rfl (nz (by decide) (ar (by rw[YQ (by omega)];omega) (by rw[YQ (by omega)];omega) ?_));rw[YQ (by omega)];refine Wj4 hAY (x/256) (iff_ (λht=>?_) λhf=>?_)
  ·have:Yd H.ars x=(i:Int):=by
    unfold Yd;rw[zA hx];have:H.ars.findIdx? (λA=>VB A (x/256))=some i:=by
     obtain⟨hi1,rfl⟩:=gSi.1 hA;exact zAU.2 ⟨hi1,ht,λj hj=>by rw[hno j _ hj (gGe (by omega))];simp⟩
    rw[this]
   have h2:=hR w ew;rw[this]at h2;exact h2
  ·exact arN (m:=i+1) (by omega) (by omega) ⟨⟨i+1,rfl,by omega,ew,hw,hbw,λj B hj hB=>by
    by_cases e:j=i
    ·subst e;rw[hA]at hB;cases hB;exact hf
    ·exact hno j B (by omega) hB⟩,by omega⟩
 ·have hii:i=H.ars.length:=by simp only at hge;omega
  subst hii;have:Yd H.ars x = -1:=by
   unfold Yd;rw[zA hx];have:H.ars.findIdx? (λA=>VB A (x/256))=none:=by
    rw[zCP];intro A hA;obtain⟨j,hj⟩:=zL hA;exact hno j A (gSi.1 hj).1 hj
   rw[this]
  have h2:=hR w ew;rw[this]at h2;exact h2
theorem Wd3 (h:HH σ F L H){R:Int->Int->Int->Int->Int->Hp->Prop}(hR:∀σ',Ext0 σ σ'->R (H.cf.pages:Int) (H.cf.arenas:Int) (H.cf.threads:Int) (H.cf.budget:Int) (H.cf.room:Int) σ'):Yv.c (some ⟨L.p,0,none⟩) σ R:=by
 refine Yv.o ?_;unfold Yv.v;refine nw (cs:=[.int .i64 0,.int .i64 0,.int .i64 0,.int .i64 0,.int .i64 0]) λv hz e hb=>Vy (h.keep0 e) (ifF rfl ?_);have hd:=(h.keep0 e).hd;refine nilP (hd.rI2 rfl (hd.rI2 rfl (hd.rI2 rfl (hd.rI2 rfl (hd.rI2 rfl ?_)))));refine hb.s1 (by simp) λv1 o1 b1=>b1.s1 (by simp) λv2 o2 b2=>b2.s1 (by simp) λv3 o3 b3=>b3.s1 (by simp) λv4 o4 b4=>b4.s1 (by simp) λv5 o5 b5=>?_;refine b5.rI rfl (b5.rI rfl (b5.rI rfl (b5.rI rfl (b5.rI rfl (hR v5 ?_)))));exact((((e.only o1 (.inr (zD _))).only o2 (.inr (zD _))).only o3 (.inr (zD _))).only o4 (.inr (zD _))).only o5 (.inr (zD _))
theorem Wbz (h:HH σ F L H)(hl:H.tb.length<=40){R:Sl->Hp->Prop}(hR:∀s σ',Ext0 σ σ'->SlR s 3 (tabV H.tb) σ' (λb=>σ.size<=b)->R s σ'):Ym.c (some ⟨L.p,0,none⟩) σ R:=by
 refine Ym.o ?_;unfold Ym.v;exact Vy h (ifF rfl (nilP (h.hd.rS rfl (WeP h.tabS hl hR))))
theorem KK (h:HH σ F L H)(ht:t<H.ths.length){R:Value->Hp->Prop}(hR:R (phV (retH H t)) σ):WR.c (some ⟨L.p,0,none⟩) (t:Int) σ R:=by
 refine WR.o ?_;unfold WR.v;obtain⟨x,g,hx,hg⟩:=h.th ht;refine nilP (h.hd.rS rfl (h.tS hx hg ?_));obtain⟨G,hG,hi⟩:=h.sep.get (.hn t);simp only[CH,hx,hg,HnH]at hi;have hl:=hi.len;unfold retH at hR;rw[hg]at hR;simp only at hR;by_cases h0:g.hands=[]
 ·rw[zB h0]at hR;exact ifT (by rw[hl,h0];rfl) hR
 ·rw[zA h0]at hR;have:=zCA.2 h0;exact ifF (by simp only[zAR];omega) hR
theorem Wak (h:HH σ F L H)(x size cls:Int)(hx9:x<=9223372036854775807){R:Value->Int->Int->Hp->Prop}(hR:∀σ',Ext F σ σ'->HH σ' F L (Kq H x size cls)->R .nilIface x 0 σ'):Yq.c (some ⟨L.p,0,none⟩) x size cls σ R:=by
 refine Yq.o ?_;unfold Yq.v;refine nw (cs:=[.int .i64 0,.int .i64 0]) λv hz e hb=>?_;have hv:=h.cut.keep0 e;refine⟨λu=>Ext0 v u,Ext.refl _ _,nilP ⟨some L.lm,λu hu=>by rw[add_lit,((hv.keep0 hu).hd).cell];rfl,?_⟩⟩;refine Gk hv x hx9 λv1 e1=>⟨e1,?_⟩;have h1:=hv.keep0 e1;obtain⟨hF,hput⟩:=h1.stepL;refine⟨L.lm,_,rfl,h1.liveM,λv2 o2 hm2=>?_⟩;obtain⟨e2,h2⟩:=hput v2 _ o2 hm2;have hb2:Blk v2 σ.size [.int .i64 0,.int .i64 0]:=Wr o2 (e1.blk hb id) (by have:=hF.2;omega);refine hb2.s1 (by simp) λv3 o3 b3=>b3.s1 (by simp) λv4 o4 b4=>b4.rI rfl (b4.rI rfl (hR v4 ?_ ?_))
 ·exact(((Ext0.to (e.trans e1)).trans (e2.sub λb hb=>hb.1)).only o3 (.inr (zD _))).only o4 (.inr (zD _))
 ·have e34:Ext (· = σ.size) v2 v4:=o3.ext.trans o4.ext;have h4:=h.keepN h2 e34 (λb hb=>by omega) (λb _ hb he=>by have:=hb.2;omega);exact h4.mono (λb _ hb=>hb.1) h.o h.o2
theorem U4 (h:HH σ F L H)(ht:t<H.ths.length)(k:Nat){s:Sl}{xs:List Int}{X:Rg}(hs:SlR s 1 (Wt xs) σ X)(hc:s.len<=s.cap)(hxs:xs≠[])(hX:∀b,b<σ.size->X b->¬F b)(oX:Off X)(oX2:¬X 1)(hlen:∀g,H.ths[t]?=some g->g.hands.length<=1000){R:Hp->Prop}
 (hR:∀σ' ts',Ext F σ σ'->HH σ' (λb=>Grow F σ b\/X b) {L with ts:=ts'} (Z1 H t k xs)->R σ'):X4.c (some ⟨L.p,0,none⟩) (t:Int) (k:Int) s σ R:=by
 refine X4.o ?_;unfold X4.v;obtain⟨x,g,hx,hg⟩:=h.th ht;have htl:=Uw h.s.ts;have hrl:=h.trowL;have hlen:=hlen g hg;obtain⟨G,D,hG,hD,hd,hB,hr,⟨E,hE1,hE2,hhd⟩,hput⟩:=h.cut.stepN hx hg (λb=>σ.size<=b\/b<σ.size/\X b) (λb hb hf hn=>by
  rcases hn with hn|hn
  ·omega
  ·exact hX b hb hn.2 hf.1) (λb hb=>hb.elim (h.newN.1 b) λhb=>oX b hb.2) (λhb=>hb.elim h.newN.2 λhb=>oX2 hb.2)
 obtain⟨ps,Dn,hrow,hBo,hDs,hj,hne⟩:=hB;have hhd':∀u,Ext G σ u->Blk u L.p (hdH L H.cf):=λu hu=>((BlkR.loc _ _).keep hhd hu λb _ hb hx=>hE1 b hb hx).2;have hr':∀u,Ext G σ u->RowR L.trow 3 (trV L.ts H.ths) u D:=λu hu=>(RowR.loc _ _ _).keep hr hu λb _ hb hx=>hd b hx hb;refine⟨λu=>Ext G σ u,Ext.refl _ _,nilP ⟨L.trow,λu hu=>by rw[add_lit,(hhd' u hu).cell];rfl,nilP ⟨L.trow,λu hu=>by rw[add_lit,(hhd' u hu).cell];rfl,?_⟩⟩⟩;refine Wkk (RowR.slR hr) h.s.ts hx hg (d:=1) (by omega) rfl λb o ha _=>⟨x.h,λu hu=>?_,?_⟩
 ·obtain⟨b',o',ha',hc'⟩:=Vb (RowR.slR (hr' u hu)) hx hg (d:=1) (by omega) rfl;rw[ha]at ha';cases ha';rw[add_lit,show o+3*t+1=o+(3*t+1) by omega];exact hc'
 refine nw (cs:=[.int .i64 (k:Int),.slice s.a s.len s.cap]) λv hz e hb=>⟨Ext0.to e,?_⟩;have hrow1:=(RowO.loc _ _ _).keep0 ((RowO.loc _ _ _).cut hrow) e;have hBo1:=(BtO.loc _ _).keep0 ((BtO.loc _ _).cut hBo) e;have hs1:=(SlR.loc _ _ _).keep0 ((SlR.loc _ _ _).cut hs) e;have hpl:x.h.len=ps.length:=by have:=hrow.1;rw[QF]at this;omega
 have hpg:ps.length=g.hands.length:=hBo.1;refine hrow1.app (ys:=btV (k,s)) rfl rfl ?_ (λv hv=>V3 (l:=[(k,s)]) v (by simpa[btsV]using hv)) ?_ ?_ zBA λs' v2 hl2 e2 hr2=>?_
 ·intro j u hu;rw[add_lit,zG,hb.cell];exact hu
 ·simp only;have:(x.h.len+1)*32<=1001*32:=zo (by omega) (by omega);omega
 ·simp only;omega
 have hs2:=e2.1;have eG:Ext G σ v2:=(Ext0.to e).trans (e2.sub λb hb=>hb.1.1);refine⟨eG,?_⟩;obtain⟨b0,hb0⟩:∃b,L.trow.a=some ⟨b,0,none⟩:=by
  rcases hr.2 with⟨h0,_⟩|⟨b,_,_,ha,_⟩
  ·omega
  ·exact⟨b,ha⟩
 rw[hb0];refine ix (by omega) (by omega) ?_;refine(hr' v2 eG).st (j:=3*t+1) (by omega) (λb' hb'=>by rw[hb0]at hb';cases hb';rw[add_lit,add_lit];congr 1;omega) λσ' e3 hr3=>?_;have hs3:=e3.1;have e03:Ext (λb=>G b\/D b) σ σ':=(eG.sub λb hb=>.inl hb).trans (e3.sub λb hb=>.inr hb);have hr4:=(RowO.loc _ _ _).keep ((RowO.loc _ _ _).cut hr2) e3 λb _ hb hx=>by
  rcases hb.1 with h1|h1
  ·exact hd b h1.1.1 hx
  ·have:=(hD b hx).2;omega
 have hB4:=(BtO.loc _ _).keep ((BtO.loc _ _).keep hBo1 e2 λb _ hb hx=>hx.1.2 hb.1) e3 λb _ hb hx=>hd b (hDs b hb.1) hx;have hs4:=(SlR.loc _ _ _).keep ((SlR.loc _ _ _).keep hs1 e2 λb hb hx hy=>hX b hx.2 hx.1 (hG b hy.1.1).1) e3 λb _ hx hy=>hX b hx.2 hx.1 (hD b hy).1;have hBt:BtR s' (g.hands++[(k,xs)]) σ' (λb=>G b/\b<σ.size\/b<σ.size/\X b\/v.size<=b/\b<v2.size):=by
  refine⟨ps++[(k,s)],λb=>Dn b/\b<σ.size\/b<σ.size/\X b,?_,⟨by simp[hpg],λi p y hp hy=>?_⟩,λb hb=>?_,hj.snoc hBo hne hs hxs (λb hb hx hy=>hX b hb hy (hG b (hDs b hx)).1) k,λy hy=>?_⟩
  ·rw[VJ];have:btsV [(k,s)]=btV (k,s):=by simp[btsV]
   rw[this];refine(RowO.loc _ _ _).mono hr4 λq _ hq=>?_;rcases hq.1 with h1|h1
   ·exact⟨.inl ⟨h1.1.1,h1.2⟩,λhx=>by
     rcases hx with hx|hx
     ·exact h1.1.2 hx.1
     ·exact hX q hx.1 hx.2 (hG q h1.1.1).1⟩
   ·exact⟨.inr (.inr ⟨h1,hq.2⟩),λhx=>by
     rcases hx with hx|hx<;>omega⟩
  ·rcases zAB i ps.length with hi|hi
   ·rw[zd hi]at hp;rw[zd (by omega)]at hy;obtain⟨a1,a2,a3⟩:=hB4.2 i p y hp hy;exact⟨a1,(SlR.loc _ _ _).mono a2 λq _ hq=>.inl hq,a3⟩
   ·rw[zk hi]at hp;rw[zk (by omega)]at hy;have hi0:i-ps.length=0:=by
     have:=(gSi.1 hp).1;simp at this;omega
    rw[hi0]at hp;rw[show i-g.hands.length=0 by omega]at hy;simp at hp hy;subst hp;subst hy;exact⟨rfl,(SlR.loc _ _ _).mono hs4 λq _ hq=>.inr ⟨hq.2,hq.1⟩,hc⟩
  ·rcases hb with hb|hb
   ·exact .inl ⟨hDs b hb.1,hb.2⟩
   ·exact .inr (.inl hb)
  ·rcases zM.1 hy with h1|h1
   ·exact hne y h1
   ·rw[zR]at h1;subst h1;exact hxs
 obtain⟨eF,h4⟩:=hput σ' s' (g.hands++[(k,xs)]) (λb=>G b/\b<σ.size\/b<σ.size/\X b\/v.size<=b/\b<v2.size) D e03 (λb hb=>by
  rcases hb with hb|hb|hb
  ·exact .inl (.inl hb.1)
  ·exact .inr (.inr hb)
  ·exact .inr (.inl (by omega))) (λb hb=>.inl (.inr hb)) (λb hb hx=>by
  have:=(hD b hx).2;rcases hb with hb|hb|hb
  ·exact hd b hb.1 hx
  ·exact hX b hb.1 hb.2 (hD b hx).1
  ·omega) hBt hr3
 refine hR σ' (L.ts.set t {x with h:=s'}) (eF.sub λb hb=>hb.1) ?_;have e5:Z1 H t k xs = {H with ths:=H.ths.set t {g with hands:=g.hands++[(k,xs)]}}:=by
  unfold Z1 Hw.setT
  congr 1
  exact QX hg
 rw[e5];refine h4.mono (λb _ hb=>?_) (λb (hb:Grow F σ b\/X b)=>hb.elim (h.oG b) (oX b)) λ(hb:Grow F σ _\/X _)=>hb.elim h.oG2 oX2;rcases hb with hb | (hb|hb|hb)|hb
 ·exact .inl (.inl hb.1.1)
 ·exact .inl (.inl (hG b hb.1).1)
 ·exact .inr hb.2
 ·exact .inl (.inr (by omega))
 ·exact .inl (.inl (hD b hb).1)
end Go.Ar
namespace Go.Ar
open Go Go.Vc Go.Proofs
variable {σ u u':Hp}{F B P:Rg}{L:LayH}{H H':Hw}{t k n:Nat}{A:AR}{Y:Lay}{x:LayT}{g:Th}{c:Cls}{l:Li}{cs:List Value}
structure HK (F:Rg) (σ:Hp) (B:Rg) (u:Hp) (P:Rg) (L:LayH) (H:Hw):Prop where
 h:HH u P L H
 e:Ext F σ u
 p:∀b,P b->(F b/\b<σ.size\/σ.size<=b)/\¬B b/\b<u.size
 b:∀b,B b->σ.size<=b/\b<u.size
 o:Off (λb=>σ.size<=b)/\¬σ.size<=1
theorem HK.start (h:HH σ F L H):HK F σ (λ_=>False) σ (Cut F σ) L H:=⟨h.cut,Ext.refl _ _,λb hb=>⟨.inl ⟨hb.1,hb.2⟩,id,hb.2⟩,λb hb=>hb.elim,h.newN⟩
theorem HK.box (K:HK F σ B u P L H)(e:Ext0 u u')(hz:u'.size=u.size+1):HK F σ (λb=>B b\/b=u.size) u' P L H:=
 ⟨K.h.keep0 e,K.e.trans (Ext0.to e),λb hb=>⟨(K.p b hb).1,λhx=>hx.elim (K.p b hb).2.1 λhy=>by have:=(K.p b hb).2.2;omega,by have:=(K.p b hb).2.2;omega⟩,λb hb=>by
  have:=K.e.1;rcases hb with hb|hb
  ·have:=K.b b hb;omega
  ·omega,K.o⟩
theorem HK.fr (K:HK F σ B u P L H)(e:Ext0 u u'):HK F σ B u' P L H:=
 ⟨K.h.keep0 e,K.e.trans (Ext0.to e),λb hb=>⟨(K.p b hb).1,(K.p b hb).2.1,by have:=(K.p b hb).2.2;have:=e.1;omega⟩,λb hb=>by have:=K.b b hb;have:=e.1;omega,K.o⟩
theorem HK.own (K:HK F σ B u P L H)(o:ZY u u' n)(hn:B n):HK F σ B u' P L H:=by
 have hb:=K.b n hn;have hz:=o.1;have e:Ext (· = n) u u':=o.ext;have hP:∀b,b<u.size->P b->¬(b=n):=λb _ h1 h2=>(K.p b h1).2.1 (h2▸hn);have oN:Off (λb=>b=n)/\¬(1=n):=⟨K.o.1.sub λb hx=>by omega,λhx=>K.o.2 (by omega)⟩;exact⟨K.h.keep e hP oN.1 oN.2,K.e.newT e λb (hb':b=n)=>.inr (by omega),λb h1=>⟨(K.p b h1).1,(K.p b h1).2.1,by have:=(K.p b h1).2.2;omega⟩,λb h1=>by have:=K.b b h1;omega,K.o⟩
theorem HK.keepB (K:HK F σ B u P L H)(e:Ext P u u')(hb:Blk u n cs)(hn:B n):Blk u' n cs:=e.blk hb λhp=>(K.p n hp).2.1 hn
theorem HK.toX (K:HK F σ B u P L H){Q:Rg}{L':LayH}(e:Ext P u u')(h:HH u' Q L' H')(hq:∀b,b<u'.size->Q b->P b\/u.size<=b\/(F b/\b<σ.size\/σ.size<=b)/\¬B b):HK F σ B u' (Cut Q u') L' H':=by
 have hz:=e.1;have hs:=K.e.1;refine⟨h.cut,K.e.newT e λb hb=>(K.p b hb).1.imp (λh=>h.1) id,λb hb=>⟨?_,λhx=>?_,hb.2⟩,λb hb=>by have:=K.b b hb;omega,K.o⟩
 ·rcases hq b hb.2 hb.1 with h1|h1|h1
  ·exact(K.p b h1).1
  ·exact .inr (by omega)
  ·exact h1.1
 ·rcases hq b hb.2 hb.1 with h1|h1|h1
  ·exact(K.p b h1).2.1 hx
  ·have:=K.b b hx;omega
  ·exact h1.2 hx
theorem HK.to (K:HK F σ B u P L H){Q:Rg}{L':LayH}(e:Ext P u u')(h:HH u' Q L' H')(hq:∀b,b<u'.size->Q b->P b\/u.size<=b):HK F σ B u' (Cut Q u') L' H':=K.toX e h λb hb h1=>(hq b hb h1).imp id .inl
theorem HK.fin (K:HK F σ B u P L H){L0:LayH}{H0:Hw}(h0:HH σ F L0 H0):HH u (Grow F σ) L H:=h0.grown K.h λb _ hb=>(K.p b hb).1.imp (λh=>h.1) id
def Fr (A' A:AR):Prop:=A'.tb=A.tb/\A'.room=A.room/\A'.tra=A.tra
theorem Fr.traT {A' A:AR}(h:Fr A' A)(Y:Lay):Go.Ar.traT A' Y=Go.Ar.traT A Y:=by
 funext k;unfold Go.Ar.traT;rw[h.1,h.2.1,h.2.2]
theorem GN (A:AR)(k m:Int):Fr (Yg A k m) A:=by
 unfold Yg;split<;>exact⟨rfl,rfl,rfl⟩
theorem Wc9 (A:AR)(k:Int)(xs:List Int):Fr (Zb A k xs) A:=⟨(Va A k xs).1,(Va A k xs).2.1,(Va A k xs).2.2.1⟩
theorem WiK (A:AR)(sp:Sp)(m a no:Nat):Fr (getA A sp m a no).2.1 A:=⟨(Ui A sp m a no).1,(Ui A sp m a no).2.2.2.1,(Ui A sp m a no).2.2.1⟩
theorem Wfo (A:AR)(x:Int):Fr (ZT A x) A:=by
 unfold ZT;split<;>exact⟨rfl,rfl,rfl⟩
theorem WeI (A:AR)(sp:Sp)(k:Int):Fr (growS A sp k).1 A:=by
 unfold growS;split
 ·split
  ·rename_i c ss h1 h2;have h:=WiK A sp c.pages 1 (k.toNat+1);generalize getA A sp c.pages 1 (k.toNat+1)=r at h;obtain⟨o,A',sp'⟩:=r;cases o with
   | none=>exact h
   | some x=>
    simp only;split<;>exact h
  ·exact⟨rfl,rfl,rfl⟩
 ·exact⟨rfl,rfl,rfl⟩
theorem WdL (A:AR)(sp:Sp)(m a:Int):Fr (takeAS A sp m a).1 A:=by
 unfold takeAS;split
 ·have h:=WiK A sp m.toNat a.toNat 41;generalize getA A sp m.toNat a.toNat 41=r at h;obtain⟨o,A',sp'⟩:=r;cases o<;>exact h
 ·exact⟨rfl,rfl,rfl⟩
theorem WfS (A:AR)(k:Int):(Zf A k).tb=A.tb:=by unfold Zf;split<;>rfl
theorem Wkc (A:AR)(k:Int)(xs:List Int):(Qh A k xs).tb=A.tb:=by unfold Qh;split<;>rfl
theorem HH.stepA' (h:HH σ F L H)(hk:H.ars[k]?=some A)(hy:L.ys[k]?=some Y):∃G:Rg,(∀b,G b->F b)/\AHY σ G Y A (traT A Y)/\∀(σ':Hp) (A':AR) (Q:Rg),A'.tb=A.tb->Ext G σ σ'->(∀b,Q b->G b\/σ.size<=b)->AHY σ' (λb=>Grow G σ b/\¬Q b) Y A' (traT A' Y) →
 Ext F σ σ'/\HH σ' (λb=>Grow F σ b/\¬Q b) L (H.setA k A'):=by
 obtain⟨Y',G,hy',_,hG,ha,hput⟩:=h.stepA hk;rw[hy]at hy';cases hy';refine⟨G,hG,ha,λσ' A' Q htb e hQ h'=>?_⟩;obtain⟨e1,h1⟩:=hput σ' A' _ htb e (λb hb=>hb.1) h';refine⟨e1,h1.mono (λb _ hb=>?_) (h.oG.sub λb hb=>hb.1) λhb=>h.oG2 hb.1⟩;rcases hb with hb|hb
 ·exact⟨.inl hb.1,λhq=>by
   rcases hQ b hq with h2|h2
   ·exact hb.2.2 h2
   ·have:=hb.2.1;omega⟩
 ·exact⟨hb.1.imp (hG b) id,hb.2⟩
theorem AHY.mono0 {T:Nat->Hp->Rg->Prop}{G Q:Rg}(h:AHY σ G Y A T)(hq:∀b,¬Q b):AHY σ (λb=>G b/\¬Q b) Y A T:=h.mono λb _ hb=>⟨hb,hq b⟩
theorem HH.stepA0 (h:HH σ F L H)(hk:H.ars[k]?=some A)(hy:L.ys[k]?=some Y):∃G:Rg,(∀b,G b->F b)/\AHY σ G Y A (traT A Y)/\∀(σ':Hp) (A':AR),A'.tb=A.tb->Ext G σ σ'->AHY σ' (Grow G σ) Y A' (traT A' Y) →
 Ext F σ σ'/\HH σ' (Grow F σ) L (H.setA k A'):=by
 obtain⟨G,hG,ha,hput⟩:=h.stepA' hk hy;refine⟨G,hG,ha,λσ' A' htb e h'=>?_⟩;obtain⟨e1,h1⟩:=hput σ' A' (λ_=>False) htb e (λb hb=>hb.elim) (h'.mono0 λ_=>id);exact⟨e1,h1.mono (λb _ hb=>hb.1) h.oG h.oG2⟩
theorem UV (h:HH σ F L H)(hk:H.ars[k]?=some A)(hy:L.ys[k]?=some Y)(c:Int){R:Sl->Int->Hp->Prop}
 (hR:∀s σ' (Q:Rg),Ext F σ σ'->(∀b,Q b->F b)->SlR s 1 (Wt (Ye A c)) σ' Q->s.len<=s.cap->HH σ' (λb=>Grow F σ b/\¬Q b) L (H.setA k (Zf A c))->R s (Zu A c) σ') :
 Wy.c (some ⟨Y.p,0,none⟩) c σ R:=by
 obtain⟨G,hG,ha,hput⟩:=h.stepA' hk hy;refine UU ha c λs σ' e hQ hs hcap h'=>?_;obtain⟨e1,h1⟩:=hput σ' (Zf A c) (InB s) (WfS A c) e (λb hb=>.inl (hQ b hb)) (h'.mono λb _ hb=>⟨.inl hb.1,hb.2⟩);exact hR s σ' (InB s) e1 (λb hb=>hG b (hQ b hb)) hs hcap h1
theorem H9 (h:HH σ F L H)(hk:H.ars[k]?=some A)(hy:L.ys[k]?=some Y)(c m:Int){R:Sl->Int->Hp->Prop}
 (hR:∀s σ' (Q:Rg),Ext F σ σ'->(∀b,Q b->σ.size<=b)->RowR s 1 (ints (XZ A c m)) σ' Q->HH σ' (λb=>Grow F σ b/\¬Q b) L (H.setA k (Yg A c m))->R s (ZS A c m) σ') :
 Wz.c (some ⟨Y.p,0,none⟩) c m σ R:=by
 obtain⟨G,hG,ha,hput⟩:=h.stepA' hk hy;refine Gp ha c m λs σ' e hs h'=>?_;have htr:traT (Yg A c m) Y=traT A Y:=(GN A c m).traT Y;obtain⟨e1,h1⟩:=hput σ' (Yg A c m) (λb=>σ.size<=b) (GN A c m).1 e (λb hb=>.inr hb) (by rw[htr];exact h'.mono λb _ hb=>⟨.inl hb.1,by have:=hb.2;omega⟩);exact hR s σ' _ e1 (λb hb=>hb) hs h1
theorem Gr (h:HH σ F L H)(hk:H.ars[k]?=some A)(hy:L.ys[k]?=some Y)(c:Int){sl:Sl}{xs:List Int}{X:Rg}(hs:SlR sl 1 (Wt xs) σ X)(hi:∀x∈xs,I63 x){R:Bool->Int->Hp->Prop}
 (hR:∀σ',Ext F σ σ'->HH σ' (Grow F σ) L (H.setA k (Qh A c xs))->R (Kb A c xs) (V5 A c xs) σ'):WD.c (some ⟨Y.p,0,none⟩) c sl σ R:=by
 obtain⟨G,hG,ha,hput⟩:=h.stepA0 hk hy;refine WaJ ha c hs hi λσ' e h'=>?_;obtain⟨e1,h1⟩:=hput σ' _ (Wkc A c xs) e h';exact hR σ' e1 h1
theorem Waj (h:HH σ F L H)(hk:H.ars[k]?=some A)(hy:L.ys[k]?=some Y)(c:Int){sl:Sl}{xs:List Int}{X:Rg}(hs:SlR sl 1 (Wt xs) σ X)(hX:∀b,b<σ.size->X b->¬F b)(hi:∀x∈xs,I63 x)(hl:xs.length<=1000000)(hcap:sl.len<=sl.cap){R:Int->Hp->Prop}
 (hR:∀σ',Ext F σ σ'->HH σ' (Grow F σ) L (H.setA k (Zb A c xs))->R (Z6 A c xs) σ'):WJ.c (some ⟨Y.p,0,none⟩) c sl σ R:=by
 obtain⟨G,hG,ha,hput⟩:=h.stepA0 hk hy;refine WbF ha c hi hl hcap (.inl ⟨X,hs,λb hb hx hg=>hX b hb hx (hG b hg)⟩) λσ' e h'=>?_;have htr:traT (Zb A c xs) Y=traT A Y:=(Wc9 A c xs).traT Y;obtain⟨e1,h1⟩:=hput σ' _ (Wc9 A c xs).1 e (by rw[htr];exact h');exact hR σ' e1 h1
theorem WaR (h:HH σ F L H)(hk:H.ars[k]?=some A)(hy:L.ys[k]?=some Y)(x:Int)(hf:∀r∈A.runs,r.1<=1000000){R:Int->Hp->Prop}
 (hR:∀σ',Ext F σ σ'->HH σ' (Grow F σ) L (H.setA k (ZT A x))->R (QS A x) σ'):WG.c (some ⟨Y.p,0,none⟩) x σ R:=by
 obtain⟨G,hG,ha,hput⟩:=h.stepA0 hk hy;refine Wa9 ha x hf λσ' e h'=>?_;have htr:traT (ZT A x) Y=traT A Y:=(Wfo A x).traT Y;obtain⟨e1,h1⟩:=hput σ' _ (Wfo A x).1 e (by rw[htr];exact h');exact hR σ' e1 h1
theorem WfZ (h:HH σ F L H)(hk:H.ars[k]?=some A)(hy:L.ys[k]?=some Y)(c:Int){R:Int->Hp->Prop}
 (hR:∀σ',Ext F σ σ'->HH σ' (Grow F σ) L {H.setA k (growS A H.sp c).1 with sp:=(growS A H.sp c).2}->R (QR A H.sp c) σ'):XM.c (some ⟨Y.p,0,none⟩) c σ R:=by
 obtain⟨Y',G,D,hy',_,hW,hput⟩:=h.stepAS hk;rw[hy]at hy';cases hy';refine Wit hW c λσ' G' D' hf e h'=>?_;have htr:traT (growS A H.sp c).1 Y=traT A Y:=(WeI A H.sp c).traT Y;obtain⟨e1,h1⟩:=hput σ' _ _ G' D' (WeI A H.sp c).1 e hf (by rw[htr];exact h');exact hR σ' e1 h1
theorem Gx (h:HH σ F L H)(hk:H.ars[k]?=some A)(hy:L.ys[k]?=some Y)(m a:Int){R:Int->Int->Hp->Prop}
 (hR:∀σ',Ext F σ σ'->HH σ' (Grow F σ) L {H.setA k (takeAS A H.sp m a).1 with sp:=(takeAS A H.sp m a).2}->R ((Zt A H.sp m a:Nat):Int) (ZO A H.sp m a) σ'):WH.c (some ⟨Y.p,0,none⟩) m a σ R:=by
 obtain⟨Y',G,D,hy',_,hW,hput⟩:=h.stepAS hk;rw[hy]at hy';cases hy';refine WaF hW m a λσ' G' D' hf e h'=>?_;have htr:traT (takeAS A H.sp m a).1 Y=traT A Y:=(WdL A H.sp m a).traT Y;obtain⟨e1,h1⟩:=hput σ' _ _ G' D' (WdL A H.sp m a).1 e hf (by rw[htr];exact h');exact hR σ' e1 h1
def Hw.setLs (H:Hw)(t:Nat)(g:Th)(ls:List Li):Hw:={H with ths:=H.ths.set t {g with ls:=ls}}
theorem HH.stepC' (h:HH σ F L H)(hx:L.ts[t]?=some x)(hg:H.ths[t]?=some g):∃G:Rg,(∀b,G b->F b)/\CaY σ G x.c H.tb H.cf.budget g.ls/\∀(σ':Hp) (ls:List Li) (Y':LayC) (Q:Rg),Y'.p=x.c.p->Ext G σ σ'->(∀b,Q b->σ.size<=b)->CaY σ' (λb=>Grow G σ b/\¬Q b) Y' H.tb H.cf.budget ls →
 Ext F σ σ'/\HH σ' (λb=>Grow F σ b/\¬Q b) {L with ts:=L.ts.set t {x with c:=Y'}} (H.setLs t g ls):=by
 obtain⟨G,hG,hc,hput⟩:=h.stepC hx hg;refine⟨G,hG,hc,λσ' ls Y' Q hp e hQ h'=>?_⟩;obtain⟨e1,h1⟩:=hput σ' ls Y' _ hp e (λb hb=>hb.1) h';refine⟨e1,h1.mono (λb _ hb=>?_) (h.oG.sub λb hb=>hb.1) λhb=>h.oG2 hb.1⟩;rcases hb with hb|hb
 ·exact⟨.inl hb.1,λhq=>by have:=hb.2.1;have:=hQ b hq;omega⟩
 ·exact⟨hb.1.imp (hG b) id,hb.2⟩
theorem HH.stepC0 (h:HH σ F L H)(hx:L.ts[t]?=some x)(hg:H.ths[t]?=some g):∃G:Rg,(∀b,G b->F b)/\CaY σ G x.c H.tb H.cf.budget g.ls/\∀(σ':Hp) (ls:List Li) (Y':LayC),Y'.p=x.c.p->Ext G σ σ'->CaY σ' (Grow G σ) Y' H.tb H.cf.budget ls →
 Ext F σ σ'/\HH σ' (Grow F σ) {L with ts:=L.ts.set t {x with c:=Y'}} (H.setLs t g ls):=by
 obtain⟨G,hG,hc,hput⟩:=h.stepC' hx hg;refine⟨G,hG,hc,λσ' ls Y' hp e h'=>?_⟩;obtain⟨e1,h1⟩:=hput σ' ls Y' (λ_=>False) hp e (λb hb=>hb.elim) (h'.mono λb _ hb=>⟨hb,id⟩);exact⟨e1,h1.mono (λb _ hb=>hb.1) h.oG h.oG2⟩
theorem Wig (h:HH σ F L H)(hx:L.ts[t]?=some x)(hg:H.ths[t]?=some g)(hc:H.tb[k]?=some c)(hl:g.ls[k]?=some l){R:Int->Int->Hp->Prop}
 (hR:∀σ' ts',Ext F σ σ'->HH σ' (Grow F σ) {L with ts:=ts'} (H.setLs t g (g.ls.set k (Qk c l).2))->R ((Qk c l).1.getD 0) (if(Qk c l).1.isSome then 0 else 4) σ'):XO.c (some ⟨x.c.p,0,none⟩) (k:Int) σ R:=by
 obtain⟨G,hG,hC,hput⟩:=h.stepC0 hx hg;refine Take_ok hC hc hl λσ' Y' e hp h'=>?_;obtain⟨e1,h1⟩:=hput σ' _ Y' hp e h';exact hR σ' _ e1 h1
theorem WhD (h:HH σ F L H)(hx:L.ts[t]?=some x)(hg:H.ths[t]?=some g)(hc:H.tb[k]?=some c)(hl:g.ls[k]?=some l){R:Int->Int->Hp->Prop}
 (hR:∀σ' ts',Ext F σ σ'->HH σ' (Grow F σ) {L with ts:=ts'} H->R ((Hy c l:Nat):Int) 0 σ'):XV.c (some ⟨x.c.p,0,none⟩) (k:Int) σ R:=by
 obtain⟨G,hG,hC,hput⟩:=h.stepC0 hx hg;refine Wi0 hC hc hl λσ' Y' e hp h'=>?_;obtain⟨e1,h1⟩:=hput σ' _ Y' hp e h';have e2:H.setLs t g g.ls=H:=by
  unfold Hw.setLs;rw[ZC hg]
 rw[e2]at h1;exact hR σ' _ e1 h1
theorem Wht (h:HH σ F L H)(hx:L.ts[t]?=some x)(hg:H.ths[t]?=some g)(hc:H.tb[k]?=some c)(hl:g.ls[k]?=some l){sl:Sl}{xs:List Int}{X:Rg}(hs:SlR sl 1 (Wt xs) σ X)(hX:∀q,X q->¬F q)(hfit:l.os.length+xs.length<=256){R:Int->Hp->Prop}
 (hR:∀σ' ts',Ext F σ σ'->HH σ' (Grow F σ) {L with ts:=ts'} (H.setLs t g (g.ls.set k (addL xs.reverse l)))->R 0 σ'):XQ.c (some ⟨x.c.p,0,none⟩) (k:Int) sl σ R:=by
 obtain⟨G,hG,hC,hput⟩:=h.stepC0 hx hg;refine Wi9 hC hc hl hs (λq hq hg=>hX q hq (hG q hg)) hfit λσ' Y' e hp h'=>?_;obtain⟨e1,h1⟩:=hput σ' _ Y' hp e h';exact hR σ' _ e1 h1
theorem WjH (h:HH σ F L H)(hx:L.ts[t]?=some x)(hg:H.ths[t]?=some g)(hc:H.tb[k]?=some c)(hl:g.ls[k]?=some l)(y:Int){R:Sl->Int->Hp->Prop}
 (hR:∀σ' ts' s e (Q:Rg),Ext F σ σ'->(∀q,Q q->σ.size<=q)->RowR s 1 (Wt (putL c y l).1) σ' Q->HH σ' (λb=>Grow F σ b/\¬Q b) {L with ts:=ts'} (H.setLs t g (g.ls.set k (putL c y l).2))->R s e σ'):Yn.c (some ⟨x.c.p,0,none⟩) (k:Int) y σ R:=by
 obtain⟨G,hG,hC,hput⟩:=h.stepC' hx hg;refine Wle hC hc hl y λσ' Y' s e' Q e hp _ hQ hs h'=>?_;obtain⟨e1,h1⟩:=hput σ' _ Y' Q hp e hQ h';exact hR σ' _ s e' Q e1 hQ hs h1
theorem Whl (h:HH σ F L H)(hx:L.ts[t]?=some x)(hg:H.ths[t]?=some g){R:Bool->Hp->Prop}(hR:∀σ',Ext0 σ σ'->R (decide (H.cf.budget<ZI H.tb g.ls)) σ'):XX.c (some ⟨x.c.p,0,none⟩) σ R:=by
 obtain⟨G,hG,hC,hput⟩:=h.stepC0 hx hg;exact Wje hC hR
theorem WeW (hso:Gi)(h:HH σ F L H)(hx:L.ts[t]?=some x)(hg:H.ths[t]?=some g){R:Sl->Hp->Prop}
 (hR:∀σ' s (Q:Rg),Ext F σ σ'->(∀q,Q q->σ.size<=q)->BtR s (Qj Zj H.tb g.ls) σ' Q->HH σ' (λb=>Grow F σ b/\¬Q b) L (H.setLs t g (Qi Zj H.tb g.ls))->R s σ'):Xw.c (some ⟨x.c.p,0,none⟩) σ R:=by
 obtain⟨G,hG,hC,hput⟩:=h.stepC' hx hg;refine Wh5 hso hC λσ' s Q e hQ h' hs=>?_;obtain⟨e1,h1⟩:=hput σ' _ x.c Q rfl e hQ h';rw[show L.ts.set t {x with c:=x.c}=L.ts from ZC hx]at h1;exact hR σ' s Q e1 hQ hs h1
theorem Wb6 (hso:Gi)(h:HH σ F L H)(hx:L.ts[t]?=some x)(hg:H.ths[t]?=some g){R:Sl->Hp->Prop}
 (hR:∀σ' s (Q:Rg),Ext F σ σ'->(∀q,Q q->σ.size<=q)->BtR s (Qj QM H.tb g.ls) σ' Q->HH σ' (λb=>Grow F σ b/\¬Q b) L (H.setLs t g (Qi QM H.tb g.ls))->R s σ'):WV.c (some ⟨x.c.p,0,none⟩) σ R:=by
 obtain⟨G,hG,hC,hput⟩:=h.stepC' hx hg;refine Wct hso hC λσ' s Q e hQ h' hs=>?_;obtain⟨e1,h1⟩:=hput σ' _ x.c Q rfl e hQ h';rw[show L.ts.set t {x with c:=x.c}=L.ts from ZC hx]at h1;exact hR σ' s Q e1 hQ hs h1
def AtH (S:Hp->Prop)(L:LayH)(tb:List Cls):Prop:=∀m,S m->∃(P:Rg) (ts:List LayT) (H:Hw),HH m P {L with ts:=ts} H/\H.tb=tb
theorem AtH.tab {S:Hp->Prop}{tb:List Cls}(hS:AtH S L tb){K:Sl->Prop}(hK:K L.tab):LdH S .s (Addr.add ⟨L.p,0,none⟩ 0) K:=⟨L.tab,λm hm=>by obtain⟨_,_,_,h,_⟩:=hS m hm;rw[add_lit,h.hd.cell];rfl,hK⟩
theorem AtH.arow {S:Hp->Prop}{tb:List Cls}(hS:AtH S L tb){K:Sl->Prop}(hK:K L.arow):LdH S .s (Addr.add ⟨L.p,0,none⟩ 7) K:=⟨L.arow,λm hm=>by obtain⟨_,_,_,h,_⟩:=hS m hm;rw[add_lit,h.hd.cell];rfl,hK⟩
theorem AtH.rA {S:Hp->Prop}{tb:List Cls}(hS:AtH S L tb)(h:HH σ F L H)(hy:L.ys[k]?=some Y){K:Option Addr->Prop}(hK:K (some ⟨Y.p,0,none⟩)):Ix L.arow.a L.arow.len (k:Int) 1 λa=>LdH S .p a K:=by
 have hv:(ptrV (L.ys.map (·.p)))[k]?=some (.pointer (some ⟨Y.p,0,none⟩)):=by simp[ptrV,hy]
 obtain⟨b,o,ha,_⟩:=h.arowS.cell hv;have hk:=(gSi.1 hy).1;have hal:=h.arowL;have:=h.s.ys;rw[ha];refine ix (by omega) (by omega) ⟨_,λm hm=>?_,hK⟩;obtain⟨_,_,_,hm',_⟩:=hS m hm;obtain⟨b',o',ha',hc'⟩:=hm'.arowS.cell hv;rw[ha]at ha';cases ha';rw[add_lit,show o+(k:Int).toNat*1=o+k by omega];exact hc'
theorem AtH.rC {S:Hp->Prop}(hS:AtH S L H.tb)(h:HH σ F L H)(hc:H.tb[k]?=some c){K:Int->Prop}(hK:K (c.size:Int)):Ix L.tab.a L.tab.len (k:Int) 3 λa=>LdH S (.i .i64) (a.add 0) K:=by
 have hv:(tabV H.tb)[3*k+0]?=some (.int .i64 (c.size:Int)):=(VX hc).1;obtain⟨b,o,ha,_⟩:=h.tabS.cell hv;have hk:=(gSi.1 hc).1;have hal:=h.tabL;rw[ha];refine ix (by omega) (by omega) ⟨_,λm hm=>?_,hK⟩;obtain⟨_,_,_,hm',htb⟩:=hS m hm;rw[←htb]at hv;obtain⟨b',o',ha',hc'⟩:=hm'.tabS.cell hv;have ha':L.tab.a=_:=ha';rw[ha]at ha';cases ha';rw[add_lit,add_lit,show o+(k:Int).toNat*3+0=o+(3*k+0) by omega];exact hc'
end Go.Ar
namespace Go.Ar
open Go Go.Vc Go.Proofs
variable {σ u u':Hp}{F B P Q:Rg}{L:LayH}{H H':Hw}{t k n pb:Nat}{A:AR}{Y:Lay}{x:LayT}{g:Th}{c:Cls}{l:Li}{cs:List Value}{parts:List (List Int)}{xs:List Int}
theorem HK.ownE (K:HK F σ B u P L H)(e:Ext B u u'){B':Rg}(hB:∀b,B' b->B b\/u.size<=b/\b<u'.size):HK F σ B' u' P L H:=by
 have hz:=e.1;have hz0:=K.e.1;have oN:Off B/\¬B 1:=⟨K.o.1.sub λb hx=>(K.b b hx).1,λhx=>K.o.2 (K.b _ hx).1⟩;refine⟨K.h.keep e (λb _ h1 h2=>(K.p b h1).2.1 h2) oN.1 oN.2,K.e.newT e λb hb=>.inr (K.b b hb).1,λb h1=>⟨(K.p b h1).1,λhx=>?_,by have:=(K.p b h1).2.2;omega⟩,λb h1=>?_,K.o⟩
 ·rcases hB b hx with h2|h2
  ·exact(K.p b h1).2.1 h2
  ·have:=(K.p b h1).2.2;omega
 ·rcases hB b h1 with h2|h2
  ·have:=K.b b h2;omega
  ·omega
def sV (s:Sl):Value:=.slice s.a s.len s.cap
def PtR (pb:Nat)(parts:List (List Int)):Hp->Rg->Prop:=λu Q=>∃(ps:List Sl) (Qs:Nat->Rg),ps.length=parts.length/\Q pb/\Blk u pb (ps.map sV)/\(∀j b,Qs j b->Q b/\b≠pb)/\(∀j j' b,Qs j b->Qs j' b->j=j') ∧
 ∀j s xs,ps[j]?=some s->parts[j]?=some xs->RowO s 1 (Wt xs) u (Qs j)
theorem PtR.loc (pb:Nat)(parts:List (List Int)):Lcl (PtR pb parts):=by
 rintro σ σ' F G ⟨ps,Qs,h1,h2,h3,h4,h5,h6⟩ hz hs;have hp:=hs pb h3.lt h2;obtain⟨e,he⟩:=h3;refine⟨ps,λj b=>Qs j b/\b<σ.size,h1,hp.1,⟨e,hp.2.trans he⟩,λj b hb=>⟨(hs b hb.2 (h4 j b hb.1).1).1,(h4 j b hb.1).2⟩,λj j' b a b'=>h5 j j' b a.1 b'.1,λj s xs a b=>(RowO.loc _ _ _) _ _ _ _ (h6 j s xs a b) hz λb hb hq=>⟨⟨hq,hb⟩,(hs b hb (h4 j b hq).1).2⟩⟩
theorem PtR.add (h:PtR pb parts u Q){a m e1 e2:Nat}(hm:m=parts.length)(ha:parts[a]?=some xs)(y:Int)(hl:xs.length<=1000000){K:Hp->Prop}(hK:∀u',Ext Q u u'->PtR pb (parts.set a (xs++[y])) u' (Grow Q u)->K u') :
 Ix (some ⟨pb,0,none⟩) m (a:Int) 1 λa1=>LdS a1 u λt35=>Nw (.cells #[.int .i64 y] e1 (0,0)) u λn37 v4=>App t35 1 8 e2 [.int .i64 0] ⟨some n37,1,1⟩ v4 λt38 v5=>Ix (some ⟨pb,0,none⟩) m (a:Int) 1 λa39=>St1 a39 (.slice t38.a t38.len t38.cap) v5 λv6=>K v6:=by
 obtain⟨ps,Qs,h1,h2,h3,h4,h5,h6⟩:=h;have hlt:=(gSi.1 ha).1;have hps:ps[a]?=some (ps[a]'(by omega)):=gGe _;generalize (ps[a]'(by omega))=s at hps;have hrow:=h6 a s xs hps ha;have hsl:s.len=xs.length:=by have:=hrow.1;simp[Wt]at this;omega
 refine ix (by omega) (by omega) ?_;rw[add_lit,show 0+(a:Int).toNat*1=a by omega];refine h3.rS0 (a:=s.a) (n:=s.len) (c:=s.cap) (by simp[hps,sV]) ?_;refine nw (cs:=[.int .i64 y]) λv4 hz e hb=>?_;have hrow4:=(RowO.loc _ _ _).keep0 ((RowO.loc _ _ _).cut hrow) e;have h34:=e.blk h3 id;refine hrow4.app (x:=⟨some ⟨u.size,0,none⟩,1,1⟩) (ys:=[.int .i64 y]) rfl rfl ?_ (by simp[one1]) ?_ ?_ zBA λs' v5 hl5 e5 hr5=>?_
 ·intro j w hw;rw[add_lit,zG,hb.cell];exact hw
 ·simp only;omega
 ·simp only;omega
 have hz5:=e5.1;have h35:Blk v5 pb (ps.map sV):=e5.blk h34 λhx=>(h4 a pb hx.1).2 rfl;refine ix (by omega) (by omega) ?_;rw[add_lit,show 0+(a:Int).toNat*1=a by omega];refine h35.s0 (by simp;omega) λu' ho hb'=>?_;have hz6:=ho.1;have e6:Ext (· = pb) v5 u':=ho.ext;have eQ:Ext Q u u':=((Ext0.to e).trans (e5.sub λb hb=>(h4 a b hb.1).1)).trans (e6.sub λb hb=>by rw[hb];exact h2);have hpb:=h3.lt;refine hK u' eQ ⟨ps.set a s',λj b=>Qs j b/\b<u.size\/j=a/\v4.size<=b/\b<v5.size,by simp[h1],.inl h2,?_,λj b hb=>?_,λj j' b hb hb'=>?_,λj s2 ys hj hy=>?_⟩
 ·rw[zDQ];exact hb'
 ·rcases hb with hb|hb
  ·exact⟨.inl (h4 j b hb.1).1,(h4 j b hb.1).2⟩
  ·exact⟨.inr (by omega),by omega⟩
 ·rcases hb with hb|hb<;>rcases hb' with hb'|hb'
  ·exact h5 j j' b hb.1 hb'.1
  ·omega
  ·omega
  ·omega
 ·by_cases hja:j=a
  ·subst hja;rw[zK (by omega)]at hj;rw[zK hlt]at hy;cases hj;cases hy;have:=(RowO.loc _ _ _).keep ((RowO.loc _ _ _).cut hr5) e6 λb _ hb hx=>by
    rcases hb.1 with h7|h7
    ·exact(h4 j b h7.1).2 hx
    ·omega
   have e7:Wt (xs++[y])=Wt xs++[.int .i64 y]:=by simp[Wt]
   rw[e7];refine(RowO.loc _ _ _).mono this λb _ hb=>?_;rcases hb.1 with h7|h7
   ·exact .inl h7
   ·exact .inr ⟨rfl,h7,hb.2⟩
  ·rw[zf (Ne.symm hja)]at hj hy;have:=(RowO.loc _ _ _).cut (h6 j s2 ys hj hy);have:=(RowO.loc _ _ _).keep ((RowO.loc _ _ _).keep ((RowO.loc _ _ _).keep0 this e) e5 λb _ hb hx=>hja (h5 j a b hb.1 hx.1)) e6 λb _ hb hx=>(h4 j b hb.1).2 hx;exact(RowO.loc _ _ _).mono this λb _ hb=>.inl hb
theorem PtR.get (h:PtR pb parts u Q){a m:Nat}(hm:m=parts.length)(ha:parts[a]?=some xs){K:Sl->Prop}(hK:∀s,RowO s 1 (Wt xs) u Q->s.len=xs.length->K s):Ix (some ⟨pb,0,none⟩) m (a:Int) 1 λa1=>LdS a1 u K:=by
 obtain⟨ps,Qs,h1,h2,h3,h4,h5,h6⟩:=h;have hlt:=(gSi.1 ha).1;have hps:ps[a]?=some (ps[a]'(by omega)):=gGe _;generalize (ps[a]'(by omega))=s at hps;have hrow:=h6 a s xs hps ha;refine ix (by omega) (by omega) ?_;rw[add_lit,show 0+(a:Int).toNat*1=a by omega];refine h3.rS0 (a:=s.a) (n:=s.len) (c:=s.cap) (by simp[hps,sV]) (hK s ((RowO.loc _ _ _).mono hrow λb _ hb=>(h4 a b hb).1) ?_);have:=hrow.1;simp[Wt]at this;omega
theorem Ga {ars:List AR}{x:Int}(h:0<=Yd ars x):(Yd ars x).toNat<ars.length/\Yd ars x=((Yd ars x).toNat:Int):=by
 refine⟨?_,by omega⟩;unfold Yd at *;split at h
 ·omega
 ·rename_i hx;rw[zA hx];split at h
  ·rename_i i hi;have:=(zGJ.1 hi).1;simp only[iTn];exact this
  ·omega
theorem WgI {ars:List AR}{x:Int}{xs:List Int}(h:0<=Yd ars x):((List.range ars.length).map (Zh ars xs)).set (Yd ars x).toNat (Zh ars xs (Yd ars x).toNat++[x])=(List.range ars.length).map (Zh ars (xs++[x])):=by
 have hl:=Ga h;apply zn;intro j;by_cases hj:j<ars.length
 ·by_cases e:(Yd ars x).toNat=j
  ·subst e;rw[zK (by simpa using hj)];simp only[za,zBB hj,zb,Zh,List.filter_append]
   congr 2
   rw[zEM (by rw[←hl.2];simp)];rfl
  ·rw[zf e];simp only[za,zBB hj,zb,Zh,List.filter_append];have:List.filter (λy=>Yd ars y==(j:Int)) [x]=[]:=by
    rw[zEL (by simp only[zS];omega)];rfl
   rw[this,zAL]
 ·rw[zV (by simp;omega),zV (by simp;omega)]
theorem Kc {K:Bool->Hp->Prop}{body:(Bool->Hp->Prop)->Prop}(P:Bool->Hp->Prop)(h1:∀r w,P r w->K r w)(h2:∀J:Bool->Hp->Prop,(∀r w,P r w->J r w)->body J):JnB K body:=JnB.intro (h2 K h1)
theorem Wkm {K:Fam [.b]}{body:Fam [.b]->Prop}(P:Bool->Hp->Prop)(h1:∀r w,P r w->K r w)(h2:∀J:Fam [.b],(∀r w,P r w->J r w)->body J):Jn [.b] K body:=Jn.intro (h2 K h1)
theorem Wa2 {K:Fam []}{body:Fam []->Prop}(P:Hp->Prop)(h1:∀w,P w->K w)(h2:∀J:Fam [],(∀w,P w->J w)->body J):Jn [] K body:=Jn.intro (h2 K h1)
theorem Q1 {H:Hw}{k:Nat}{part:Nat->List Int}(j:Nat):Q3 H k part (List.range (j+1))=(match (Q3 H k part (List.range j)).ars[j]? with
 | some A=>if part j=[]then Q3 H k part (List.range j)else(Q3 H k part (List.range j)).setA j (Zb A (k:Int) (part j))
 | none=>Q3 H k part (List.range j)):=by
 unfold Q3;rw[zBD,zFG];rfl
theorem Wbw {H:Hw}{k:Nat}{part:Nat->List Int}(j:Nat):(Q3 H k part (List.range j)).ars.length=H.ars.length:=by
 induction j with
 | zero=>rfl
 | succ j ih=>
  rw[Q1];split
  ·split
   ·exact ih
   ·simp[Hw.setA,ih]
  ·exact ih
theorem Wd5 {H:Hw}{k:Nat}{part:Nat->List Int}(j:Nat):(Q3 H k part (List.range j)).ths=H.ths:=by
 induction j with
 | zero=>rfl
 | succ j ih=>
  rw[Q1];split
  ·split<;>exact ih
  ·exact ih
theorem Gf (H:Hw)(own k:Nat)(xs:List Int):(Uz H own k xs).ths=H.ths:=by
 unfold Uz;split
 ·split
  ·rfl
  ·rw[Wd5];split<;>rfl
 ·rfl
def BkI (F:Rg)(σ:Hp)(L:LayH)(H:Hw)(pb:Nat)(parts:List (List Int))(cs:List Value)(w:Hp):Prop:=∃Q P:Rg,HK F σ (λb=>b=σ.size\/Q b) w P L H/\PtR pb parts w Q/\Blk w σ.size cs/\∀b,Q b->b≠σ.size
theorem Wg7 (h:HH σ F L H){own:Nat}(ho:own<H.ars.length)(k:Nat){sl:Sl}{xs:List Int}{X:Rg}(hs:SlR sl 1 (Wt xs) σ X)(hX:∀b,b<σ.size->X b->¬F b)(hcap:sl.len<=sl.cap)(hx:∀x∈xs,I63 x/\0<=Yd H.ars x)(hl:xs.length<=1000000){R:Hp->Prop}
 (hR:∀σ',Ext F σ σ'->HH σ' (Grow F σ) L (Uz H own k xs)->R σ'):YX.c (some ⟨L.p,0,none⟩) (own:Int) (k:Int) sl σ R:=by
 refine YX.o ?_;unfold YX.v;have hsl:sl.len=xs.length:=by have:=hs.1;simp[Wt]at this;omega
 have ha2:=h.s.a2;have hal:=h.arowL;have hs1:∀u,Ext F σ u->SlR sl 1 (Wt xs) u (λb=>X b/\b<σ.size):=λu eu=>(SlR.loc _ _ _).keep ((SlR.loc _ _ _).cut hs) eu λb _ hx hf=>hX b hx.2 hx.1 hf;refine nw (cs:=[.int .i64 (k:Int),.slice sl.a sl.len sl.cap]) λv hz e hb=>?_;have K1:=(HK.start h).box e hz;refine nilP (K1.h.hd.rS rfl ?_);simp only;refine mk (n:=L.arow.len) (by omega) (by omega) λv1 hz1 e1 hb1=>?_;have K2:=K1.box e1 hz1;have hb2:=e1.blk hb id;have hP:PtR v.size ((List.range H.ars.length).map (Zh H.ars [])) v1 (λb=>b=v.size):=by
  refine⟨List.replicate H.ars.length ⟨none,0,0⟩,λ_ _=>False,by simp,rfl,?_,λj b hb=>hb.elim,λj j' b hb=>hb.elim,λj s ys h1 h2=>?_⟩
  ·have:(List.replicate L.arow.len [Value.slice none 0 0]).flatten=(List.replicate H.ars.length (⟨none,0,0⟩:Sl)).map sV:=by
    rw[hal];simp[sV]
   rw[←this];exact hb1
  ·simp only[za,zBW]at h2;obtain⟨a,_,rfl⟩:=h2;simp only[zAT]at h1;split at h1
   ·cases h1;exact RowO.nil _ _ _ _
   ·cases h1
 have hpl:∀ys:List Int,L.arow.len=((List.range H.ars.length).map (Zh H.ars ys)).length:=λys=>by simp[hal]
 refine hb2.rS rfl ?_;refine Zw (a:=.i .i64) (λ(z:Int) w=>∃i:Nat,z=(i:Int)/\i<=xs.length/\BkI F σ L H v.size ((List.range H.ars.length).map (Zh H.ars (xs.take i))) [.int .i64 (k:Int),.slice sl.a sl.len sl.cap] w) (λz _=>xs.length-z.toNat)
  ⟨0,rfl,by omega,λb=>b=v.size,_,⟨K2.h,K2.e,λb hb=>⟨(K2.p b hb).1,λhx=>(K2.p b hb).2.1 (hx.imp .inr id),(K2.p b hb).2.2⟩,λb hb=>K2.b b (hb.imp .inr id),K2.o⟩,hP,hb2,λb hb=>by omega⟩ ?_
 rintro z w ⟨i,rfl,hi,Q,P,K,hP,hbw,hQ⟩;refine ifD (λhlt=>?_) λhge=>?_
 ·simp only at hlt;have hi':i<xs.length:=by omega
  have hxi:xs[i]?=some xs[i]:=gGe hi';generalize xs[i]=y at hxi;have hy:=hx y (zE hxi);refine(hs1 w K.e).ixI hxi (Gk K.h y hy.1 λw1 e1=>?_);have hlt:=Ga hy.2;rw[hlt.2];have hP1:PtR v.size _ w1 (λb=>Q b/\b<w.size):=(PtR.loc _ _).keep0 ((PtR.loc _ _).cut hP) e1;have hpart:((List.range H.ars.length).map (Zh H.ars (xs.take i)))[(Yd H.ars y).toNat]?=some (Zh H.ars (xs.take i) (Yd H.ars y).toNat):=by
   simp only[za,zBB hlt.1,zb]
  have hpl1:(Zh H.ars (xs.take i) (Yd H.ars y).toNat).length<=1000000:=by
   have:=zEJ (λx=>Yd H.ars x==(((Yd H.ars y).toNat:Nat):Int)) (xs.take i);simp only[Zh];rw[zY]at this;omega
  refine hP1.add (hpl _) hpart y hpl1 λw2 e2 hP2=>?_;rw[WgI hy.2]at hP2;have ht:xs.take i++[y]=xs.take (i+1):=by rw[zr,hxi];rfl
  rw[ht]at hP2;have hz1:=e1.1;have hz2:=e2.1;refine arN (m:=i+1) (by omega) (by omega) ⟨⟨i+1,rfl,by omega,λb=>(Q b/\b<w.size)\/w1.size<=b/\b<w2.size,P,(K.fr e1).ownE (e2.sub λb hb=>.inr hb.1) λb hb=>?_,(PtR.loc _ _).mono hP2 λb hb hq=>?_,?_,λb hb=>?_⟩,by omega⟩
  ·rcases hb with hb|hb|hb
   ·exact .inl (.inl hb)
   ·exact .inl (.inr hb.1)
   ·exact .inr hb
  ·rcases hq with hq|hq
   ·exact .inl hq
   ·exact .inr ⟨hq,hb⟩
  ·exact e2.blk (e1.blk hbw id) λhx=>hQ _ hx.1 rfl
  ·have:=(K.b σ.size (.inl rfl)).2;rcases hb with hb|hb
   ·exact hQ b hb.1
   ·omega
 ·have hii:i=xs.length:=by simp only at hge;omega
  subst hii;rw[zAA]at hP;obtain⟨A,hA⟩:∃A,H.ars[own]?=some A:=⟨_,gGe ho⟩;obtain⟨Y,hY,_,_⟩:=h.ar hA;have hbk:Uz H own k xs=(if(Zh H.ars xs own).length=xs.length/\Kb A (k:Int) xs=true then H.setA own (Qh A (k:Int) xs)
   else Q3 (if(Zh H.ars xs own).length=xs.length then H.setA own (Qh A (k:Int) xs)else H) k (Zh H.ars xs) (List.range H.ars.length)):=by
   unfold Uz;rw[hA]
  have hown:((List.range H.ars.length).map (Zh H.ars xs))[own]?=some (Zh H.ars xs own):=by
   simp only[za,zBB ho,zb]
  refine Wa2 (λw=>¬((Zh H.ars xs own).length=xs.length/\Kb A (k:Int) xs=true)/\BkI F σ L (if(Zh H.ars xs own).length=xs.length then H.setA own (Qh A (k:Int) xs)else H) v.size ((List.range H.ars.length).map (Zh H.ars xs)) [.int .i64 (k:Int),.slice sl.a sl.len sl.cap] w) (λw hw=>?_) λJ hJ=>?_
  ·obtain⟨hno,hw⟩:=hw;rw[zA hno]at hbk;generalize hH1:(if(Zh H.ars xs own).length=xs.length then H.setA own (Qh A (k:Int) xs)else H)=H1 at hw hbk
   have hH1l:H1.ars.length=H.ars.length:=by
    rw[←hH1];split
    ·simp[Hw.setA]
    ·rfl
   refine Zw (a:=.i .i64) (λ(z:Int) w=>∃j:Nat,z=(j:Int)/\j<=H.ars.length/\BkI F σ L (Q3 H1 k (Zh H.ars xs) (List.range j)) v.size ((List.range H.ars.length).map (Zh H.ars xs)) [.int .i64 (k:Int),.slice sl.a sl.len sl.cap] w) (λz _=>H.ars.length-z.toNat) ⟨0,rfl,by omega,hw⟩ ?_;rintro z w ⟨j,rfl,hj,Q,P,K,hP,hbw,hQ⟩;refine ifD (λhlt=>?_) λhge=>?_
   ·simp only at hlt;have hj':j<H.ars.length:=by omega
    have hpj:((List.range H.ars.length).map (Zh H.ars xs))[j]?=some (Zh H.ars xs j):=by
     simp only[za,zBB hj',zb]
    refine hP.get (hpl _) hpj λs hrow hsl'=>?_;have hfl:=Wbw (H:=H1) (k:=k) (part:=Zh H.ars xs) j;obtain⟨B,hB⟩:∃B,(Q3 H1 k (Zh H.ars xs) (List.range j)).ars[j]?=some B:=⟨_,gGe (by omega)⟩;have hsn:=Q1 (H:=H1) (k:=k) (part:=Zh H.ars xs) j;rw[hB]at hsn;simp only at hsn;refine ifD (λhpos=>?_) λhz0=>?_
    ·have hne:Zh H.ars xs j≠[]:=λe=>by rw[e]at hsl';simp at hsl';omega
     rw[zA hne]at hsn;obtain⟨Y,hY,_,_⟩:=K.h.ar hB;refine nilP (K.h.hd.rS rfl (K.h.rA hY (hbw.rI rfl ?_)));refine Waj K.h hB hY (k:Int) (RowO.slR hrow) (λb _ hq hp=>(K.p b hp).2.1 (.inr hq)) (λx hx'=>(hx x (zH.1 hx').1).1) ?_ (RowO.cap hrow) λw1 e1 h1=>?_
     ·have:=zEJ (λx=>Yd H.ars x==(j:Int)) xs;simp only[Zh];omega
     ·have hz1:=e1.1;rw[←hsn]at h1;refine arN (m:=j+1) (by omega) (by omega) ⟨⟨j+1,rfl,by omega,Q,_,K.to e1 h1 λb _ hb=>hb,(PtR.loc _ _).keep hP e1 λb _ hq hp=>(K.p b hp).2.1 (.inr hq),K.keepB e1 hbw (.inl rfl),hQ⟩,by omega⟩
    ·have hne:Zh H.ars xs j=[]:=zFZ (by omega);rw[zB hne]at hsn;refine arN (m:=j+1) (by omega) (by omega) ⟨⟨j+1,rfl,by omega,Q,P,by rw[hsn];exact K,hP,hbw,hQ⟩,by omega⟩
   ·have hjj:j=H.ars.length:=by simp only at hge;omega
    subst hjj;rw[hbk]at hR;exact hR w K.e (K.fin h)
  ·refine hP.get (hpl _) hown λs hrow hsl'=>hbw.rS rfl ?_;refine iff_ (λheq=>?_) λhne=>?_
   ·have heq':(Zh H.ars xs own).length=xs.length:=by simp only[zS]at heq;omega
    rw[zB heq']at hbk hJ;have hS:AtH (λu=>(∃P' H',HH u P' L H'/\H'.tb=H.tb)/\Blk u σ.size [.int .i64 (k:Int),.slice sl.a sl.len sl.cap]) L H.tb:=λm hm=>by
     obtain⟨⟨P',H',h1,h2⟩,_⟩:=hm;exact⟨P',L.ts,H',h1,h2⟩
    refine⟨λu=>(∃P' H',HH u P' L H'/\H'.tb=H.tb)/\Blk u σ.size [.int .i64 (k:Int),.slice sl.a sl.len sl.cap],⟨⟨_,_,K.h,rfl⟩,hbw⟩,nilP (hS.arow (hS.rA K.h hY ?_))⟩;refine⟨(k:Int),λm hm=>by rw[add_lit,hm.2.cell];rfl,⟨sl,λm hm=>by rw[add_lit,hm.2.cell];rfl,?_⟩⟩;refine Gr K.h hA hY (k:Int) (hs1 w K.e) (λx hx'=>(hx x hx').1) λw1 e1 h1=>?_;have K1:=K.to e1 h1 λb _ hb=>hb;refine⟨⟨⟨_,_,h1,rfl⟩,K.keepB e1 hbw (.inl rfl)⟩,?_⟩;have fin:∀r,r=Kb A (k:Int) xs->((r=true->R w1)/\(r=false->J w1)):=λr hr=>by
     refine⟨λhr1=>?_,λhr1=>hJ w1 ⟨λhx=>Bool.noConfusion ((hr1.symm.trans hr).trans hx.2),Q,_,K1,(PtR.loc _ _).keep hP e1 λb _ hq hp=>(K.p b hp).2.1 (.inr hq),K.keepB e1 hbw (.inl rfl),hQ⟩⟩;rw[zB ⟨heq',by rw[←hr,hr1]⟩]at hbk;rw[hbk]at hR;exact hR w1 K1.e (K1.fin h)
    refine Kc (λr w=>w=w1/\r=Kb A (k:Int) xs) (λr w' ⟨hw,hr⟩=>?_) λJ3 hJ3=>?_
    ·subst hw;exact iff_ (λh1=>(fin r hr).1 h1) λh1=>(fin r hr).2 h1
    ·refine iff_ (λh1=>hJ3 _ _ ⟨rfl,?_⟩) λh1=>hJ3 _ _ ⟨rfl,h1.symm⟩;have:V5 A (k:Int) xs=0:=by
      unfold Kb at h1;simp only[zF,zN]at h1;exact h1.1
     rw[this,h1];rfl
   ·have hne':¬(Zh H.ars xs own).length=xs.length:=by
     simp only[zAR]at hne;omega
    rw[zA hne']at hJ;exact hJ w ⟨λhx=>hne' hx.1,Q,P,K,hP,hbw,hQ⟩
theorem ret2 {w:Hp}(K:HK F σ B w P L H)(hB:B n){p q:Int}(hb:Blk w n [.int .i64 p,.int .i64 q]){x y:Int}{K':Int->Int->Hp->Prop}(hK:∀w',HK F σ B w' P L H->K' x y w') :
 St1 (Addr.add ⟨n,0,none⟩ 0) (.int .i64 x) w λv3=>St1 (Addr.add ⟨n,0,none⟩ 1) (.int .i64 y) v3 λv4=>LdI .i64 (Addr.add ⟨n,0,none⟩ 0) v4 λres=>LdI .i64 (Addr.add ⟨n,0,none⟩ 1) v4 λres1=>K' res res1 v4:=
 hb.s1 (by simp) λv3 o3 b3=>b3.s1 (by simp) λv4 o4 b4=>b4.rI rfl (b4.rI rfl (hK v4 ((K.own o3 hB).own o4 hB)))
theorem Wh4 (h:HH σ F L H)(ht:t<H.ths.length)(x:Int)(hx:I63 x)(hr:mget H.live x=none->∀A∈H.ars,RunsOk A)(hlen:∀g,H.ths[t]?=some g->g.hands.length<=1000)(h0:∀b,mget H.live x=some b->0<=x){R:Value->Int->Int->Hp->Prop}
 (hR:∀σ' ts',Ext F σ σ'->HH σ' (Grow F σ) {L with ts:=ts'} (VI H t x).1->R (phV (VI H t x).2.1) (VI H t x).2.2.1 (VI H t x).2.2.2 σ'):YZ.c (some ⟨L.p,0,none⟩) (t:Int) x σ R:=by
 refine YZ.o ?_;unfold YZ.v;refine nw (cs:=[.int .i64 0,.int .i64 0]) λv hz e hb=>?_;have K1:=(HK.start h).box e hz;refine nilP (K1.h.hd.rM rfl ⟨_,K1.h.liveM,?_⟩);refine nw (cs:=[.int .i64 0,.int .i64 0,.int .i64 0,.int .i64 0]) λv1 hz1 e1 hb1=>?_;have K2:=K1.box e1 hz1;have hbv:=e1.blk hb id;have hne:σ.size≠v.size:=by omega
 refine hb1.s1 (by simp) λv2 o2 b2=>b2.s1 (by simp) λv3 o3 b3=>b3.s1 (by simp) λv4 o4 b4=>b4.s1 (by simp) λv5 o5 b5=>?_;have K5:=(((K2.own o2 (.inr rfl)).own o3 (.inr rfl)).own o4 (.inr rfl)).own o5 (.inr rfl);have hb5:=Wr o5 (Wr o4 (Wr o3 (Wr o2 hbv hne) hne) hne) hne;have hL:L = {L with ts:=L.ts}:=rfl;cases hm:mget H.live x with
 | none=>
  have hno:VI H t x=(H,none,0,whyH H x):=by unfold VI;rw[hm]
  rw[hno]at hR;simp only at hR;refine ifT rfl ?_;refine Wa2 (λw=>whyH H x=8/\Ext0 v5 w) (λw ⟨h8,ew⟩=>?_) λJ hJ=>?_
  ·rw[h8]at hR;exact ret2 (n:=σ.size) (K5.fr ew) (.inl (.inr rfl)) (ew.blk hb5 id) λw' K'=>hR w' L.ts K'.e (K'.fin h)
  ·refine Gk K5.h x hx λv9 e9=>?_;have K9:=K5.fr e9;have hb9:=e9.blk hb5 id;refine ifD (λhge=>?_) λhlt=>hJ v9 ⟨zA (by omega),e9⟩;have hol:=Ga hge;obtain⟨A,hA⟩:∃A,H.ars[(Yd H.ars x).toNat]?=some A:=⟨_,gGe hol.1⟩;obtain⟨Y,hY,_,hAY⟩:=K9.h.ar hA;have hw0:whyH H x=(match VQ A x with
    | some (k,y)=>if 0<=k/\(y:Int)=x then(9:Int)else 8
    | none=>8):=by unfold whyH;rw[zB hge,hA];rfl
   rw[hol.2];refine nilP (K9.h.hd.rS rfl (K9.h.rA hY ?_));refine WjY hAY (hr hm A (zE hA)) x hx (λv10 k y e10 hf=>?_) λv10 e10 hf=>?_
   ·rw[hf]at hw0;simp only at hw0;rw[hw0]at hR hJ;have K10:=K9.fr e10;have hb10:=e10.blk hb9 id;refine Kc (λr w=>w=v10/\r=decide (0<=k)) (λr w ⟨hw,hrk⟩=>?_) λJ1 hJ1=>?_
    ·subst hw;subst hrk;refine Kc (λr w2=>w2=w/\r=decide (0<=k/\(y:Int)=x)) (λr w2 ⟨hw,hrk⟩=>?_) λJ2 hJ2=>?_
     ·subst hrk;rw[hw];refine ifD (λhc=>?_) λhc=>?_
      ·rw[zB hc]at hR;exact ret2 (n:=σ.size) K10 (.inl (.inr rfl)) hb10 λw' K'=>hR w' L.ts K'.e (K'.fin h)
      ·exact hJ w ⟨zA hc,e9.trans e10⟩
     ·refine ifD (λhc=>hJ2 _ _ ⟨rfl,?_⟩) λhc=>hJ2 _ _ ⟨rfl,?_⟩
      ·by_cases hyx:(y:Int)=x
       ·rw[zQ (⟨hc,hyx⟩:0<=k/\(y:Int)=x),zS.2 hyx]
       ·rw[zT (λhx=>hyx hx.2),zAR.2 hyx]
      ·rw[zT (λhx=>hc hx.1)]
    ·exact ifT rfl (hJ1 _ _ ⟨rfl,rfl⟩)
   ·rw[hf]at hw0;simp only at hw0;rw[hw0]at hJ;refine Kc (λr w=>w=v10/\r=false) (λr w ⟨hw,hrk⟩=>?_) λJ1 hJ1=>ifF rfl (hJ1 _ _ ⟨rfl,rfl⟩);subst hw;subst hrk;exact JnB.intro (ifF rfl (ifF rfl (hJ w ⟨rfl,e9.trans e10⟩)))
 | some b=>
  have hb0:=h0 b hm;have hfd:VI H t x=(if b.2.2.1<0 then({H with live:=mdel H.live x},some (.give (x/256) b.2.2.2),0,0)
   else(Z1 {H with live:=mdel H.live x} t b.2.2.1.toNat [x],some (.put b.2.2.1.toNat x),0,0)):=by unfold VI;rw[hm]
  rw[hfd]at hR;have hgb:(mget H.live x).getD ((0,0,0,0):Bk)=b:=by rw[hm];rfl
  rw[hgb]at b5;refine ifF rfl ?_;refine nilP (K5.h.hd.rM rfl ?_);obtain⟨hF,hput⟩:=K5.h.stepL;refine⟨_,K5.h.liveM,λv6 o6 _ hm6=>?_⟩;obtain⟨e6,h6⟩:=hput v6 _ (o6 _ rfl) hm6;have K6:=K5.to e6 h6 λb _ hb=>.inl hb;have hb6:=K5.keepB e6 hb5 (.inl (.inr rfl));have hc6:=K5.keepB e6 b5 (.inr rfl);refine hc6.rI rfl (ifD (λhneg=>?_) λhnn=>?_)
  ·have hneg':b.2.2.1<0:=hneg;rw[zB hneg']at hR;refine nz (by decide) (ar (by rw[YQ (by omega)];omega) (by rw[YQ (by omega)];unfold I63 at hx;omega) (hc6.rI rfl ?_));rw[YQ (by omega)];exact ret2 (n:=σ.size) K6 (.inl (.inr rfl)) hb6 λw' K'=>hR w' L.ts K'.e (K'.fin h)
  ·have hnn':¬b.2.2.1<0:=hnn;rw[zA hnn']at hR;refine hc6.rI rfl (nw (cs:=[.int .i64 x]) λv7 hz7 e7 hb7=>?_);have K7:=K6.box e7 hz7;have hb7':=e7.blk hb6 id;have hc7:=e7.blk hc6 id;have hkk:b.2.2.1=((b.2.2.1.toNat:Nat):Int):=by omega
   have hs7:SlR ⟨some ⟨v6.size,0,none⟩,1,1⟩ 1 (Wt [x]) v7 (· = v6.size):=hb7.slR (o:=0) rfl rfl λj hj=>by rw[zG];rfl
   have hz6:=K6.e.1;rw[hkk];refine U4 K7.h (t:=t) ht b.2.2.1.toNat hs7 (zD _) (by simp) (λq _ hq hp=>(K7.p q hp).2.1 (.inr hq)) (K7.o.1.sub λq hq=>by omega) (λhq=>K7.o.2 (by omega)) hlen λv8 ts8 e8 h8=>?_;have K8:=(K6.fr e7).toX e8 h8 λq hql hq=>by
    rcases hq with hq|hq
    ·exact hq.imp id .inl
    ·refine .inr (.inr ⟨.inr (by omega),λhB=>?_⟩);have:=(K6.b q hB).2;omega
   have hb8:=K7.keepB e8 hb7' (.inl (.inl (.inr rfl)));have hc8:=K7.keepB e8 hc7 (.inl (.inr rfl));refine hc8.rI (x:=((b.2.2.1.toNat:Nat):Int)) (by rw[←hkk];rfl) ?_;exact ret2 (n:=σ.size) K8 (.inl (.inr rfl)) hb8 λw' K'=>hR w' ts8 K'.e (K'.fin h)
end Go.Ar
namespace Go.Ar
open Go Go.Vc Go.Proofs
variable {σ u u':Hp}{F B P Q:Rg}{L:LayH}{H H':Hw}{t k n pb:Nat}{A:AR}{Y:Lay}{x:LayT}{g:Th}{c:Cls}{l:Li}{cs:List Value}
theorem nx0 {t' t:TypeId}{w:Value}{A B:Prop}(hne:t'≠t)(h:B):∃is:Bool,AsB (.iface t' w) t [] [] is/\If is A B:=⟨false,⟨rfl,.inr ⟨_,_,rfl,hne⟩⟩,ifF rfl h⟩
theorem nx1 {t' t:TypeId}{w:Value}{A B:Int->Prop}(hne:t'≠t)(h:B 0):∃x:Int,∃is:Bool,AsB (.iface t' w) t [.int .i64 x] [.int .i64 0] is/\If is (A x) (B x):=⟨0,false,⟨rfl,.inr ⟨_,_,rfl,hne⟩⟩,ifF rfl h⟩
theorem nx2 {t' t:TypeId}{w:Value}{A B:Int->Int->Prop}(hne:t'≠t)(h:B 0 0):∃x:Int,∃y:Int,∃is:Bool,AsB (.iface t' w) t [.int .i64 x,.int .i64 y] [.int .i64 0,.int .i64 0] is/\If is (A x y) (B x y):=⟨0,0,false,⟨rfl,.inr ⟨_,_,rfl,hne⟩⟩,ifF rfl h⟩
theorem ye0 {t:TypeId}{A B:Prop}(h:A):∃is:Bool,AsB (.iface t (.agg #[])) t [] [] is/\If is A B:=⟨true,rfl,ifT rfl h⟩
theorem ye1 {t:TypeId}{a:Int}{A B:Int->Prop}(h:A a):∃x:Int,∃is:Bool,AsB (.iface t (.agg #[.int .i64 a])) t [.int .i64 x] [.int .i64 0] is/\If is (A x) (B x):=⟨a,true,rfl,ifT rfl h⟩
theorem ye2 {t:TypeId}{a b:Int}{A B:Int->Int->Prop}(h:A a b):∃x:Int,∃y:Int,∃is:Bool,AsB (.iface t (.agg #[.int .i64 a,.int .i64 b])) t [.int .i64 x,.int .i64 y] [.int .i64 0,.int .i64 0] is/\If is (A x y) (B x y):=⟨a,b,true,rfl,ifT rfl h⟩
theorem HH.tc (h:HH u P L H)(hx:L.ts[t]?=some x)(hg:H.ths[t]?=some g){b o:Nat}(ha:L.trow.a=some ⟨b,o,none⟩){d:Nat}(hd:d<3){v:Value}(hv:(thV (x,g))[d]?=some v):cell u (Addr.add ⟨b,o+3*t,none⟩ d)=some v:=by
 obtain⟨b',o',ha',hc⟩:=Vb h.trowS hx hg hd hv;rw[ha]at ha';cases ha';rw[add_lit,show o+3*t+d=o+(3*t+d) by omega];exact hc
theorem HH.stN (h:HH u P L H)(hP:∀b,P b->b<u.size)(hx:L.ts[t]?=some x)(hg:H.ths[t]?=some g)(N:Rg)(hN:∀b,b<u.size->P b->¬N b)(oN:Off N)(oN2:¬N 1) :
 ∃G D:Rg,(∀b,G b->P b)/\(∀b,D b->P b)/\(∀b,G b->¬D b)/\BtR x.h g.hands u G/\(∀u1,Ext G u u1->SlR L.trow 3 (trV L.ts H.ths) u1 D) ∧
 ∀(u1:Hp) (s:Sl) (bs:List Bt) (G':Rg),Ext G u u1->(∀b,G' b->G b\/N b)->BtR s bs u1 G'->∀{b o:Nat} (ha:L.trow.a=some ⟨b,o,none⟩) {K:Hp->Prop},
  (∀u2,Ext D u1 u2->HH u2 (λb=>P b/\¬G b\/G' b/\b<u1.size) {L with ts:=L.ts.set t {x with h:=s}} {H with ths:=H.ths.set t {g with hands:=bs}}->K u2) →
  St1 (Addr.add ⟨b,o+3*t,none⟩ 1) (.slice s.a s.len s.cap) u1 K:=by
 have hl:=h.trowL;have htl:=Uw h.s.ts;have hlt:=(gSi.1 hg).1;obtain⟨G,D,hG,hD,hd,hB,hr,_,hput⟩:=h.stepN hx hg N hN oN oN2;have hr':∀u1,Ext G u u1->RowR L.trow 3 (trV L.ts H.ths) u1 D:=λu1 e=>(RowR.loc _ _ _).keep hr e λb _ hb hx=>hd b hx hb;refine⟨G,D,hG,hD,hd,hB,λu1 e=>RowR.slR (hr' u1 e),λu1 s bs G' e hG' hBs b o ha K hK=>?_⟩;have ho:o=0:=by
  rcases hr.2 with⟨h0,_⟩|⟨b',_,_,ha',_⟩
  ·omega
  ·rw[ha]at ha';cases ha';rfl
 subst ho;have hdis:∀b,G' b->¬D b:=λb hb hx=>by
  rcases hG' b hb with h1|h1
  ·exact hd b h1 hx
  ·exact hN b (hP b (hD b hx)) (hD b hx) h1
 refine(hr' u1 e).st (j:=3*t+1) (by omega) (λb' hb'=>by rw[ha]at hb';cases hb';rw[add_lit];congr 1;omega) λu2 e2 hr2=>?_;have hB2:=(BtR.loc _ _).keep ((BtR.loc _ _).cut hBs) e2 λb _ hb hx=>hdis b hb.1 hx;obtain⟨eF,h4⟩:=hput u2 s bs (Cut G' u1) D ((e.sub λb hb=>.inl hb).trans (e2.sub λb hb=>.inr hb)) (λb hb=>(hG' b hb.1).imp .inl id) (λb hb=>.inl (.inr hb)) (λb hb=>hdis b hb.1) hB2 hr2;refine hK u2 e2 (h4.mono (λb _ hb=>?_) (λb (hb:P b/\¬G b\/G' b/\b<u1.size)=>?_) λ(hb:P _/\¬G _\/G' _/\_<u1.size)=>?_)
 ·rcases hb with hb|hb|hb
  ·exact .inl ⟨hb.1,λhx=>hb.2.2 (.inl hx)⟩
  ·exact .inr hb
  ·exact .inl ⟨hD b hb,λhx=>hd b hx hb⟩
 ·rcases hb with hb|hb
  ·exact h.o b hb.1
  ·exact(hG' b hb.1).elim (λhx=>h.o b (hG b hx)) (oN b)
 ·rcases hb with hb|hb
  ·exact h.o2 hb.1
  ·exact(hG' _ hb.1).elim (λhx=>h.o2 (hG _ hx)) oN2
theorem BtR.uncons {s:Sl}{G:Rg}{xs:List Int}{r:List Bt}(h:BtR s ((k,xs)::r) u G):∃(so:Sl) (ps:List (Nat×Sl)) (D:Rg),RowO s 2 (btsV ((k,so)::ps)) u (λb=>G b/\¬D b)/\SlR so 1 (Wt xs) u (λb=>D b/\InB so b)/\so.len<=so.cap/\BtO ps r u (λb=>D b/\¬InB so b)/\(∀b,D b->G b)/\Djp ps/\(∀x∈r,x.2≠[])/\xs≠[]:=by
 obtain⟨ps,D,hrow,hB,hD,hj,hne⟩:=h;cases ps with
 | nil=>have:=hB.1;simp at this
 | cons p ps=>
  obtain⟨k',so⟩:=p;obtain⟨e1,hs,hc⟩:=hB.2 0 (k',so) (k,xs) rfl rfl;simp only at e1 hs hc;subst e1;have hj':=zBT.1 hj;refine⟨so,ps,D,hrow,hs.inB,hc,⟨by have:=hB.1;simpa using this,λi p x hp hx=>?_⟩,hD,hj'.2,λx hx=>hne x (zBK _ hx),hne _ zCC⟩;obtain⟨a1,a2,a3⟩:=hB.2 (i+1) p x (by simpa using hp) (by simpa using hx);refine⟨a1,(SlR.loc _ _ _).mono a2.inB λb _ hb=>⟨hb.1,?_⟩,a3⟩;rintro⟨a,h1,h2⟩;obtain⟨a',h3,h4⟩:=hb.2;exact hj'.1 p (zE hp) a a' h1 h3 (h2.trans h4.symm)
theorem BtR.drop1 {s:Sl}{G:Rg}{b:Bt}{r:List Bt}(h:BtR s (b::r) u G):BtR ⟨if s.cap=1 then s.a else s.a.map (·.add (1*2)),s.len-1,s.cap-1⟩ r u G:=by
 have hl:=h.len;obtain⟨k,xs⟩:=b;obtain⟨so,ps,D,hrow,hs,hc,hB,hD,hj,hne,hx⟩:=h.uncons;exact⟨ps,D,hrow.from (lo:=1) (by simp at hl;omega),(BtO.loc _ _).mono hB λb _ hb=>hb.1,hD,hj,hne⟩
theorem WkO {s so:Sl}{ps:List (Nat×Sl)}{G:Rg}(h:SlR s 2 (btsV ((k,so)::ps)) u G){K:Addr->Prop}(hK:∀a,cell u (Addr.add a 0)=some (.int .i64 (k:Int))->cell u (Addr.add a 1)=some (.slice so.a so.len so.cap)->K a):Ix s.a s.len 0 2 K:=by
 obtain⟨b,o,ha,hc⟩:=h.cell (j:=0) (v:=.int .i64 (k:Int)) rfl;obtain⟨b',o',ha',hc'⟩:=h.cell (j:=1) (v:=.slice so.a so.len so.cap) rfl;have hl:=h.1;rw[QF]at hl;simp only[zU]at hl;rw[ha]at ha';cases ha';rw[ha];refine ix (by omega) (by omega) ?_;rw[add_lit];exact hK _ (by rw[add_lit];exact hc) (by rw[add_lit];exact hc')
theorem BtR.app {s s2:Sl}{G Q:Rg}{bs bs2:List Bt}{e:Nat}(h:BtR s bs u G)(h2:BtR s2 bs2 u Q)(hd:∀b,G b->¬Q b)(hl:bs.length+bs2.length<=1000){K:Sl->Hp->Prop}
 (hK:∀s' u',Ext G u u'->BtR s' (bs++bs2) u' (λb=>G b\/Q b\/u.size<=b)->K s' u'):App s 2 32 e [.int .i64 0,.slice none 0 0] s2 u K:=by
 have l1:=h.len;have l2:=h2.len;obtain⟨ps,D,hrow,hB,hD,hj,hne⟩:=h;obtain⟨ps2,D2,hrow2,hB2,hD2,hj2,hne2⟩:=h2;by_cases h0:s2.len=0
 ·have hb0:bs2=[]:=zFZ (by omega);subst hb0;refine hrow.app0 h0 (by
   have:s.len*32<=1000*32:=zo (by simp at hl;omega) (by omega);omega) (by simp at hl;omega) λhr=>hK _ u (Ext.refl _ _) ?_
  rw[zAL];exact⟨ps,D,(RowO.loc _ _ _).mono hr λb _ hb=>⟨.inl hb.1,hb.2⟩,hB,λb hb=>.inl (hD b hb),hj,hne⟩
 ·have e1:(s.len+s2.len)*32<=1000*32:=zo (by omega) (by omega);refine((RowO.loc _ _ _).cut hrow).app (ys:=btsV ps2) rfl (by rw[QF];have:=hB2.1;omega) hrow2.slR.rd V3 (by omega) (by omega) (by omega) λs' u' _ e' hr=>hK s' u' (e'.sub λb hb=>hb.1.1) ?_;have hz:=e'.1;have hp1:=hB.1;refine⟨ps++ps2,λb=>D b/\b<u.size\/D2 b/\b<u.size,?_,⟨by simp[hB.1,hB2.1],λi p x hp hx=>?_⟩,λb hb=>?_,zBR.2 ⟨hj,hj2,λp hp q hq a a' ha1 ha2 e3=>?_⟩,λx hx=>(zM.1 hx).elim (hne x) (hne2 x)⟩
  ·rw[VJ];refine(RowO.loc _ _ _).mono hr λb _ hb=>?_;rcases hb with hb|hb
   ·exact⟨.inl hb.1.1,λhx=>hx.elim (λhx=>hb.1.2 hx.1) λhx=>hd b hb.1.1 (hD2 b hx.1)⟩
   ·exact⟨.inr (.inr hb),λhx=>by rcases hx with hx|hx<;>omega⟩
  ·rcases zAB i ps.length with hi|hi
   ·rw[zd hi]at hp;rw[zd (by omega)]at hx;obtain⟨a1,a2,a3⟩:=hB.2 i p x hp hx;exact⟨a1,(SlR.loc _ _ _).mono ((SlR.loc _ _ _).keep ((SlR.loc _ _ _).cut a2) e' λb _ hb hx=>hx.1.2 hb.1) λb _ hb=>.inl hb,a3⟩
   ·rw[zk hi]at hp;rw[zk (by omega),←hp1]at hx;obtain⟨a1,a2,a3⟩:=hB2.2 _ p x hp hx;exact⟨a1,(SlR.loc _ _ _).mono ((SlR.loc _ _ _).keep ((SlR.loc _ _ _).cut a2) e' λb _ hb hx=>hd b hx.1.1 (hD2 b hb.1)) λb _ hb=>.inr hb,a3⟩
  ·rcases hb with hb|hb
   ·exact .inl (hD b hb.1)
   ·exact .inr (.inl (hD2 b hb.1))
  ·obtain⟨i,hi⟩:=zL hp;obtain⟨j,hj⟩:=zL hq;have hil:=(gSi.1 hi).1;have hjl:=(gSi.1 hj).1;have hy:bs[i]?=some (bs[i]'(by omega)):=gGe _;have hy2:bs2[j]?=some (bs2[j]'(by have:=hB2.1;omega)):=gGe _;have b1:=(hB.2 i p _ hi hy).2.1.blk (by simpa[Wt]using hne _ (zE hy)) ⟨a,ha1,rfl⟩;have b2:=(hB2.2 j q _ hj hy2).2.1.blk (by simpa[Wt]using hne2 _ (zE hy2)) ⟨a',ha2,rfl⟩;rw[e3]at b1;exact hd _ (hD _ b1.1) (hD2 _ b2.1)
theorem HK.addB (K:HK F σ B u P L H){B':Rg}(h1:∀b,B' b->σ.size<=b/\b<u.size/\¬P b):HK F σ (λb=>B b\/B' b) u P L H:=
 ⟨K.h,K.e,λb hb=>⟨(K.p b hb).1,λhx=>hx.elim (K.p b hb).2.1 λhy=>(h1 b hy).2.2 hb,(K.p b hb).2.2⟩,λb hb=>hb.elim (K.b b) λhy=>⟨(h1 b hy).1,(h1 b hy).2.1⟩,K.o⟩
theorem Ze (hg:H.ths[t]?=some g)(f:Th->Th):H.setT t f = {H with ths:=H.ths.set t (f g)}:=by
 unfold Hw.setT;rw[QX hg]
theorem UK (hg:H.ths[t]?=some g):H.thr t=g:=by unfold Hw.thr;rw[zO,hg];rfl
theorem KT (hc:H.tb[k]?=some c):H.cls k=c:=by unfold Hw.cls;rw[zO,hc];rfl
theorem Wie (hl:g.ls[k]?=some l):g.li k=l:=by unfold Th.li;rw[zO,hl];rfl
theorem Wfr (ha:H.ars[H.own t]?=some A):H.arn t=A:=by unfold Hw.arn;rw[zO,ha];rfl
theorem own_lt (h:HS L H)(t:Nat):H.own t<H.ars.length:=zDU _ (by have:=h.a1;omega)
theorem HH.lsL (h:HH u P L H)(hx:L.ts[t]?=some x)(hg:H.ths[t]?=some g):g.ls.length=H.tb.length:=by
 obtain⟨G,_,hC,_⟩:=h.stepC hx hg;exact hC.len
theorem Wbn (ha:H.ars[k]?=some A):H.setA k A=H:=by unfold Hw.setA;rw[ZC ha]
theorem WkW (l:List Nat):ints l=Wt (l.map λ(x:Nat)=>(x:Int)):=by simp[ints,Wt]
theorem Hm (f:Cls->Li->List Int×Li)(tb:List Cls)(ls:List Li):(Qj f tb ls).length<=tb.length:=by
 unfold Qj;exact ze (List.length_filterMap_le _ _) (by simp)
theorem HH.tb40 (h:HH u P L H):H.tb.length<=40:=by
 obtain⟨x,g,hx,hg⟩:=h.th (t:=0) h.s.t1;obtain⟨G,_,hC,_⟩:=h.stepC hx hg;exact hC.tb1
theorem ix0 {s:Sl}{b o:Nat}(ha:s.a=some ⟨b,o,none⟩)(hl:0<s.len){K:Addr->Prop}(hK:K ⟨b,o+0,none⟩):Ix s.a s.len 0 1 K:=by
 rw[ha];exact ix (zCN _) (by omega) (by rw[add_lit];exact hK)
theorem Wlk {s:Sl}{ps:List (Nat×Sl)}{G:Rg}(h:SlR s 2 (btsV ps) σ G)(hl:s.len<=1000000){R:Sl->Hp->Prop}(hR:∀s' σ',s'.len=s.len->Ext0 σ σ'->RowR s' 2 (btsV ps) σ' (λb=>σ.size<=b)->R s' σ'):Wn.c s σ R:=by
 refine Wn.o ?_;unfold Wn.v;exact Wan h (by omega) rfl V3 (by omega) hl hR
def Wd8 (H:Hw)(t:Nat):Ph->Prop
 | .take k=>k<H.tb.length/\∀y l,Qk (H.cls k) ((H.thr t).li k)=(some y,l)->I63 y
 | .transfer k _=>k<H.tb.length/\(Zu (H.arn t) (k:Int)=0->Ye (H.arn t) (k:Int)≠[])
 | .central _ _=>True
 | .grow _ _=>True
 | .fill=>∃k x xs r,(H.thr t).hands=(k,x::xs)::r/\k<H.tb.length/\I63 x/\((H.thr t).li k).os.length+xs.length<=256
 | .large m=>Zt (H.arn t) H.sp (m:Int) 1<=1000000
 | .find x=>I63 x/\(mget H.live x=none->∀A∈H.ars,RunsOk A)/\∀b,mget H.live x=some b->0<=x
 | .put k _=>k<H.tb.length/\(H.thr t).hands≠[]
 | .back=>∃k xs r,(H.thr t).hands=(k,xs)::r/\(∀x∈xs,I63 x/\0<=Yd H.ars x)/\xs.length<=1000000
 | .give _ a=>0<=a/\a.toNat<H.ars.length/\∀A∈H.ars,∀r∈A.runs,r.1<=1000000
 | .drain=>True
def WlI (σ:Hp)(F:Rg)(L:LayH)(o:OutH)(R:Value->Int->Int->Hp->Prop):Prop:=∀σ' ts',Ext F σ σ'->HH σ' (Grow F σ) {L with ts:=ts'} o.1->R (phV o.2.1) o.2.2.1 o.2.2.2 σ'
set_option maxRecDepth 8000 in
theorem Win (hso:Gi)(h:HH σ F L H)(ht:t<H.ths.length)(p:Ph)(hp:Wd8 H t p)(hlen:∀g,H.ths[t]?=some g->g.hands.length<=900){R:Value->Int->Int->Hp->Prop}(hR:WlI σ F L (Wp H t p) R) :
 YW.c (some ⟨L.p,0,none⟩) (t:Int) (phV (some p)) σ R:=by
 refine YW.o ?_;unfold YW.v;have hlen':∀g,H.ths[t]?=some g->g.hands.length<=1000:=λg hg=>by have:=hlen g hg;omega
 refine nw (cs:=[.int .i64 0,.int .i64 0]) λv hz e hb=>?_;have K1:=(HK.start h).box e hz;obtain⟨x,g,hx,hg⟩:=h.th ht;have hlen:=hlen g hg;have htg:=UK hg;have hol:=own_lt h.s t;obtain⟨A,hA⟩:∃A,H.ars[H.own t]?=some A:=⟨_,gGe hol⟩;have hAe:=Wfr hA;obtain⟨Y,hY,_,_⟩:=h.ar hA;refine nilP (K1.h.hd.rS rfl ?_);refine Wkk K1.h.trowS K1.h.s.ts hx hg (d:=0) (by omega) rfl λtb0 to0 ha _=>?_;have hS1:AtH (λu=>u=v) L H.tb:=λm hm=>by cases hm;exact⟨_,L.ts,H,K1.h,rfl⟩
 refine⟨λu=>u=v,rfl,nilP (hS1.arow (Wgh K1.h t ⟨rfl,K1.h.rA hY ⟨rfl,?_⟩⟩))⟩;refine Wa2 (λw=>∃P ts',HK F σ (λb=>False\/b=σ.size) w P {L with ts:=ts'} (Wp H t p).1/\Blk w σ.size [.int .i64 0,.int .i64 0]/\(Wp H t p).2=(none,0,0)) (λw ⟨P,ts',K,hbw,hs⟩=>?_) λJ hJ=>?_
 ·refine ret2 (n:=σ.size) K (.inr rfl) hbw λw' K'=>?_;have:=hR w' ts' K'.e (K'.fin h);rw[hs]at this;exact this
 cases p with
 | take k=>
  obtain⟨hk,hy9⟩:k<H.tb.length/\∀y l,Qk (H.cls k) ((H.thr t).li k)=(some y,l)->I63 y:=hp;obtain⟨c,hc⟩:∃c,H.tb[k]?=some c:=⟨_,gGe hk⟩;have hll:=h.lsL hx hg;obtain⟨l,hl⟩:∃l,g.ls[k]?=some l:=⟨_,gGe (by rw[hll];exact hk)⟩;have hce:=KT hc;have hle:=Wie hl;rw[hce,htg,hle]at hy9;refine ye1 (nw (cs:=[.int .i64 0]) λv5 hz5 e5 hb5=>?_);have K5:=K1.box e5 hz5;refine hb5.s0 (by simp) λv6 o6 hb6=>?_;have K6:=K5.own o6 (.inr rfl);have hbv6:=Wr o6 (e5.blk hb id) (by omega);refine⟨λu=>u=v6,rfl,nilP ⟨some ⟨x.c.p,0,none⟩,λu hu=>by cases hu;exact K6.h.tc hx hg ha (by omega) rfl,⟨(k:Int),λu hu=>by cases hu;rw[add_lit,hb6.cell];rfl,?_⟩⟩⟩;refine Wig K6.h hx hg hc hl λv7 ts7 e7 h7=>?_;have K7:=K6.to e7 h7 λb _ hb=>hb;have hb7:=K6.keepB e7 hb6 (.inr rfl);have hbv7:=K6.keepB e7 hbv6 (.inl (.inr rfl));cases htk:Qk c l with
  | mk o l'=>
  rw[htk]at h7 K7;cases o with
  | some y=>
   have hs:Wp H t (.take k)=(Kq (H.setLs t g (g.ls.set k l')) y (c.size:Int) (k:Int),none,y,0):=by
    simp only[Wp,hce,htg,hle,htk,Ze hg];rfl
   rw[hs]at hR;have hS2:AtH (λu=>(∃P ts H',HH u P {L with ts:=ts} H'/\H'.tb=H.tb)/\Blk u v.size [.int .i64 (k:Int)]) L H.tb:=λm hm=>hm.1;refine ifT rfl ⟨λu=>(∃P ts H',HH u P {L with ts:=ts} H'/\H'.tb=H.tb)/\Blk u v.size [.int .i64 (k:Int)],⟨⟨_,_,_,K7.h,rfl⟩,hb7⟩,nilP (hS2.tab ⟨(k:Int),λu hu=>by rw[add_lit,hu.2.cell];rfl,?_⟩)⟩;refine AtH.rC (L:={L with ts:=ts7}) (H:=H.setLs t g (g.ls.set k l')) hS2 K7.h hc ⟨(k:Int),λu hu=>by rw[add_lit,hu.2.cell];rfl,?_⟩;refine Wak K7.h y (c.size:Int) (k:Int) (hy9 y l' htk) λv8 e8 h8=>?_;have K8:=K7.to e8 h8 λb _ hb=>.inl hb;refine⟨⟨⟨_,_,_,h8,rfl⟩,K7.keepB e8 hb7 (.inr rfl)⟩,?_⟩;exact ret2 (n:=σ.size) K8 (.inl (.inr rfl)) (K7.keepB e8 hbv7 (.inl (.inr rfl))) λw' K'=>hR w' ts7 K'.e (K'.fin h)
  | none=>
   have hs:Wp H t (.take k)=(H.setLs t g (g.ls.set k l'),some (.transfer k (Hy c l')),0,0):=by
    simp only[Wp,hce,htg,hle,htk,Ze hg];rfl
   rw[hs]at hR;have htlt:=(gSi.1 hg).1;have hklt:=(gSi.1 hl).1;have hg7:(H.setLs t g (g.ls.set k l')).ths[t]?=some {g with ls:=g.ls.set k l'}:=by simp[Hw.setLs,htlt]
   obtain⟨x7,g7,hx7,_⟩:=K7.h.th (t:=t) (by simp[Hw.setLs,htlt]);have hl7:({g with ls:=g.ls.set k l'}:Th).ls[k]?=some l':=by simp[hklt]
   refine ifF rfl ⟨λu=>u=v7,rfl,nilP ⟨some ⟨x7.c.p,0,none⟩,λu hu=>by cases hu;exact K7.h.tc hx7 hg7 ha (by omega) rfl,⟨(k:Int),λu hu=>by cases hu;rw[add_lit,hb7.cell];rfl,?_⟩⟩⟩;refine WhD K7.h hx7 hg7 hc hl7 λv8 ts8 e8 h8=>?_;have K8:=K7.to e8 h8 λb _ hb=>hb;refine(K7.keepB e8 hb7 (.inr rfl)).rI rfl ?_;exact ret2 (n:=σ.size) K8 (.inl (.inr rfl)) (K7.keepB e8 hbv7 (.inl (.inr rfl))) λw' K'=>hR w' ts8 K'.e (K'.fin h)
 | transfer k w=>
  obtain⟨hk,hne0⟩:k<H.tb.length/\(Zu (H.arn t) (k:Int)=0->Ye (H.arn t) (k:Int)≠[]):=hp;rw[hAe]at hne0;obtain⟨c,hc⟩:∃c,H.tb[k]?=some c:=⟨_,gGe hk⟩;have hce:=KT hc;refine nx1 (by decide) (ye2 (nw (cs:=[.int .i64 0,.int .i64 0]) λv5 hz5 e5 hb5=>?_));have K5:=K1.box e5 hz5;refine hb5.s1 (by simp) λv5b o5 b5=>b5.s1 (by simp) λv6 o6 b6=>?_;have K6:=(K5.own o5 (.inr rfl)).own o6 (.inr rfl);have hne:σ.size≠v.size:=by omega
  have hbv6:=Wr o6 (Wr o5 (e5.blk hb id) hne) hne;refine Wa2 (λu=>(∃P',HK F σ (λb=>(False\/b=σ.size)\/b=v.size) u P' L H)/\Blk u σ.size [.int .i64 0,.int .i64 0]/\Blk u v.size [.int .i64 (k:Int),.int .i64 (w:Int)]/\Wp H t (.transfer k w)=(H,some (.central k w),0,0)) (λu ⟨⟨P',K⟩,hbw,hbx,hs⟩=>?_) λJ1 hJ1=>?_
  ·rw[hs]at hR;exact hbx.rI rfl (hbx.rI rfl (ret2 (n:=σ.size) K (.inl (.inr rfl)) hbw λw' K'=>hR w' L.ts K'.e (K'.fin h)))
  ·refine b6.rI rfl (nilP (K6.h.hd.rS rfl (b6.rI rfl (HC K6.h.tabS hc (d:=2) (by omega) ?_))));simp only[zA (show ¬(2=0) by omega),zA (show ¬(2=1) by omega)];refine iff_ (λheq=>b6.rI rfl ?_) λhne'=>hJ1 v6 ⟨⟨_,K6⟩,hbv6,b6,?_⟩
   ·have heq':w=c.batch:=by simp only[zS]at heq;omega
    refine UV K6.h hA hY (k:Int) λs v7 Q e7 hQ hs7 hcap h7=>?_;have K7:=K6.to e7 h7 λb _ hb=>hb.1;have b7:=K6.keepB e7 b6 (.inr rfl);have hbv7:=K6.keepB e7 hbv6 (.inl (.inr rfl));refine iff_ (λh0=>b7.rI rfl ?_) λhn0=>?_
    ·have h0':Zu A (k:Int)=0:=by simpa using h0
     have hs:Wp H t (.transfer k w)=(Z1 (H.setA (H.own t) (Zf A (k:Int))) t k (Ye A (k:Int)),some .fill,0,0):=by
      simp only[Wp,hce,hAe,heq',h0',zP]
     rw[hs]at hR;refine U4 K7.h (t:=t) ht k hs7 hcap (hne0 h0') (λb _ hq hx=>hx.1.2 hq) (K6.h.o.sub hQ) (λhq=>K6.h.o2 (hQ _ hq)) hlen' λv8 ts8 e8 h8=>?_;have K8:=K7.toX e8 h8 λb hb hq=>by
      rcases hq with hq|hq
      ·exact hq.imp id .inl
      ·exact .inr (.inr ⟨(K6.p b (hQ b hq)).1,(K6.p b (hQ b hq)).2.1⟩)
     exact ret2 (n:=σ.size) K8 (.inl (.inr rfl)) (K7.keepB e8 hbv7 (.inl (.inr rfl))) λw' K'=>hR w' ts8 K'.e (K'.fin h)
    ·have hn0':Zu A (k:Int)≠0:=by simpa using hn0
     have hsame:Zf A (k:Int)=A:=by unfold Zf;rw[zA hn0']
     rw[hsame,Wbn hA]at K7;refine hJ1 v7 ⟨⟨_,K7⟩,hbv7,b7,?_⟩;simp only[Wp,hce,hAe,heq',zA hn0',zP]
   ·have hne2:w≠c.batch:=λe=>by rw[e]at hne';simp at hne'
    simp only[Wp,hce,zA hne2]
 | central k w=>
  refine nx1 (by decide) (nx2 (by decide) (ye2 (nw (cs:=[.int .i64 0,.int .i64 0]) λv5 hz5 e5 hb5=>?_)));have K5:=K1.box e5 hz5;refine hb5.s1 (by simp) λv5b o5 b5=>b5.s1 (by simp) λv6 o6 b6=>?_;have K6:=(K5.own o5 (.inr rfl)).own o6 (.inr rfl);have hne:σ.size≠v.size:=by omega
  have hbv6:=Wr o6 (Wr o5 (e5.blk hb id) hne) hne;refine b6.rI rfl (b6.rI rfl (H9 K6.h hA hY (k:Int) (w:Int) λs v7 Q e7 hQ hs7 h7=>?_));have K7:=K6.to e7 h7 λb _ hb=>hb.1;have b7:=K6.keepB e7 b6 (.inr rfl);have hbv7:=K6.keepB e7 hbv6 (.inl (.inr rfl));have hsl:s.len=(XZ A (k:Int) (w:Int)).length:=by have:=hs7.1;simp[ints]at this;omega
  by_cases hemp:XZ A (k:Int) (w:Int)=[]
  ·have hs:Wp H t (.central k w)=(H.setA (H.own t) (Yg A (k:Int) (w:Int)),some (.grow k w),0,0):=by
    simp only[Wp,hAe,zB hemp]
   rw[hs]at hR;refine ifDF (by rw[hsl,hemp];simp) (b7.rI rfl (b7.rI rfl ?_));exact ret2 (n:=σ.size) K7 (.inl (.inr rfl)) hbv7 λw' K'=>hR w' L.ts K'.e (K'.fin h)
  ·have hs:Wp H t (.central k w)=(Z1 (H.setA (H.own t) (Yg A (k:Int) (w:Int))) t k ((XZ A (k:Int) (w:Int)).map λ(x:Nat)=>(x:Int)),some .fill,0,0):=by
    simp only[Wp,hAe,zA hemp]
   rw[hs]at hR;have hpos:=zCA.2 hemp;refine ifDT (by rw[hsl];omega) (b7.rI rfl ?_);have hs7':=RowR.slR hs7;rw[WkW]at hs7';have hz6:=K6.e.1;refine U4 K7.h (t:=t) ht k hs7' (RowR.capO hs7) (by simpa using hemp) (λb _ hq hx=>hx.1.2 hq) (K6.o.1.sub λb hb=>by have:=hQ b hb;omega) (λhq=>K6.o.2 (by have:=hQ _ hq;omega)) hlen' λv8 ts8 e8 h8=>?_;have K8:=K7.toX e8 h8 λb hb hq=>by
    rcases hq with hq|hq
    ·exact hq.imp id .inl
    ·have:=hQ b hq;exact .inr (.inr ⟨.inr (by omega),λhB=>by have:=(K6.b b hB).2;omega⟩)
   exact ret2 (n:=σ.size) K8 (.inl (.inr rfl)) (K7.keepB e8 hbv7 (.inl (.inr rfl))) λw' K'=>hR w' ts8 K'.e (K'.fin h)
 | grow k w=>
  refine nx1 (by decide) (nx2 (by decide) (nx2 (by decide) (ye2 (nw (cs:=[.int .i64 0,.int .i64 0]) λv5 hz5 e5 hb5=>?_))));have K5:=K1.box e5 hz5;refine hb5.s1 (by simp) λv5b o5 b5=>b5.s1 (by simp) λv6 o6 b6=>?_;have K6:=(K5.own o5 (.inr rfl)).own o6 (.inr rfl);have hne:σ.size≠v.size:=by omega
  have hbv6:=Wr o6 (Wr o5 (e5.blk hb id) hne) hne;refine b6.rI rfl (WfZ K6.h hA hY (k:Int) λv7 e7 h7=>?_);have K7:=K6.to e7 h7 λb _ hb=>hb;have b7:=K6.keepB e7 b6 (.inr rfl);have hbv7:=K6.keepB e7 hbv6 (.inl (.inr rfl));refine iff_ (λhn0=>?_) λh0=>?_
  ·have hn0':QR A H.sp (k:Int)≠0:=by simpa using hn0
   have hs:Wp H t (.grow k w)=({H.setA (H.own t) (growS A H.sp (k:Int)).1 with sp:=(growS A H.sp (k:Int)).2},none,0,QR A H.sp (k:Int)):=by
    simp only[Wp,hAe,zA hn0']
   rw[hs]at hR;exact ret2 (n:=σ.size) K7 (.inl (.inr rfl)) hbv7 λw' K'=>hR w' L.ts K'.e (K'.fin h)
  ·have h0':QR A H.sp (k:Int)=0:=by simpa using h0
   have hs:Wp H t (.grow k w)=({H.setA (H.own t) (growS A H.sp (k:Int)).1 with sp:=(growS A H.sp (k:Int)).2},some (.central k w),0,0):=by
    simp only[Wp,hAe,zB h0']
   rw[hs]at hR;refine b7.rI rfl (b7.rI rfl ?_);exact ret2 (n:=σ.size) K7 (.inl (.inr rfl)) hbv7 λw' K'=>hR w' L.ts K'.e (K'.fin h)
 | fill=>
  obtain⟨k,y,ys,r,hh,hk,hy9,hfit⟩:∃k x xs r,(H.thr t).hands=(k,x::xs)::r/\k<H.tb.length/\I63 x/\((H.thr t).li k).os.length+xs.length<=256:=hp;rw[htg]at hh hfit;obtain⟨c,hc⟩:∃c,H.tb[k]?=some c:=⟨_,gGe hk⟩;have hll:=h.lsL hx hg;obtain⟨l,hl⟩:∃l,g.ls[k]?=some l:=⟨_,gGe (by rw[hll];exact hk)⟩;have hce:=KT hc;have hle:=Wie hl;rw[hle]at hfit;refine nx1 (by decide) (nx2 (by decide) (nx2 (by decide) (nx2 (by decide) (ye0 (nw (cs:=[]) λv5 hz5 e5 hb5=>?_)))));have K5:=K1.box e5 hz5;have hbv5:=e5.blk hb id;obtain⟨G,D,hG,hD,hd,hBt,hr,hput⟩:=K5.h.stN (λb hb=>(K5.p b hb).2.2) hx hg (λ_=>False) (λb _ _ hq=>hq) (K5.o.1.sub λb hb=>hb.elim) (λhq=>hq);rw[hh]at hBt;obtain⟨so,ps,Dn,hrow,hso1,hcap,hBr,hDn,hj,hne,hxne⟩:=hBt.uncons;have hz5':=K5.e.1;have hsol:so.len=ys.length+1:=by have:=hso1.1;simp[Wt]at this;omega
  refine nilP (ldS (K5.h.tc hx hg ha (d:=1) (by omega) rfl) (WkO (RowO.slR hrow) λa ha0 ha1=>ldI ha0 (ldS ha1 ?_)));refine nw (cs:=[.int .i64 0,.slice none 0 0]) λv43 hz43 e43 hb43=>hb43.s1 (by simp) λv44 o44 b44=>b44.s1 (by simp) λv45 o45 b45=>?_;have e45:Ext0 v5 v45:=(e43.only o44 (.inr (zD _))).only o45 (.inr (zD _));have hz45:v5.size<v45.size:=b45.lt;refine nilP (hput v45 ⟨none,0,0⟩ [] (λ_=>False) (Ext0.to e45) (λb hb=>hb.elim) (BtR.nil _ _ _) ha λv46 e46 h46=>?_);have hz46:=e46.1;have e546:Ext _ v5 v46:=(Ext0.to e45).trans (e46.sub hD);have K46:=K5.to e546 h46 λb _ hq=>by
   rcases hq with hq|hq
   ·exact .inl hq.1
   ·exact hq.1.elim
  have hbv46:=K5.keepB e546 hbv5 (.inl (.inr rfl));have b46:Blk v46 v5.size _:=e46.blk b45 λhx=>by have:=(K5.p _ (hD _ hx)).2.2;omega
  have K46b:=K46.addB (B':=λb=>b=v5.size) λb hb=>⟨by omega,by omega,λhx=>by
   subst hb;rcases hx.1 with h1|h1
   ·have:=(K5.p _ h1.1).2.2;omega
   ·exact h1.1⟩
  have hso46:=(SlR.loc _ _ _).keep ((SlR.loc _ _ _).keep0 ((SlR.loc _ _ _).cut hso1) e45) e46 λb _ hb hx=>hd b (hDn b hb.1.1) hx;have hXn:∀b,(Dn b/\InB so b)/\b<v5.size->¬Cut (λb=>(Cut F σ b/\¬G b)\/False/\b<v45.size) v46 b:=λb hb hx=>by
   rcases hx.1 with h1|h1
   ·exact h1.2 (hDn b hb.1.1)
   ·exact h1.1
  have hg46:({H with ths:=H.ths.set t {g with hands:=[]}}:Hw).ths[t]?=some {g with hands:=[]}:=by simp[ht]
  have hx46:(L.ts.set t {x with h:=⟨none,0,0⟩})[t]?=some {x with h:=⟨none,0,0⟩}:=zK (gSi.1 hx).1;refine nilP (ldP (K46b.h.tc hx46 hg46 ha (d:=0) (by omega) rfl) (b46.rI rfl (b46.rS (a:=so.a) (n:=so.len) (c:=so.cap) rfl (slc (lo:=1) (by show 1<=so.len;omega) hcap (zD _) ?_))));have hsub:=SlR.sub hso46 (lo:=1) (hi:=so.len) (mx:=so.cap) (by omega) (zD _) hcap;have hsx:((Wt (y::ys)).drop (1*1)).take ((so.len-1)*1)=Wt ys:=by
   rw[zAZ (by simp[Wt];omega)];rfl
  rw[hsx]at hsub;have hl46:({g with hands:=[]}:Th).ls[k]?=some l:=hl;refine Wht K46b.h hx46 hg46 hc hl46 hsub hXn hfit λv47 ts47 e47 h47=>?_;have K47:=K46b.to e47 h47 λb _ hb=>hb;have hso47:=(SlR.loc _ _ _).keep hso46 e47 λb _ hb hx=>hXn b hb hx;have b47:=K46b.keepB e47 b46 (.inr rfl);have hbv47:=K46b.keepB e47 hbv46 (.inl (.inl (.inr rfl)));have hs:Wp H t .fill=(Kq {H with ths:=H.ths.set t {g with ls:=g.ls.set k (addL ys.reverse l),hands:=[]}} y (c.size:Int) (k:Int),none,y,0):=by
   simp only[Wp,htg,hh,Ze hg,hle,hce]
  rw[hs]at hR;obtain⟨b0,o0,ha0',hc0⟩:=hso47.cell (j:=0) (v:=.int .i64 y) rfl;have hS4:AtH (λu=>((∃P ts H',HH u P {L with ts:=ts} H'/\H'.tb=H.tb)/\Blk u v5.size [.int .i64 (k:Int),.slice so.a so.len so.cap])/\cell u ⟨b0,o0+0,none⟩=some (.int .i64 y)) L H.tb:=λm hm=>hm.1.1;refine⟨λu=>((∃P ts H',HH u P {L with ts:=ts} H'/\H'.tb=H.tb)/\Blk u v5.size [.int .i64 (k:Int),.slice so.a so.len so.cap])/\cell u ⟨b0,o0+0,none⟩=some (.int .i64 y),⟨⟨⟨_,_,_,K47.h,rfl⟩,b47⟩,hc0⟩,⟨so,λu hu=>by rw[add_lit,hu.1.2.cell];rfl,?_⟩⟩;refine ix0 ha0' (by omega) ⟨y,λu hu=>hu.2,nilP (hS4.tab ⟨(k:Int),λu hu=>by rw[add_lit,hu.1.2.cell];rfl,?_⟩)⟩;refine AtH.rC (L:={L with ts:=ts47}) (H:=Hw.setLs {H with ths:=H.ths.set t {g with hands:=[]}} t {g with hands:=[]} (g.ls.set k (addL ys.reverse l))) hS4 K47.h hc ⟨(k:Int),λu hu=>by rw[add_lit,hu.1.2.cell];rfl,?_⟩;refine Wak K47.h y (c.size:Int) (k:Int) hy9 λv48 e48 h48=>?_;have K48:=K47.to e48 h48 λb _ hb=>.inl hb;have hz4747:=e47.1;have hso48:=(SlR.loc _ _ _).keep hso47 e48 λb _ hb hx=>by
   rcases hx.1 with h1|h1
   ·exact hXn b hb h1
   ·have:=hb.2;omega
  refine⟨⟨⟨⟨_,_,_,h48,rfl⟩,K47.keepB e48 b47 (.inr rfl)⟩,?_⟩,?_⟩
  ·obtain⟨b1,o1,ha1',hc1⟩:=hso48.cell (j:=0) (v:=.int .i64 y) rfl;rw[ha0']at ha1';cases ha1';exact hc1
  ·have K49:=K48;simp only[Hw.setLs,zBC]at K49;exact ret2 (n:=σ.size) K49 (.inl (.inl (.inr rfl))) (K47.keepB e48 hbv47 (.inl (.inl (.inr rfl)))) λw' K'=>hR w' ts47 K'.e (K'.fin h)
 | large m=>
  have hp:Zt (H.arn t) H.sp (m:Int) 1<=1000000:=hp;rw[hAe]at hp;refine nx1 (by decide) (nx2 (by decide) (nx2 (by decide) (nx2 (by decide) (nx0 (by decide) (ye1 (nw (cs:=[.int .i64 0]) λv5 hz5 e5 hb5=>?_))))));have K5:=K1.box e5 hz5;refine hb5.s0 (by simp) λv6 o6 b6=>?_;have K6:=K5.own o6 (.inr rfl);have hbv6:=Wr o6 (e5.blk hb id) (by omega);refine b6.rI rfl (Gx K6.h hA hY (m:Int) 1 λv7 e7 h7=>?_);have K7:=K6.to e7 h7 λb _ hb=>hb;have b7:=K6.keepB e7 b6 (.inr rfl);have hbv7:=K6.keepB e7 hbv6 (.inl (.inr rfl));refine iff_ (λhn0=>?_) λh0=>?_
  ·have hn0':ZO A H.sp (m:Int) 1≠0:=by simpa using hn0
   have hs:Wp H t (.large m)=({H.setA (H.own t) (takeAS A H.sp (m:Int) 1).1 with sp:=(takeAS A H.sp (m:Int) 1).2},none,0,ZO A H.sp (m:Int) 1):=by
    simp only[Wp,hAe,zA hn0']
   rw[hs]at hR;exact ret2 (n:=σ.size) K7 (.inl (.inr rfl)) hbv7 λw' K'=>hR w' L.ts K'.e (K'.fin h)
  ·have h0':ZO A H.sp (m:Int) 1=0:=by simpa using h0
   have hm:m<=64:=by
    unfold ZO at h0';split at h0'
    ·rename_i hpo;simp only[Qo,zF,zN]at hpo;omega
    ·omega
   have hs:Wp H t (.large m)=(Kq {H.setA (H.own t) (takeAS A H.sp (m:Int) 1).1 with sp:=(takeAS A H.sp (m:Int) 1).2} ((Zt A H.sp (m:Int) 1*256:Nat):Int) ((m*256:Nat):Int) (-1),none,((Zt A H.sp (m:Int) 1*256:Nat):Int),0):=by
    simp only[Wp,hAe,zB h0']
   rw[hs]at hR;refine arN (m:=Zt A H.sp (m:Int) 1*256) (by omega) (by omega) (b7.rI rfl (arN (m:=m*256) (by omega) (by omega) ?_));refine Wak K7.h _ _ _ (by omega) λv8 e8 h8=>?_;have K8:=K7.to e8 h8 λb _ hb=>.inl hb;exact ret2 (n:=σ.size) K8 (.inl (.inr rfl)) (K7.keepB e8 hbv7 (.inl (.inr rfl))) λw' K'=>hR w' L.ts K'.e (K'.fin h)
 | find x=>
  obtain⟨hx9,hro,hlv⟩:I63 x/\(mget H.live x=none->∀A∈H.ars,RunsOk A)/\∀b,mget H.live x=some b->0<=x:=hp;refine nx1 (by decide) (nx2 (by decide) (nx2 (by decide) (nx2 (by decide) (nx0 (by decide) (nx1 (by decide) (ye1 (nw (cs:=[.int .i64 0]) λv5 hz5 e5 hb5=>?_)))))));have K5:=K1.box e5 hz5;refine hb5.s0 (by simp) λv6 o6 b6=>?_;have K6:=K5.own o6 (.inr rfl);have hbv6:=Wr o6 (e5.blk hb id) (by omega);refine b6.rI rfl (Wh4 K6.h ht x hx9 hro hlen' hlv λv7 ts7 e7 h7=>?_);have K7:=K6.to e7 h7 λb _ hb=>hb;have hbv7:=K6.keepB e7 hbv6 (.inl (.inr rfl));exact ret2 (n:=σ.size) K7 (.inl (.inr rfl)) hbv7 λw' K'=>hR w' ts7 K'.e (K'.fin h)
 | put k y=>
  obtain⟨hk,hne0⟩:k<H.tb.length/\(H.thr t).hands≠[]:=hp;rw[htg]at hne0;obtain⟨c,hc⟩:∃c,H.tb[k]?=some c:=⟨_,gGe hk⟩;have hll:=h.lsL hx hg;obtain⟨l,hl⟩:∃l,g.ls[k]?=some l:=⟨_,gGe (by rw[hll];exact hk)⟩;have hce:=KT hc;have hle:=Wie hl;refine nx1 (by decide) (nx2 (by decide) (nx2 (by decide) (nx2 (by decide) (nx0 (by decide) (nx1 (by decide) (nx1 (by decide) (ye2 (nw (cs:=[.int .i64 0,.int .i64 0]) λv5 hz5 e5 hb5=>?_))))))));have K5:=K1.box e5 hz5;refine hb5.s1 (by simp) λv5b o5 b5=>b5.s1 (by simp) λv6 o6 b6=>?_;have K6:=(K5.own o5 (.inr rfl)).own o6 (.inr rfl);have hne:σ.size≠v.size:=by omega
  have hbv6:=Wr o6 (Wr o5 (e5.blk hb id) hne) hne;generalize hgg:(if(putL c y l).1=[]then({g with ls:=g.ls.set k (putL c y l).2}:Th)else{g with ls:=g.ls.set k (putL c y l).2,hands:=g.hands++[(k,(putL c y l).1)]})=g2
  have hg2n:g2.hands≠[]/\g2.hands.length<=901:=by
   rw[←hgg];split
   ·exact⟨hne0,by simp;omega⟩
   ·exact⟨by simp,by simp;omega⟩
  refine Wa2 (λw=>∃P ts',HK F σ (λb=>(False\/b=σ.size)\/b=v.size) w P {L with ts:=ts'} {H with ths:=H.ths.set t g2}/\Blk w σ.size [.int .i64 0,.int .i64 0]) (λw ⟨P,ts2,K,hbw⟩=>?_) λJ2 hJ2=>?_
  ·have hg3:({H with ths:=H.ths.set t g2}:Hw).ths[t]?=some g2:=by simp[ht]
   obtain⟨x2,_,hx2,_⟩:=K.h.th (t:=t) (by simpa using ht);obtain⟨G,D,hG,hD,hd,hBt,hr,hput⟩:=K.h.stN (λb hb=>(K.p b hb).2.2) hx2 hg3 (λ_=>False) (λb _ _ hq=>hq) (K.o.1.sub λb hb=>hb.elim) (λhq=>hq);have hbl:=hBt.len;have hbc:=hBt.cap;obtain⟨b0,r0,hbr⟩:∃b r,g2.hands=b::r:=by
    cases hh:g2.hands with
    | nil=>exact absurd hh hg2n.1
    | cons b r=>exact⟨b,r,rfl⟩
   have hdr:g2.hands.drop 1=r0:=by rw[hbr];rfl
   rw[hbr]at hBt;have hpos:1<=x2.h.len:=by rw[hbl,hbr];simp
   refine nilP (ldS (K.h.tc hx2 hg3 ha (d:=1) (by omega) rfl) ?_);refine slc (lo:=1) hpos hbc (zD _) ?_;refine nilP (hput w _ _ G (Ext.refl _ _) (λb hb=>.inl hb) hBt.drop1 ha λw1 e1 h1=>?_);have e1':=e1.sub hD;have K1b:=K.to e1' h1 λb _ hq=>by
    rcases hq with hq|hq
    ·exact .inl hq.1
    ·exact .inl (hG b hq.1)
   have hbw1:=K.keepB e1' hbw (.inl (.inr rfl));have K3:=K1b;simp only[zBC]at K3;generalize hg3':({g2 with hands:=r0}:Th)=g3 at K3;have hl3:g3.hands=r0/\g3.ls=g2.ls:=by rw[←hg3'];exact⟨rfl,rfl⟩
   have hr0:r0.length<=900:=by have:=hg2n.2;rw[hbr]at this;simp at this;omega
   have hg3e:({H with ths:=H.ths.set t g3}:Hw).ths[t]?=some g3:=by simp[ht]
   have hpe:putH H t k y=(if H.cf.budget<ZI H.tb g3.ls then{H with ths:=H.ths.set t {g3 with ls:=Qi QM H.tb g3.ls,hands:=g3.hands++Qj QM H.tb g3.ls}}else{H with ths:=H.ths.set t g3}):=by
    have e2:(if(putL c y l).1=[]then H.setT t λh=>h.setL k (putL c y l).2 else Z1 (H.setT t λh=>h.setL k (putL c y l).2) t k (putL c y l).1) = {H with ths:=H.ths.set t g2}:=by
     rw[←hgg];split
     ·rw[Ze hg];rfl
     ·rw[Ze hg];unfold Z1 Hw.setT;simp only;rw[QX (t:=g.setL k (putL c y l).2) (by simp[ht]),zBC];rfl
    have e3:({H with ths:=H.ths.set t g2}:Hw).setT t (λh=>{h with hands:=h.hands.drop 1}) = {H with ths:=H.ths.set t g3}:=by
     rw[Ze hg3];simp only[zBC,hdr,hg3']
    unfold putH;simp only[hce,htg,hle,e2,e3,UK hg3e,Ze hg3e,zBC]
   have hx3:(ts2.set t {x2 with h:=⟨if x2.h.cap=1 then x2.h.a else x2.h.a.map (·.add (1*2)),x2.h.len-1,x2.h.cap-1⟩})[t]?=some {x2 with h:=⟨if x2.h.cap=1 then x2.h.a else x2.h.a.map (·.add (1*2)),x2.h.len-1,x2.h.cap-1⟩}:=zK (gSi.1 hx2).1
   generalize hx3':({x2 with h:=⟨if x2.h.cap=1 then x2.h.a else x2.h.a.map (·.add (1*2)),x2.h.len-1,x2.h.cap-1⟩}:LayT)=x3 at hx3 K3
   generalize ts2.set t x3=ts3 at hx3 K3;refine Wa2 (λw=>∃P ts',HK F σ (λb=>(False\/b=σ.size)\/b=v.size) w P {L with ts:=ts'} (putH H t k y)/\Blk w σ.size [.int .i64 0,.int .i64 0]) (λw ⟨P,ts',K,hbw⟩=>?_) λJ3 hJ3=>?_
   ·have hs:Wp H t (.put k y)=(putH H t k y,retH (putH H t k y) t,0,0):=rfl;rw[hs]at hR;refine KK K.h (t:=t) ?_ ?_
    ·rw[hpe];split<;>simpa using ht
    ·exact ret2 (n:=σ.size) K (.inl (.inr rfl)) hbw λw' K'=>hR w' ts' K'.e (K'.fin h)
   ·refine nilP (ldP (K3.h.tc hx3 hg3e ha (d:=0) (by omega) rfl) ?_);refine Whl K3.h hx3 hg3e λv10 e10=>?_;have K10:=K3.fr e10;have hbw10:=e10.blk hbw1 id;refine ifD (λhov=>?_) λhno=>hJ3 v10 ⟨_,ts3,by rw[hpe,zA hno];exact K10,hbw10⟩;refine⟨λu=>cell u (Addr.add ⟨tb0,to0+3*t,none⟩ 1)=some (.slice x3.h.a x3.h.len x3.h.cap)/\cell u (Addr.add ⟨tb0,to0+3*t,none⟩ 0)=some (.pointer (some ⟨x3.c.p,0,none⟩)),⟨K10.h.tc hx3 hg3e ha (d:=1) (by omega) rfl,K10.h.tc hx3 hg3e ha (d:=0) (by omega) rfl⟩,nilP ⟨x3.h,λu hu=>hu.1,nilP ⟨some ⟨x3.c.p,0,none⟩,λu hu=>hu.2,?_⟩⟩⟩;refine Wb6 hso K10.h hx3 hg3e λv11 s Q e11 hQ hB h11=>?_;have K11:=K10.to e11 h11 λb _ hb=>hb.1;have hbw11:=K10.keepB e11 hbw10 (.inl (.inr rfl));have hg11:(Hw.setLs {H with ths:=H.ths.set t g3} t g3 (Qi QM H.tb g3.ls)).ths[t]?=some {g3 with ls:=Qi QM H.tb g3.ls}:=by simp[Hw.setLs,ht]
    refine⟨⟨K11.h.tc hx3 hg11 ha (d:=1) (by omega) rfl,K11.h.tc hx3 hg11 ha (d:=0) (by omega) rfl⟩,?_⟩;have hz0:=K10.e.1;obtain⟨G,D,hG,hD,hd,hBt,hr,hput⟩:=K11.h.stN (λb hb=>hb.2) hx3 hg11 (λb=>Q b\/v11.size<=b) (λb hb hP hq=>hq.elim (λhq=>hP.1.2 hq) λhq=>by omega) (K10.o.1.sub λb hb=>hb.elim (λhb=>by have:=hQ b hb;omega) λhb=>by have:=K11.e.1;omega) (λhq=>K10.o.2 (hq.elim (λhb=>by have:=hQ _ hb;omega) λhb=>by have:=K11.e.1;omega));refine BtR.app hBt hB (λb hg hq=>(hG b hg).1.2 hq) ?_ λs' v12 e12 hB12=>?_
    ·have:=Hm QM H.tb g3.ls;have:H.tb.length<=40:=K3.h.tb40;simp only[hl3.1];omega
    have hcell:∀{d:Nat} {w:Value},d<3->(thV (x3,({g3 with ls:=Qi QM H.tb g3.ls}:Th)))[d]?=some w->cell v12 (Addr.add ⟨tb0,to0+3*t,none⟩ d)=some w:=λhd3 hv=>by
     obtain⟨b',o',ha',hc'⟩:=Vb (hr v12 e12) hx3 hg11 hd3 hv;rw[ha]at ha';cases ha';rw[add_lit,zBU];exact hc'
    refine⟨⟨hcell (d:=1) (by omega) rfl,hcell (d:=0) (by omega) rfl⟩,nilP (hput v12 s' _ _ e12 (λb hb=>hb.imp id id) hB12 ha λv13 e13 h13=>?_)⟩;have e13':=(e12.sub hG).trans (e13.sub hD);have K13:=K11.toX e13' h13 λb hb hq=>by
     rcases hq with hq|hq
     ·exact .inl hq.1
     ·rcases hq.1 with h1|h1|h1
      ·exact .inl (hG b h1)
      ·have:=hQ b h1;exact .inr (.inr ⟨.inr (by omega),λhB=>by have:=(K10.b b hB).2;omega⟩)
      ·exact .inr (.inl h1)
    have hbw13:=K11.keepB e13' hbw11 (.inl (.inr rfl));have K14:=K13;simp only[Hw.setLs,zBC]at K14;have hpe':=hpe;rw[zB hov]at hpe';rw[hpe']at hJ3;exact hJ3 v13 ⟨_,_,K14,hbw13⟩
  ·refine⟨λu=>u=v6,rfl,nilP ⟨some ⟨x.c.p,0,none⟩,λu hu=>by cases hu;exact K6.h.tc hx hg ha (d:=0) (by omega) rfl,⟨(k:Int),λu hu=>by cases hu;rw[add_lit,b6.cell];rfl,⟨y,λu hu=>by cases hu;rw[add_lit,b6.cell];rfl,?_⟩⟩⟩⟩;refine WjH K6.h hx hg hc hl y λv7 ts7 s ee Q e7 hQ hs7 h7=>?_;have K7:=K6.to e7 h7 λb _ hb=>hb.1;have b7:=K6.keepB e7 b6 (.inr rfl);have hbv7:=K6.keepB e7 hbv6 (.inl (.inr rfl));have hsl:s.len=(putL c y l).1.length:=by have:=hs7.1;simp[Wt]at this;omega
   by_cases hemp:(putL c y l).1=[]
   ·rw[zB hemp]at hgg;rw[←hgg]at hJ2;exact ifDF (by rw[hsl,hemp];simp) (hJ2 v7 ⟨_,ts7,K7,hbv7⟩)
   ·rw[zA hemp]at hgg;have hpos:=zCA.2 hemp;have hz6:=K6.e.1;refine ifDT (by rw[hsl];omega) (b7.rI rfl ?_);refine U4 K7.h (t:=t) (by simpa[Hw.setLs]using ht) k (RowR.slR hs7) (RowR.capO hs7) hemp (λb _ hq hx=>hx.1.2 hq) (K6.o.1.sub λb hb=>by have:=hQ b hb;omega) (λhq=>K6.o.2 (by have:=hQ _ hq;omega)) (λg' hg'=>?_) λv8 ts8 e8 h8=>?_
    ·have:(H.setLs t g (g.ls.set k (putL c y l).2)).ths[t]?=some {g with ls:=g.ls.set k (putL c y l).2}:=by simp[Hw.setLs,ht]
     rw[this]at hg';cases hg';simp only;omega
    ·have K8:=K7.toX e8 h8 λb hb hq=>by
      rcases hq with hq|hq
      ·exact hq.imp id .inl
      ·have:=hQ b hq;exact .inr (.inr ⟨.inr (by omega),λhB=>by have:=(K6.b b hB).2;omega⟩)
     have e9:Z1 (H.setLs t g (g.ls.set k (putL c y l).2)) t k (putL c y l).1 = {H with ths:=H.ths.set t g2}:=by
      rw[←hgg];unfold Z1 Hw.setT Hw.setLs;simp only;rw[QX (t:={g with ls:=g.ls.set k (putL c y l).2}) (by simp[ht]),zBC]
     rw[e9]at K8;exact hJ2 v8 ⟨_,ts8,K8,K7.keepB e8 hbv7 (.inl (.inr rfl))⟩
 | back=>
  obtain⟨k,xs,r,hh,hxs,hxl⟩:∃k xs r,(H.thr t).hands=(k,xs)::r/\(∀x∈xs,I63 x/\0<=Yd H.ars x)/\xs.length<=1000000:=hp;rw[htg]at hh;refine nx1 (by decide) (nx2 (by decide) (nx2 (by decide) (nx2 (by decide) (nx0 (by decide) (nx1 (by decide) (nx1 (by decide) (nx2 (by decide) (ye0 (nw (cs:=[]) λv5 hz5 e5 hb5=>?_)))))))));have K5:=K1.box e5 hz5;have hbv5:=e5.blk hb id;obtain⟨G,D,hG,hD,hd,hBt,hr,hput⟩:=K5.h.stN (λb hb=>(K5.p b hb).2.2) hx hg (λb=>v5.size<=b) (λb hb _ hq=>by omega) K5.h.newN.1 K5.h.newN.2;have hbl:=hBt.len;have hbc:=hBt.cap;rw[hh]at hBt;obtain⟨so,ps,Dn,hrow,hso1,hcap,hBr,hDn,hj,hne,hxne⟩:=hBt.uncons;have hz5':=K5.e.1;refine nilP (ldS (K5.h.tc hx hg ha (d:=1) (by omega) rfl) (WkO (RowO.slR hrow) λa ha0 ha1=>ldI ha0 (ldS ha1 ?_)));refine nw (cs:=[.int .i64 0,.slice none 0 0]) λv81 hz81 e81 hb81=>hb81.s1 (by simp) λv82 o82 b82=>b82.s1 (by simp) λv83 o83 b83=>?_;have e83:Ext0 v5 v83:=(e81.only o82 (.inr (zD _))).only o83 (.inr (zD _));have hz83:v5.size<v83.size:=b83.lt;have hcell:∀{u1:Hp},Ext G v5 u1->∀{d:Nat} {w:Value},d<3->(thV (x,g))[d]?=some w->cell u1 (Addr.add ⟨tb0,to0+3*t,none⟩ d)=some w:=λhe _ _ hd3 hv=>by
   obtain⟨b',o',ha',hc'⟩:=Vb (hr _ he) hx hg hd3 hv;rw[ha]at ha';cases ha';rw[add_lit,zBU];exact hc'
  refine nilP (ldS (hcell (Ext0.to e83) (d:=1) (w:=.slice x.h.a x.h.len x.h.cap) (by omega) rfl) ?_);have hpos:1<=x.h.len:=by rw[hbl,hh];simp
  refine slc (lo:=1) hpos hbc (zD _) ?_;have hrow':=(SlR.loc _ _ _).keep0 ((SlR.loc _ _ _).cut (RowO.slR (hrow.from (lo:=1) hpos))) e83;have hdr:(btsV ((k,so)::ps)).drop (1*2)=btsV ps:=rfl;rw[hdr]at hrow';refine Wlk hrow' (by simp only;omega) λs' v84 hs'l e84 hs'=>?_;have hBt':BtR s' r v84 (λb=>Dn b/\¬InB so b/\b<v5.size\/v83.size<=b):=by
   refine⟨ps,λb=>Dn b/\¬InB so b/\b<v5.size,(RowO.loc _ _ _).mono hs'.o λb _ hb=>⟨.inr hb,λhx=>by omega⟩,(BtO.loc _ _).keep0 ((BtO.loc _ _).keep0 ((BtO.loc _ _).mono ((BtO.loc _ _).cut hBr) λb _ hb=>⟨hb.1.1,hb.1.2,hb.2⟩) e83) e84,λb hb=>.inl hb,hj,hne⟩
  have e584:Ext0 v5 v84:=e83.trans e84;refine nilP (hput v84 s' r _ (Ext0.to e584) (λb hb=>hb.elim (λhb=>.inl (hDn b hb.1)) λhb=>.inr (by omega)) hBt' ha λv85 e85 h85=>?_);have hz84:=e84.1;have hz85:=e85.1;have e585:Ext _ v5 v85:=(Ext0.to e584).trans (e85.sub hD);have K85:=K5.to e585 h85 λb _ hq=>by
   rcases hq with hq|hq
   ·exact .inl hq.1
   ·rcases hq.1 with h1|h1
    ·exact .inl (hG b (hDn b h1.1))
    ·exact .inr (by omega)
  have hbv85:=K5.keepB e585 hbv5 (.inl (.inr rfl));have b85:Blk v85 v5.size _:=e85.blk (e84.blk b83 id) λhx=>by have:=(K5.p _ (hD _ hx)).2.2;omega
  have K85b:=K85.addB (B':=λb=>b=v5.size) λb hb=>⟨by omega,by omega,λhx=>by
   subst hb;rcases hx.1 with h1|h1
   ·have:=(K5.p _ h1.1).2.2;omega
   ·rcases h1.1 with h2|h2<;>omega⟩
  have hso5:=(SlR.loc _ _ _).keep ((SlR.loc _ _ _).keep0 ((SlR.loc _ _ _).cut hso1) e584) e85 λb _ hb hx=>hd b (hDn b hb.1.1) hx;have hs:Wp H t .back=(Uz {H with ths:=H.ths.set t {g with hands:=r}} (H.own t) k xs,retH (Uz {H with ths:=H.ths.set t {g with hands:=r}} (H.own t) k xs) t,0,0):=by
   simp only[Wp,htg,hh,Ze hg]
  rw[hs]at hR;refine⟨λu=>u=v85,rfl,⟨(k:Int),λu hu=>by cases hu;rw[add_lit,b85.cell];rfl,⟨so,λu hu=>by cases hu;rw[add_lit,b85.cell];rfl,?_⟩⟩⟩;refine Wgh K85b.h t ⟨rfl,Wg7 K85b.h hol k hso5 (λb _ hb hx=>?_) hcap hxs hxl λv87 e87 h87=>?_⟩
  ·rcases hx.1 with h1|h1
   ·exact h1.2 (hDn b hb.1.1)
   ·rcases h1.1 with h2|h2
    ·exact h2.2.1 hb.1.2
    ·have:=hb.2;omega
  have K87:=K85b.to e87 h87 λb _ hb=>hb;have hbl7:(Uz {H with ths:=H.ths.set t {g with hands:=r}} (H.own t) k xs).ths.length=H.ths.length:=by
   rw[Gf];simp
  refine KK K87.h (t:=t) (by rw[hbl7];exact ht) ?_;exact ret2 (n:=σ.size) K87 (.inl (.inl (.inr rfl))) (K85b.keepB e87 hbv85 (.inl (.inl (.inr rfl)))) λw' K'=>hR w' _ K'.e (K'.fin h)
 | give s a=>
  obtain⟨ha0,hal,hru⟩:0<=a/\a.toNat<H.ars.length/\∀A∈H.ars,∀r∈A.runs,r.1<=1000000:=hp;obtain⟨A2,hA2⟩:∃A,H.ars[a.toNat]?=some A:=⟨_,gGe hal⟩;have hae:a=((a.toNat:Nat):Int):=by omega
  refine nx1 (by decide) (nx2 (by decide) (nx2 (by decide) (nx2 (by decide) (nx0 (by decide) (nx1 (by decide) (nx1 (by decide) (nx2 (by decide) (nx0 (by decide) (ye2 (nw (cs:=[.int .i64 0,.int .i64 0]) λv5 hz5 e5 hb5=>?_))))))))));have K5:=K1.box e5 hz5;refine hb5.s1 (by simp) λv5b o5 b5=>b5.s1 (by simp) λv6 o6 b6=>?_;have K6:=(K5.own o5 (.inr rfl)).own o6 (.inr rfl);have hne:σ.size≠v.size:=by omega
  have hbv6:=Wr o6 (Wr o5 (e5.blk hb id) hne) hne;obtain⟨Y2,hY2,_,_⟩:=K6.h.ar hA2;refine nilP (K6.h.hd.rS rfl (b6.rI (x:=((a.toNat:Nat):Int)) (by rw[←hae];rfl) (K6.h.rA hY2 (b6.rI rfl ?_))));refine WaR K6.h hA2 hY2 s (hru A2 (zE hA2)) λv7 e7 h7=>?_;have K7:=K6.to e7 h7 λb _ hb=>hb;have hbv7:=K6.keepB e7 hbv6 (.inl (.inr rfl));have hs:Wp H t (.give s a)=(H.setA a.toNat (ZT A2 s),none,0,0):=by
   simp only[Wp,hA2]
  refine hJ v7 ⟨_,L.ts,⟨?_,K7.e,λb hb=>⟨(K7.p b hb).1,λhx=>(K7.p b hb).2.1 (.inl hx),(K7.p b hb).2.2⟩,λb hb=>K7.b b (.inl hb),K7.o⟩,hbv7,by rw[hs]⟩;rw[hs];exact K7.h
 | drain=>
  refine nx1 (by decide) (nx2 (by decide) (nx2 (by decide) (nx2 (by decide) (nx0 (by decide) (nx1 (by decide) (nx1 (by decide) (nx2 (by decide) (nx0 (by decide) (nx2 (by decide) (ye0 (nw (cs:=[]) λv5 hz5 e5 hb5=>?_)))))))))));have K5:=K1.box e5 hz5;have hbv5:=e5.blk hb id;refine nilP (ldP (K5.h.tc hx hg ha (d:=0) (by omega) rfl) ?_);refine WeW hso K5.h hx hg λv7 s Q e7 hQ hB h7=>?_;have K7:=K5.to e7 h7 λb _ hb=>hb.1;have hbv7:=K5.keepB e7 hbv5 (.inl (.inr rfl));have hz0:=K5.e.1;have hg7:(H.setLs t g (Qi Zj H.tb g.ls)).ths[t]?=some {g with ls:=Qi Zj H.tb g.ls}:=by simp[Hw.setLs,ht]
  obtain⟨G,D,hG,hD,hd,hBt,hr,hput⟩:=K7.h.stN (λb hb=>hb.2) hx hg7 Q (λb _ hb hq=>hb.1.2 hq) (K5.o.1.sub λb hb=>by have:=hQ b hb;omega) (λhq=>K5.o.2 (by have:=hQ _ hq;omega));refine nilP (hput v7 s _ Q (Ext.refl _ _) (λb hb=>.inr hb) hB ha λv8 e8 h8=>?_);have e8':=e8.sub hD;have K8:=K7.toX e8' h8 λb _ hq=>by
   rcases hq with hq|hq
   ·exact .inl hq.1
   ·have:=hQ b hq.1;exact .inr (.inr ⟨.inr (by omega),λhB=>by have:=(K5.b b hB).2;omega⟩)
  have hbv8:=K7.keepB e8' hbv7 (.inl (.inr rfl));have hs:Wp H t .drain=({H with ths:=H.ths.set t {g with ls:=Qi Zj H.tb g.ls,hands:=Qj Zj H.tb g.ls}},retH {H with ths:=H.ths.set t {g with ls:=Qi Zj H.tb g.ls,hands:=Qj Zj H.tb g.ls}} t,0,0):=by
   simp only[Wp,Ze hg]
  have K9:=K8;simp only[Hw.setLs,zBC]at K9;rw[hs]at hR;refine KK K9.h (t:=t) (by simpa using ht) ?_;exact ret2 (n:=σ.size) K9 (.inl (.inr rfl)) hbv8 λw' K'=>hR w' _ K'.e (K'.fin h)
def setPh (H:Hw)(t:Nat)(p:Option Ph):Hw:=H.setT t λh=>{h with ph:=p}
theorem Ke (H:Hw)(t:Nat)(f:Th->Th):(H.setT t f).ths.length=H.ths.length:=by simp[Hw.setT]
theorem WgY (H:Hw)(t k:Nat)(x:Int):(putH H t k x).ths.length=H.ths.length:=by
 unfold putH;simp only;split<;>split<;>simp[Ke,Z1]
theorem Wb1 (H:Hw)(t:Nat)(p:Ph):(Wp H t p).1.ths.length=H.ths.length:=by
 cases p with
 | take k=>simp only[Wp];split<;>simp[Kq,Ke]
 | transfer k w=>
  simp only[Wp];split
  ·split<;>simp[Z1,Ke,Hw.setA]
  ·rfl
 | central k w=>simp only[Wp];split<;>simp[Z1,Ke,Hw.setA]
 | grow k w=>simp only[Wp];split<;>simp[Hw.setA]
 | fill=>simp only[Wp];split<;>simp[Kq,Ke]
 | large m=>simp only[Wp];split<;>simp[Kq,Hw.setA]
 | find x=>
  simp only[Wp,VI];split
  ·rfl
  ·split<;>simp[Z1,Ke]
 | put k x=>exact WgY H t k x
 | back=>simp only[Wp];split<;>simp[Gf,Ke]
 | give s a=>simp only[Wp];split<;>simp[Hw.setA]
 | drain=>simp[Wp,Ke]
def GL (H:Hw)(t:Nat)(p:Ph):Prop:=Wd8 H t p/\∀g,H.ths[t]?=some g->g.hands.length<=900
def ZX (H:Hw)(t:Nat)(p:Ph):Hw:=setPh (Wp H t p).1 t (Wp H t p).2.1
theorem Wid (hso:Gi)(h:HH σ F L H)(hg:H.ths[t]?=some g){p:Ph}(hp:g.ph=some p)(hok:GL H t p){R:Bool->Int->Int->Int->Hp->Prop}
 (hR:∀σ' ts',Ext F σ σ'->HH σ' (Grow F σ) {L with ts:=ts'} (ZX H t p)->R (Wp H t p).2.1.isNone (Wp H t p).2.2.1 (Wp H t p).2.2.2 0 σ'):YO.c (some ⟨L.p,0,none⟩) (t:Int) σ R:=by
 refine YO.o ?_;unfold YO.v;have ht:=(gSi.1 hg).1;refine nw (cs:=[.int .i64 0,.int .i64 0]) λv hz e hb=>?_;have K1:=(HK.start h).box e hz;obtain⟨x,g',hx,hg'⟩:=h.th ht;rw[hg]at hg';cases hg';refine Vy K1.h (ifF rfl (Wbo K1.h (t:Int) (ifF (by rw[zQ (by omega)];rfl) ?_)));refine nilP (K1.h.hd.rS rfl (K1.h.tR hx hg ?_));rw[hp];refine⟨WbM _,ifF (by rw[WaQ];rfl) (nilP (K1.h.hd.rS rfl (K1.h.tR hx hg ?_)))⟩;rw[hp];refine Win hso K1.h ht p hok.1 hok.2 λv9 ts9 e9 h9=>?_;have K9:=K1.to e9 h9 λb _ hb=>hb;have hbv9:=K1.keepB e9 hb (.inr rfl);refine nw (cs:=[.int .i64 0,.int .i64 0]) λv10 hz10 e10 hb10=>?_;have K10:=K9.box e10 hz10;refine hb10.s1 (by simp) λv11 o11 b11=>b11.s1 (by simp) λv12 o12 b12=>?_;have K12:=(K10.own o11 (.inr rfl)).own o12 (.inr rfl);have hne:σ.size≠v9.size:=by have:=(K9.b σ.size (.inr rfl)).2;omega
 have hbv12:=Wr o12 (Wr o11 (e10.blk hbv9 id) hne) hne;have ht9:t<(Wp H t p).1.ths.length:=by rw[Wb1];exact ht
 obtain⟨x9,g9,hx9,hg9⟩:=K12.h.th ht9;have hpe:ZX H t p = {(Wp H t p).1 with ths:=(Wp H t p).1.ths.set t {g9 with ph:=(Wp H t p).2.1}}:=Ze hg9 _;refine nilP (K12.h.hd.rS rfl (K12.h.stepP hx9 hg9 (Wp H t p).2.1 λv13 e13 h13=>?_));have K13:=K12.to e13 h13 λb _ hb=>.inl hb;have hb13:=K12.keepB e13 b12 (.inr rfl);rw[←hpe]at K13;refine⟨WbM _,hb13.rI rfl (hb13.rI rfl ?_)⟩;refine ret2 (n:=σ.size) K13 (.inl (.inr rfl)) (K12.keepB e13 hbv12 (.inl (.inr rfl))) λw' K'=>?_;rw[WaQ];exact hR w' ts9 K'.e (K'.fin h)
theorem WjC {p:Nat->Prop}(h:∃n,p n):∃n,p n/\∀m,p m->n<=m:=by
 obtain⟨n,hn⟩:=h
 induction n using Nat.strongRecOn with
 | _ n ih=>
  by_cases hm:∃m,m<n/\p m
  ·obtain⟨m,h1,h2⟩:=hm;exact ih m h1 h2
  ·exact⟨n,hn,λm h2=>Nat.le_of_not_lt λh1=>hm ⟨m,h1,h2⟩⟩
theorem Wls {start:Fam []->Prop}{round:Fam []->Fam []}(Inv:Nat->Hp->Prop)(h0:start λh=>∃n,Inv n h)(hr:∀n h,Inv n h->∀J:Hp->Prop,(∀m h',m<n->Inv m h'->J h')->round J h):XL [] start round:=by
 classical
 refine WkF (λh=>∃n,Inv n h) (λh=>if hx:∃n,Inv n h then(WjC hx).choose else 0) h0 λh hI=>?_
 have hs:=(WjC hI).choose_spec;refine hr _ h hs.1 _ λm h' hm hi=>⟨⟨m,hi⟩,?_⟩;have hI':∃n,Inv n h':=⟨m,hi⟩;rw[dif_pos hI',dif_pos hI];exact Nat.lt_of_le_of_lt ((WjC hI').choose_spec.2 m hi) hm
inductive RunN:Nat->Hw->Nat->Ph->Hw->Int->Int->Prop
 | done {H:Hw} {t:Nat} {p:Ph}:GL H t p->(Wp H t p).2.1=none->RunN 1 H t p (ZX H t p) (Wp H t p).2.2.1 (Wp H t p).2.2.2
 | next {n:Nat} {H:Hw} {t:Nat} {p p':Ph} {H':Hw} {a e:Int}:GL H t p->(Wp H t p).2.1=some p'->RunN n (ZX H t p) t p' H' a e->RunN (n+1) H t p H' a e
theorem Wds {p:Ph}(ht:t<H.ths.length):∃g,(ZX H t p).ths[t]?=some g/\g.ph=(Wp H t p).2.1:=by
 have ht9:t<(Wp H t p).1.ths.length:=by rw[Wb1];exact ht
 exact⟨{(Wp H t p).1.ths[t]with ph:=(Wp H t p).2.1},by simp[ZX,setPh,Hw.setT,zCQ,gGe ht9],rfl⟩
end Go.Ar
namespace Go.Ar
open Go Go.Vc Go.Proofs
open Go.Bu (isPow)
variable {σ:Hp}{F:Rg}
def Z7 (size align:Int):Bool:=decide (1<=size)&&(decide (1<=align)&&(decide (align<=256)&&isPow align))
def clsV (tb:List Cls)(size align:Int):Option Nat:=tb.findIdx? λc=>decide (size<=(c.size:Int))&&((c.size:Int)%align==0)
theorem Whw (n:Int)(h1:1<=n)(h2:n<=256){R:Int->Hp->Prop}(hR:∀p:Int,(p != n) = !isPow n->R p σ):Zy.c n σ R:=by
 refine Zy.o ?_;unfold Zy.v;refine Ks (a:=.i .i64) (bb:=.i .i64) (λ(p q:Int) w=>w=σ/\(p=0/\q=1\/∃k:Nat,k<=8/\p=((2^k:Nat):Int)/\q=((2^(k+1):Nat):Int)/\p<=n)) (λp q _=>1000-q.toNat) ⟨rfl,.inl ⟨rfl,rfl⟩⟩ ?_;rintro(p:Int) (q:Int) w ⟨rfl,hpq⟩;refine ifD (λhle=>?_) λhgt=>?_
 ·rcases hpq with⟨rfl,rfl⟩|⟨k,hk,rfl,rfl,hp⟩
  ·exact arN (m:=2) (by omega) (by omega) ⟨⟨rfl,.inr ⟨0,by omega,by simp,by simp,by omega⟩⟩,by simp⟩
  ·have hk7:k<=7:=by
    apply Classical.byContradiction;intro hc;have:2^9<=2^(k+1):=zAI (by decide) (by omega);omega
   have hpk:=zv (k+1);exact arN (m:=2^(k+1+1)) (by rw[zAN 2 (k+1)];omega) (by rw[zAN 2 (k+1)];omega) ⟨⟨rfl,.inr ⟨k+1,by omega,rfl,rfl,hle⟩⟩,by rw[zAN 2 (k+1)];omega⟩
 ·rcases hpq with⟨rfl,rfl⟩|⟨k,hk,rfl,rfl,hp⟩
  ·omega
  ·refine hR _ ?_;by_cases e:((2^k:Nat):Int)=n
   ·have:isPow n=true:=by
     unfold isPow;rw[zl];exact⟨k,zW.2 (by omega),by simp[←e]⟩
    rw[this,e];simp
   ·have:isPow n=false:=by
     unfold isPow;rw[zAP];intro j hj he;have he':n=((2^j:Nat):Int):=by simpa using he
     rcases zBO j k with h3|h3|h3
     ·have:2^(j+1)<=2^k:=zAI (by decide) h3;rw[zAN]at this;have:=zv j;omega
     ·subst h3;exact e he'.symm
     ·have:2^(k+1)<=2^j:=zAI (by decide) h3;omega
    rw[this];simpa using e
theorem WdO {s:Sl}{xs:List (Int×Int×Int)}(ha:Acts σ s xs)(hv:Zm xs=true)(size align:Int){R:Int->Int->Hp->Prop}
 (hR:∀σ',Ext0 σ σ'->R (if Z7 size align then((clsV (xs.map YC) size align).getD 0:Nat)else 0) (if Z7 size align then(if(clsV (xs.map YC) size align).isSome then 0 else 4)else 1) σ'):Zo.c s size align σ R:=by
 refine Zo.o ?_;unfold Zo.v;refine nw (cs:=[.int .i64 size]) λv hz e hb=>nw (cs:=[.int .i64 align]) λv1 hz1 e1 hb1=>?_;have hb':=e1.blk hb id;refine V4 (Xb ha (e.trans e1)) λv2 e2=>?_;rw[hv];have hb2:=e2.blk hb' id;have hb12:=e2.blk hb1 id;have e02:=(e.trans e1).trans e2;refine ifF rfl ?_;have key:∀r,r = !Z7 size align->(If r (R 0 1 v2) (Wk.c s ⟨80,#[],#[.pointer (some ⟨σ.size,0,none⟩),.pointer (some ⟨v.size,0,none⟩)]⟩ v2 λk v4=>If (decide (k<0)) (R 0 4 v4) (R k 0 v4))):=by
  intro r hr;cases hok:Z7 size align with
  | false=>
   rw[hok]at hr;have:=hR v2 e02;rw[hok]at this;exact ifT (by rw[hr];rfl) this
  | true=>
   rw[hok]at hr;refine ifF (by rw[hr];rfl) ?_;have hok':=hok;simp only[Z7,zF,zN]at hok';refine Wk.o ?_;unfold Wk.v;have hlen:=ha.1;have hxl:=((Zi xs).1 hv).2.1;refine Zw (a:=.i .i64) (λ(z:Int) w=>∃i:Nat,z=(i:Int)/\i<=xs.length/\Ext0 v2 w/\∀j c,j<i->(xs.map YC)[j]?=some c->(decide (size<=(c.size:Int))&&((c.size:Int)%align==0))=false) (λz _=>xs.length-z.toNat) ⟨0,rfl,by omega,Ext.refl _ _,λj c h=>by omega⟩ ?_;rintro(z:Int) w ⟨i,rfl,hi,ew,hno⟩;refine ifD (λhlt=>?_) λhge=>?_
   ·have hi':i<xs.length:=by omega
    have hc:(xs.map YC)[i]?=some (YC xs[i]):=by simp[hi']
    generalize YC xs[i]=c at hc;have haw:=Xb ha (e02.trans ew);obtain⟨hx,hcok⟩:=KP haw hv hc;refine K0 haw hx ?_;refine WaN (all := #[.agg #[.int .i64 (c.size:Int),.int .i64 (c.pages:Int),.int .i64 (c.batch:Int)],.pointer (some ⟨σ.size,0,none⟩),.pointer (some ⟨v.size,0,none⟩)]) (by kernel_rfl) (by simp) ?_;refine Zk.o ?_;unfold Zk.v;refine nw (cs:=[.int .i64 (c.size:Int),.int .i64 (c.pages:Int),.int .i64 (c.batch:Int)]) λw1 hz1 e1 hbw=>?_;have hs1:=e1.blk (ew.blk hb2 id) id;have hs2:=e1.blk (ew.blk hb12 id) id;have ew1:=ew.trans e1;have go:∀r,r=(decide (size<=(c.size:Int))&&((c.size:Int)%align==0))->If r (If (decide ((i:Int)<0)) (R 0 4 w1) (R (i:Int) 0 w1)) (Ar .i64 ((i:Int)+1) λt18=>(∃i:Nat,t18=(i:Int)/\i<=xs.length/\Ext0 v2 w1/\∀j c,j<i->(xs.map YC)[j]?=some c->(decide (size<=(c.size:Int))&&((c.size:Int)%align==0))=false)/\xs.length-t18.toNat<xs.length-(i:Int).toNat):=by
     intro r hr;refine iff_ (λh1=>ifDF (by omega) ?_) λh0=>?_
     ·have hf:clsV (xs.map YC) size align=some i:=by
       obtain⟨hi1,rfl⟩:=gSi.1 hc;exact zAU.2 ⟨hi1,by rw[←hr];exact h1,λj hj=>by rw[hno j _ hj (gGe (by omega))];simp⟩
      have:=hR w1 (e02.trans ew1);rw[hok,hf]at this;exact this
     ·exact arN (m:=i+1) (by omega) (by omega) ⟨⟨i+1,rfl,by omega,ew1,λj d hj hd=>by
       by_cases e:j=i
       ·subst e;rw[hc]at hd;cases hd;rw[←hr];exact h0
       ·exact hno j d (by omega) hd⟩,by omega⟩
    refine hbw.rI rfl (hs1.rI0 rfl ?_);refine Kc (λr w=>w=w1/\r=(decide (size<=(c.size:Int))&&((c.size:Int)%align==0))) (λr w ⟨hw,hr⟩=>by subst hw;exact go r hr) λJ hJ=>?_;refine ifD (λhge=>hbw.rI rfl (hs2.rI0 rfl (nz (by omega) (hJ _ _ ⟨rfl,?_⟩)))) λhlt2=>hJ _ _ ⟨rfl,?_⟩
    ·rw[Qw (by omega),zQ (by omega:size<=(c.size:Int)),zDS]
    ·rw[zT (by omega),zDO]
   ·have hf:clsV (xs.map YC) size align=none:=by
     unfold clsV;rw[zCP];intro c hc;obtain⟨j,hj⟩:=zL hc;have:=(gSi.1 hj).1;simp at this;exact hno j c (by omega) hj
    have:=hR w (e02.trans ew);rw[hok,hf]at this;exact ifDT (by decide) this
 refine Wkm (λr w=>w=v2/\r = !Z7 size align) (λr w ⟨hw,hr⟩=>by subst hw;exact key r hr) λJ hJ=>?_;have rd1:∀m,m=v2->cell m ⟨σ.size,0,none⟩=some (.int .i64 size):=λm hm=>by rw[hm,hb2.cell];rfl
 have rd2:∀m,m=v2->cell m ⟨v.size,0,none⟩=some (.int .i64 align):=λm hm=>by rw[hm,hb12.cell];rfl
 refine⟨λm=>m=v2,rfl,⟨size,rd1,?_⟩⟩;refine ifD (λh1=>hJ _ _ ⟨rfl,?_⟩) λh1=>⟨align,rd2,ifD (λh2=>hJ _ _ ⟨rfl,?_⟩) λh2=>⟨align,rd2,ifD (λh3=>hJ _ _ ⟨rfl,?_⟩) λh3=>⟨align,rd2,⟨align,rd2,?_⟩⟩⟩⟩
 ·simp only[Z7,zT (by omega:¬1<=size),zDO,zEX]
 ·simp only[Z7,zT (by omega:¬1<=align),zDO,zCU,zEX]
 ·simp only[Z7,zT (by omega:¬align<=256),zDO,zCU,zEX]
 ·refine Whw align (by omega) (by omega) λp hp=>⟨rfl,hJ _ _ ⟨rfl,?_⟩⟩;rw[hp];simp only[Z7,zQ (by omega:1<=size),zQ (by omega:1<=align),zQ (by omega:align<=256),zDS]
end Go.Ar
namespace Go.Ar
open Go Go.Vc Go.Proofs
variable {σ u u':Hp}{F B P Q:Rg}{L:LayH}{H H':Hw}{t k n pb:Nat}{A:AR}{Y:Lay}{x:LayT}{g:Th}{c:Cls}{l:Li}{cs:List Value}
def clsT (c:Cls):Int×Int×Int:=((c.size:Int),(c.pages:Int),(c.batch:Int))
theorem Wh8 (tb:List Cls):(tb.map clsT).map YC=tb:=by
 rw[zAJ]
 conv=>rhs;rw[←zDX tb]
 apply zy;intro c _;rfl
theorem He {s:Sl}{tb:List Cls}(h:SlR s 3 (tabV tb) σ F):Acts σ s (tb.map clsT):=by
 have hl:=h.1;rw[QE]at hl;refine⟨by simp;omega,λi x y z hx=>?_⟩;rw[za,zBW]at hx;obtain⟨c,hc,he⟩:=hx;obtain⟨g1,g2,g3⟩:=VX hc;simp only[clsT,Prod.mk.injEq]at he;obtain⟨rfl,rfl,rfl⟩:=he;obtain⟨b,o,ha,h0⟩:=h.cell g1;obtain⟨b',o',ha',h1⟩:=h.cell g2;rw[ha]at ha';cases ha';obtain⟨b',o',ha',h2⟩:=h.cell g3;rw[ha]at ha';cases ha';exact⟨b,o,ha,ZB h0,by rw[show o+i*3=o+3*i by omega];exact h0,by rw[show o+i*3+1=o+(3*i+1) by omega];exact h1,by rw[show o+i*3+2=o+(3*i+2) by omega];exact h2⟩
def TbOk (tb:List Cls):Prop:=Zm (tb.map clsT)=true
def reqH (tb:List Cls)(kind size align addr:Int):Option Ph:=
 if kind=0 then(if 1<=size/\size<=16384 then(if Z7 size align then(match clsV tb size align with
  | some k=>some (.take k)
  | none=>some (.large ((size+255).toNat/256)))else none)else none)
 else if kind=1 then some (.find addr)else if kind=2 then some .drain else none
theorem WcG (h:HH σ F L H)(hv:TbOk H.tb)(kind size align addr:Int){R:Value->Hp->Prop}(hR:∀σ',Ext0 σ σ'->R (phV (reqH H.tb kind size align addr)) σ'):X5.c (some ⟨L.p,0,none⟩) kind size align addr σ R:=by
 refine X5.o ?_;unfold X5.v;refine nw (cs:=[.int .i64 kind,.int .i64 size,.int .i64 align,.int .i64 addr]) λv hz e hb=>hb.rI rfl ?_;have h':=h.keep0 e;have hR0:=hR v e;refine iff_ (λhk=>?_) λhk=>?_
 ·have hk':kind=0:=by simpa using hk
  have hq:reqH H.tb kind size align addr=(if 1<=size/\size<=16384 then(if Z7 size align then(match clsV H.tb size align with
   | some k=>some (.take k)
   | none=>some (.large ((size+255).toNat/256)))else none)else none):=by unfold reqH;rw[zB hk']
  rw[hq]at hR hR0;refine hb.rI rfl (Kc (λr w=>w=v/\r = !decide (1<=size/\size<=16384)) (λr w ⟨hw,hr⟩=>?_) λJ hJ=>?_)
  ·subst hw;by_cases hs:1<=size/\size<=16384
   ·rw[zB hs]at hR;rw[zQ hs]at hr;refine ifF (by rw[hr];rfl) ⟨λm=>m=w,rfl,nilP ⟨L.tab,λm hm=>by rw[hm,add_lit,h'.hd.cell];rfl,⟨size,λm hm=>by rw[hm,add_lit,hb.cell];rfl,⟨align,λm hm=>by rw[hm,add_lit,hb.cell];rfl,?_⟩⟩⟩⟩;refine WdO (He h'.tabS) hv size align λv2 e2=>?_;rw[Wh8];have hb2:=e2.blk hb id;have hR2:=hR v2 (e.trans e2);cases hok:Z7 size align with
    | false=>
     rw[hok]at hR2;exact ifF rfl (ifF rfl hR2)
    | true=>
     rw[hok]at hR2;simp only[zP]at hR2 ⊢;cases hcl:clsV H.tb size align with
     | some k=>rw[hcl]at hR2;exact ifT rfl hR2
     | none=>
      rw[hcl]at hR2;refine ifF rfl (ifT rfl (hb2.rI rfl (ar (by omega) (by omega) (ar (by omega) (by omega) (nz (by decide) (ar (by rw[YQ (by omega)];omega) (by rw[YQ (by omega)];omega) ?_))))));rw[YQ (by omega)];have:(size+256-1)/256=(((size+255).toNat/256:Nat):Int):=by omega
      rw[this];exact hR2
   ·rw[zA hs]at hR0;rw[zT hs]at hr;exact ifT (by rw[hr];rfl) hR0
  ·refine ifD (λh1=>hJ _ _ ⟨rfl,?_⟩) λh1=>hb.rI rfl (hJ _ _ ⟨rfl,?_⟩)
   ·rw[zT (by omega)];rfl
   ·by_cases h2:size>16384
    ·rw[zQ h2,zT (by omega)];rfl
    ·rw[zT h2,zQ (by omega)];rfl
 ·have hk':kind≠0:=by simpa using hk
  refine iff_ (λhk1=>hb.rI rfl ?_) λhk1=>?_
  ·have hk1':kind=1:=by simpa using hk1
   unfold reqH at hR0;rw[zA hk',zB hk1']at hR0;exact hR0
  ·have hk1':kind≠1:=by simpa using hk1
   refine iff_ (λhk2=>?_) λhk2=>?_
   ·have hk2':kind=2:=by simpa using hk2
    unfold reqH at hR0;rw[zA hk',zA hk1',zB hk2']at hR0;exact hR0
   ·have hk2':kind≠2:=by simpa using hk2
    unfold reqH at hR0;rw[zA hk',zA hk1',zA hk2']at hR0;exact hR0
def QL (H:Hw)(thread kind size align addr:Int):Int ⊕ (Nat×Ph):=
 if 0<=thread/\thread<(H.ths.length:Int)then(match H.ths[thread.toNat]? with
  | some g=>(if g.ph=none then(match reqH H.tb kind size align addr with
   | some p=>.inr (thread.toNat,p)
   | none=>.inl 1)else .inl 5)
  | none=>.inl 1)else .inl 1
theorem Wgg (h:HH σ F L H)(hv:TbOk H.tb)(thread kind size align addr:Int){R:Int->Hp->Prop}(h0:∀e,QL H thread kind size align addr=.inl e->e≠0->∀σ',Ext F σ σ'->HH σ' (Grow F σ) L H->R e σ')
 (h1:∀t p,QL H thread kind size align addr=.inr (t,p)->thread=(t:Int)->t<H.ths.length->∀σ',Ext F σ σ'->HH σ' (Grow F σ) L (setPh H t (some p))->R 0 σ'):YH.c (some ⟨L.p,0,none⟩) thread kind size align addr σ R:=by
 refine YH.o ?_;unfold YH.v;refine nw (cs:=[.int .i64 kind,.int .i64 size,.int .i64 align,.int .i64 addr]) λv hz e hb=>?_;have K1:=(HK.start h).box e hz;refine Vy K1.h (ifF rfl (Wbo K1.h thread ?_));by_cases hth:0<=thread/\thread<(H.ths.length:Int)
 ·obtain⟨t,rfl⟩:∃t:Nat,thread=(t:Int):=⟨thread.toNat,by omega⟩;have ht:t<H.ths.length:=by omega
  obtain⟨x,g,hx,hg⟩:=h.th ht;have hst:QL H (t:Int) kind size align addr=(if g.ph=none then(match reqH H.tb kind size align addr with
   | some p=>.inr (t,p)
   | none=>.inl 1)else .inl 5):=by
   unfold QL;rw[zB hth,iTn,hg]
  refine ifF (by rw[zQ hth];rfl) (nilP (K1.h.hd.rS rfl (K1.h.tR hx hg ⟨WbM _,?_⟩)));cases hp:g.ph with
  | some p=>
   rw[hp,zA (by simp)]at hst;exact ifT (by rw[WaQ];rfl) (h0 5 hst (by decide) v K1.e (K1.fin h))
  | none=>
   rw[hp,zB rfl]at hst;refine ifF rfl (hb.rI rfl (hb.rI rfl (hb.rI rfl (hb.rI rfl (WcG K1.h hv kind size align addr λv3 e3=>⟨WbM _,?_⟩)))));have K3:=K1.fr e3;rw[WaQ];cases hq:reqH H.tb kind size align addr with
   | none=>
    rw[hq]at hst;exact ifT rfl (h0 1 hst (by decide) v3 K3.e (K3.fin h))
   | some p=>
    rw[hq]at hst;refine ifF rfl (nilP (K3.h.hd.rS rfl (K3.h.stepP hx hg (some p) λv4 e4 h4=>?_)));have K4:=K3.to e4 h4 λb _ hb=>.inl hb;have e5:setPh H t (some p) = {H with ths:=H.ths.set t {g with ph:=some p}}:=Ze hg _;rw[←e5]at K4;exact h1 t p hst rfl ht v4 K4.e (K4.fin h)
 ·have hst:QL H thread kind size align addr=.inl 1:=by unfold QL;rw[zA hth]
  exact ifT (by rw[zT hth];rfl) (h0 1 hst (by decide) v K1.e (K1.fin h))
theorem WgX {p:Option Ph}(ht:t<H.ths.length):∃g,(setPh H t p).ths[t]?=some g/\g.ph=p:=
 ⟨{H.ths[t]with ph:=p},by simp[setPh,Hw.setT,zCQ,gGe ht],rfl⟩
theorem WbN (hso:Gi)(h:HH σ F L H)(hv:TbOk H.tb)(thread kind size align addr:Int){R:Int->Int->Hp->Prop}(h0:∀e,QL H thread kind size align addr=.inl e->e≠0->∀σ',Ext F σ σ'->HH σ' (Grow F σ) L H->R 0 e σ')
 (h1:∀t p,QL H thread kind size align addr=.inr (t,p)->∃n H' a e,RunN n (setPh H t (some p)) t p H' a e/\∀σ' ts',Ext F σ σ'->HH σ' (Grow F σ) {L with ts:=ts'} H'->R a e σ'):Yi.c (some ⟨L.p,0,none⟩) thread kind size align addr σ R:=by
 refine Yi.o ?_;unfold Yi.v;refine nw (cs:=[.int .i64 kind,.int .i64 size,.int .i64 align,.int .i64 addr]) λv hz e hb=>hb.rI rfl (hb.rI rfl (hb.rI rfl (hb.rI rfl ?_)));have K1:=(HK.start h).box e hz;refine Wgg K1.h hv thread kind size align addr (λer he hne v1 e1 hh1=>?_) λt p hst hth ht v1 e1 hh1=>?_
 ·have K2:=K1.to e1 hh1 λb _ hb=>hb;exact ifT (by simpa using hne) (h0 er he hne v1 K2.e (K2.fin h))
 ·subst hth;have K2:=K1.to e1 hh1 λb _ hb=>hb;obtain⟨n,Hf,a,er,hrun,hfin⟩:=h1 t p hst;refine ifF rfl (Wls (λn w=>∃(B P:Rg) (ts:List LayT) (H:Hw) (p:Ph),HK F σ B w P {L with ts:=ts} H/\(∃g,H.ths[t]?=some g/\g.ph=some p)/\RunN n H t p Hf a er) ⟨n,_,_,L.ts,_,p,K2,WgX ht,hrun⟩ ?_);rintro n w ⟨B,P,ts,H2,p2,K,⟨g,hg,hgp⟩,hrun⟩ J hJ;have go:GL H2 t p2->((Wp H2 t p2).2.1.isNone=true->(Wp H2 t p2).2.2.1=a/\(Wp H2 t p2).2.2.2=er/\ZX H2 t p2=Hf)->((Wp H2 t p2).2.1.isNone=false->∃m p',m<n/\(Wp H2 t p2).2.1=some p'/\RunN m (ZX H2 t p2) t p' Hf a er)->YO.c (some ⟨L.p,0,none⟩) (t:Int) w λt22 t221 t222 t223 v3=>Nw (.cells #[.int .i64 0,.int .i64 0] 156 (0,0)) v3 λn10 v4=>St1 (n10.add 0) (.int .i64 t221) v4 λv5=>St1 (n10.add 1) (.int .i64 t222) v5 λv6=>If t22 (LdI .i64 (n10.add 0) v6 λt28=>LdI .i64 (n10.add 1) v6 λt30=>R t28 t30 v6) (J v6):=by
   intro hok hd hn;refine Wid hso K.h hg hgp hok λv3 ts3 e3 hh3=>?_;have K3:=K.to e3 hh3 λb _ hb=>hb;refine nw (cs:=[.int .i64 0,.int .i64 0]) λv4 hz4 e4 hb4=>?_;have K4:=K3.box e4 hz4;refine hb4.s1 (by simp) λv5 o5 b5=>b5.s1 (by simp) λv6 o6 b6=>?_;have K6:=(K4.own o5 (.inr rfl)).own o6 (.inr rfl);refine iff_ (λht1=>?_) λhf1=>?_
   ·obtain⟨q1,q2,q3⟩:=hd ht1;rw[q3]at K6;refine b6.rI rfl (b6.rI rfl ?_);rw[q1,q2];exact hfin v6 ts3 K6.e (K6.fin h)
   ·obtain⟨m,p',hm,hp',hr'⟩:=hn hf1;have htl:t<H2.ths.length:=(gSi.1 hg).1;obtain⟨g',hg',hgp'⟩:=Wds (p:=p2) htl;exact hJ m v6 hm ⟨_,_,ts3,_,p',K6,⟨g',hg',by rw[hgp',hp']⟩,hr'⟩
  cases hrun with
  | done hok hnone=>exact go hok (λ_=>⟨rfl,rfl,rfl⟩) λhf=>by rw[hnone]at hf;cases hf
  | next hok hsome hrun'=>exact go hok (λhf=>by rw[hsome]at hf;cases hf) λ_=>⟨_,_,Nat.lt_succ_self _,hsome,hrun'⟩
end Go.Ar
namespace Go.Ar
open Go Go.Vc Go.Proofs
variable {σ u w w':Hp}{F B P Q:Rg}{n:Nat}{cs:List Value}{tb:List Cls}{cf:Cf}
def KY (tb:List Cls)(cf:Cf):Hw:=⟨tb,cf,Kw cf.pages,List.replicate cf.arenas (newA cf.pages cf.room tb),List.replicate cf.threads ⟨List.replicate tb.length liN,[],none⟩,[]⟩
def WbV (p a t b r:Int):Bool:=decide (32<=p)&&decide (p<=1024)&&(p%16==0)&&decide (1<=a)&&decide (a<=4)&&decide (1<=t)&&decide (t<=4)&&decide (0<=b)&&decide (b<=65536)&&decide (0<=r)&&decide (r<=8)
theorem lvl {K:Bool->Hp->Prop}{r:Bool}{a:Addr}{x:Int}{k:IntKind}{f:Int->Bool}(hl:∀{K':Int->Prop},K' x->LdI k a w K')(h:K (r&&f x) w):JnB K λJ=>If r (LdI k a w λt=>J (f t) w) (J false w):=
 JnB.intro (iff_ (λhr=>hl (by rw[hr]at h;exact h)) λhr=>by rw[hr]at h;exact h)
theorem WeF (p a t b r:Int){R:Bool->Hp->Prop}(hR:∀σ',Ext0 σ σ'->R (WbV p a t b r) σ'):ZR.c p a t b r σ R:=by
 refine ZR.o ?_;unfold ZR.v;refine nw (cs:=[.int .i64 p,.int .i64 a,.int .i64 t,.int .i64 b,.int .i64 r]) λv hz e hb=>hb.rI rfl ?_;have hfin:=hR v e;unfold WbV at hfin;refine Kc (λr' w=>w=v/\r'=(decide (32<=p)&&decide (p<=1024))) (λr' w ⟨hw,hr⟩=>?_) λJ hJ=>?_
 ·subst hw;subst hr;refine Kc (λr' w2=>w2=w/\r'=(decide (32<=p)&&decide (p<=1024)&&(p%16==0))) (λr' w2 ⟨hw,hr⟩=>?_) λJ hJ=>?_
  ·rw[hw];subst hr;exact lvl (λhK=>hb.rI rfl hK) (lvl (λhK=>hb.rI rfl hK) (lvl (λhK=>hb.rI rfl hK) (lvl (λhK=>hb.rI rfl hK) (lvl (λhK=>hb.rI rfl hK) (lvl (λhK=>hb.rI rfl hK) (lvl (λhK=>hb.rI rfl hK) (lvl (λhK=>hb.rI rfl hK) hfin)))))))
  ·refine iff_ (λh1=>hb.rI rfl (nz (by decide) (hJ _ _ ⟨rfl,?_⟩))) λh0=>hJ _ _ ⟨rfl,?_⟩
   ·simp only[zF,zN]at h1;rw[Qw (by omega),zQ h1.1,zQ h1.2];rfl
   ·rw[h0];rfl
 ·refine ifD (λh1=>hb.rI rfl (hJ _ _ ⟨rfl,?_⟩)) λh0=>hJ _ _ ⟨rfl,?_⟩
  ·rw[zQ (by omega:32<=p)];rfl
  ·rw[zT (by omega)];rfl
structure NwS where
 p:Nat
 tab:Sl
 lm:Nat
 hs:Option Nat
 hp:Option Nat
 aw:Sl
 al:List Nat
 ha:Sl
 tw:Sl
 tl:List Value
 ht:Sl
 ys:List Lay
 cs:List LayC
def hdW (cf:Cf)(N:NwS):List Value:=[.slice N.tab.a N.tab.len N.tab.cap,.int .i64 (cf.pages:Int),.int .i64 (cf.arenas:Int),.int .i64 (cf.threads:Int),.int .i64 (cf.budget:Int),.int .i64 (cf.room:Int),
 .pointer (N.hp.map λq=>⟨q,0,none⟩),.slice N.ha.a N.ha.len N.ha.cap,.slice N.ht.a N.ht.len N.ht.cap,.map (some N.lm)]
def ArN (n room:Nat)(tb:List Cls)(y:Option Lay):Hp->Rg->Prop:=λσ F=>match y with
 | some Y=>AHY σ F Y (newA n room tb) (traT (newA n room tb) Y)
 | none=>True
def CaN (tb:List Cls)(bud:Nat)(y:Option LayC):Hp->Rg->Prop:=λσ F=>match y with
 | some Y=>CaY σ F Y tb bud (List.replicate tb.length liN)
 | none=>True
def SpN (n:Nat)(q:Option Nat):Hp->Rg->Prop:=λσ F=>match q with
 | some q=>SpH3 σ F q (Kw n)
 | none=>True
def CNW (tb:List Cls)(cf:Cf)(N:NwS):LbH->Hp->Rg->Prop
 | .hd=>BlkR N.p (hdW cf N)
 | .tab=>SlR N.tab 3 (tabV tb)
 | .sp=>SpN cf.pages N.hs
 | .arow=>RowR N.aw 1 (ptrV N.al)
 | .trow=>RowR N.tw 3 N.tl
 | .live=>MapR N.lm .i64 (.ag 4) []
 | .ar k=>ArN cf.pages cf.room tb N.ys[k]?
 | .ca k=>CaN tb cf.budget N.cs[k]?
 | .hn _=>λ_ _=>True
theorem ArN.loc (n room:Nat)(tb:List Cls)(y:Option Lay):Lcl (ArN n room tb y):=by
 intro σ σ' F G h hz hs;cases y with
 | some Y=>exact AHY.loc _ _ _ _ h hz hs
 | none=>trivial
theorem CaN.loc (tb:List Cls)(bud:Nat)(y:Option LayC):Lcl (CaN tb bud y):=by
 intro σ σ' F G h hz hs;cases y with
 | some Y=>exact CaY.loc _ _ _ _ h hz hs
 | none=>trivial
theorem SpN.loc (n:Nat)(q:Option Nat):Lcl (SpN n q):=by
 intro σ σ' F G h hz hs;cases q with
 | some q=>exact SpH3.loc _ _ _ _ h hz hs
 | none=>trivial
theorem CNW.loc {N:NwS}:∀i,Lcl (CNW tb cf N i)
 | .hd=>BlkR.loc _ _
 | .tab=>SlR.loc _ _ _
 | .sp=>SpN.loc _ _
 | .arow=>RowR.loc _ _ _
 | .trow=>RowR.loc _ _ _
 | .live=>MapR.loc _ _ _ _
 | .ar k=>ArN.loc _ _ _ _
 | .ca k=>CaN.loc _ _ _
 | .hn _=>λ_ _ _ _ _ _ _=>trivial
structure NK (σ:Hp) (B:Rg) (w:Hp) (P:Rg) (tb:List Cls) (cf:Cf) (N:NwS):Prop where
 sep:Sep (CNW tb cf N) w P
 e:Ext0 σ w
 p:∀b,P b->σ.size<=b/\¬B b/\b<w.size
 b:∀b,B b->σ.size<=b/\b<w.size
variable {N N':NwS}
theorem NK.fr (K:NK σ B w P tb cf N)(e:Ext0 w w'):NK σ B w' P tb cf N:=
 ⟨(Sep.loc CNW.loc).keep0 K.sep e,K.e.trans e,λb hb=>⟨(K.p b hb).1,(K.p b hb).2.1,by have:=(K.p b hb).2.2;have:=e.1;omega⟩,λb hb=>by have:=K.b b hb;have:=e.1;omega⟩
theorem NK.box (K:NK σ B w P tb cf N)(e:Ext0 w w')(hz:w'.size=w.size+1):NK σ (λb=>B b\/b=w.size) w' P tb cf N:=by
 have h:=K.fr e;have hs:=K.e.1;exact⟨h.sep,h.e,λb hb=>⟨(K.p b hb).1,λhx=>hx.elim (K.p b hb).2.1 λhy=>by have:=(K.p b hb).2.2;omega,(h.p b hb).2.2⟩,λb hb=>hb.elim (h.b b) λhy=>by omega⟩
theorem NK.drop (K:NK σ B w P tb cf N){B':Rg}(hb:∀b,B' b->B b):NK σ B' w P tb cf N:=⟨K.sep,K.e,λb h=>⟨(K.p b h).1,λhx=>(K.p b h).2.1 (hb b hx),(K.p b h).2.2⟩,λb h=>K.b b (hb b h)⟩
theorem NK.put (K:NK σ B w P tb cf N)(e:Ext0 w w')(i:LbH)(hj:∀j,j≠i->CNW tb cf N' j=CNW tb cf N j)(hi:CNW tb cf N' i w' (λb=>w.size<=b)):NK σ B w' (λb=>P b\/w.size<=b/\b<w'.size) tb cf N':=by
 have h:=K.fr e;have hs:=K.e.1;refine⟨h.sep.put CNW.loc i (G:=λb=>w.size<=b/\b<w'.size) (λb hb hp=>by have:=(K.p b hp).2.2;omega) hj ((CNW.loc i).mono hi λb hb hx=>⟨hx,hb⟩) (CNW.loc i),h.e,λb hb=>?_,h.b⟩;rcases hb with hb|hb
 ·exact h.p b hb
 ·exact⟨by omega,λhx=>by have:=(K.b b hx).2;omega,hb.2⟩
theorem NK.step (K:NK σ B w P tb cf N)(i:LbH):∃G:Rg,(∀b,G b->P b)/\CNW tb cf N i w G/\∀(w':Hp) (N':NwS) (G':Rg),(∀j,j≠i->CNW tb cf N' j=CNW tb cf N j)->Ext G w w'->(∀b,G' b->G b\/w.size<=b/\¬B b)->CNW tb cf N' i w' G'->(∀b,B b->b<w'.size) →
 NK σ B w' (λb=>(P b/\¬G b\/G' b)/\b<w'.size) tb cf N':=by
 obtain⟨G,hG,hi,_,hput⟩:=K.sep.stepD CNW.loc i;refine⟨G,hG,hi,λw' N' G' hj e hg h' hB=>⟨?_,?_,λb hb=>?_,λb hb=>⟨(K.b b hb).1,hB b hb⟩⟩⟩
 ·have:=hput w' (CNW tb cf N') G' hj e (λb hb=>(hg b hb).imp id λhx=>hx.1) h' (CNW.loc _);refine(Sep.loc CNW.loc).mono this λb hb hx=>⟨?_,hb⟩;exact hx.imp (λhx=>⟨hx.1,hx.2.2⟩) id
 ·exact Ext.newT K.e e λb hb=>.inr (K.p b (hG b hb)).1
 ·have hs:=K.e.1;rcases hb.1 with h1|h1
  ·exact⟨(K.p b h1.1).1,(K.p b h1.1).2.1,hb.2⟩
  ·rcases hg b h1 with h2|h2
   ·exact⟨(K.p b (hG b h2)).1,(K.p b (hG b h2)).2.1,hb.2⟩
   ·exact⟨by omega,h2.2,hb.2⟩
theorem jnPp {K:Fam [.p]}{body:Fam [.p]->Prop}(P:Option Addr->Hp->Prop)(h1:∀r w,P r w->K r w)(h2:∀J:Fam [.p],(∀r w,P r w->J r w)->body J):Jn [.p] K body:=Jn.intro (h2 K h1)
def nilS:Sl:=⟨none,0,0⟩
def tlv (cs:List LayC):List Value:=cs.flatMap λc=>[.pointer (some ⟨c.p,0,none⟩),.slice none 0 0,.nilIface]
def N0 (p:Nat)(tab:Sl)(lm:Nat):NwS:=⟨p,tab,lm,none,none,nilS,[],nilS,nilS,[],nilS,[],[]⟩
def NB (p:Nat)(tab:Sl)(lm q:Nat)(aw:Sl)(ys:List Lay)(tw:Sl)(cs:List LayC):NwS:=⟨p,tab,lm,some q,some q,aw,ys.map (·.p),aw,tw,tlv cs,tw,ys,cs⟩
theorem NK0 {p lm:Nat}{tab:Sl}{D:Rg}(e:Ext0 σ w)(hz:σ.size<w.size)(hp:Blk w p (hdW cf (N0 p tab lm)))(hm:MapL w lm .i64 (.ag 4) [])(ht:SlR tab 3 (tabV tb) w D)(hD:∀b,D b->σ.size<b/\b<w.size/\b≠p/\b≠lm)(hpl:p≠lm)(h1:σ.size<p)(h2:σ.size<lm) :
 NK σ (· = σ.size) w (λb=>D b\/b=p\/b=lm) tb cf (N0 p tab lm):=by
 have hpw:=hp.lt;have hlw:=hm.lt;refine⟨⟨λb=>if b=p then .hd else if b=lm then .live else .tab,λi=>?_⟩,e,λb hb=>?_,λb hb=>by omega⟩
 ·cases i with
  | hd=>exact⟨⟨.inr (.inl rfl),zB rfl⟩,hp⟩
  | live=>exact⟨⟨.inr (.inr rfl),by show(if lm=p then LbH.hd else if lm=lm then LbH.live else LbH.tab)=.live;rw[zA (Ne.symm hpl),zB rfl]⟩,hm⟩
  | tab=>exact(SlR.loc _ _ _).mono ht λb _ hb=>⟨.inl hb,by show(if b=p then LbH.hd else if b=lm then LbH.live else LbH.tab)=.tab;rw[zA (hD b hb).2.2.1,zA (hD b hb).2.2.2]⟩
  | sp=>trivial
  | arow=>exact RowR.nil _ _ _ _
  | trow=>exact RowR.nil _ _ _ _
  | ar k=>trivial
  | ca k=>trivial
  | hn k=>trivial
 ·rcases hb with hb|hb|hb
  ·have:=hD b hb;omega
  ·omega
  ·omega
theorem NK.hdB (K:NK σ B w P tb cf N):P N.p/\Blk w N.p (hdW cf N):=by
 obtain⟨G,hG,hb⟩:=K.sep.get .hd;exact⟨hG _ hb.1,hb.2⟩
theorem NK.hdr (K:NK σ B w P tb cf N)(N':NwS)(hN':∀j,j≠.hd->CNW tb cf N' j=CNW tb cf N j)(hp:N'.p=N.p){i:Nat}{v:Value}(hs:(hdW cf N).set i v=hdW cf N')(hi:i<10){Kk:Hp->Prop}(hK:∀w' P',NK σ B w' P' tb cf N'->ZY w w' N.p->Kk w'):St1 (Addr.add ⟨N.p,0,none⟩ i) v w Kk:=by
 obtain⟨G,hG,hb,hput⟩:=K.step .hd;have hb:BlkR N.p (hdW cf N) w G:=hb;refine hb.2.s1 (by simpa[hdW]using hi) λw' o b'=>hK w' _ (hput w' N' G hN' (o.ext.sub λx hx=>by rw[hx];exact hb.1) (λx hx=>.inl hx) ?_ λx hx=>by have:=(K.b x hx).2;have:=o.1;omega) o;show BlkR N'.p (hdW cf N') w' G;rw[zG,hs]at b';rw[hp];exact⟨hb.1,b'⟩
theorem Wlf {Y:Lay}(h:N'.ys=N.ys++[Y])(hr:∀j,(∀k,j≠.ar k)->CNW tb cf N' j=CNW tb cf N j):∀j,j≠LbH.ar N.ys.length->CNW tb cf N' j=CNW tb cf N j:=by
 intro j hj;cases j with
 | ar k=>
  have hk:k≠N.ys.length:=λe=>hj (by rw[e]);show ArN _ _ _ N'.ys[k]?=ArN _ _ _ N.ys[k]?;rw[h]
  congr 1
  rcases Nat.lt_or_gt_of_ne hk with h1|h1
  ·rw[zd h1]
  ·rw[zV (by simp;omega),zV (by omega)]
 | _=>exact hr _ (λk e=>by cases e)
theorem Wld {Y:LayC}(h:N'.cs=N.cs++[Y])(hr:∀j,(∀k,j≠.ca k)->CNW tb cf N' j=CNW tb cf N j):∀j,j≠LbH.ca N.cs.length->CNW tb cf N' j=CNW tb cf N j:=by
 intro j hj;cases j with
 | ca k=>
  have hk:k≠N.cs.length:=λe=>hj (by rw[e]);show CaN _ _ N'.cs[k]?=CaN _ _ N.cs[k]?;rw[h]
  congr 1
  rcases Nat.lt_or_gt_of_ne hk with h1|h1
  ·rw[zd h1]
  ·rw[zV (by simp;omega),zV (by omega)]
 | _=>exact hr _ (λk e=>by cases e)
end Go.Ar
namespace Go.Ar
open Go Go.Vc Go.Proofs
variable {σ u w w':Hp}{F B P Q:Rg}{n:Nat}{cs:List Value}{tb:List Cls}{cf:Cf}{N:NwS}
theorem WbZ (p a t b r:Int):WbV p a t b r=true↔(32<=p/\p<=1024/\p%16=0)/\(1<=a/\a<=4)/\(1<=t/\t<=4)/\(0<=b/\b<=65536)/\0<=r/\r<=8:=by
 simp only[WbV,zF,zN,zS];omega
theorem WkM (g:Gl σ)(gd:Gd σ):Off (λb=>σ.size<=b)/\¬(σ.size<=1):=by
 refine⟨?_,λh=>by have:=Wgb gd;omega⟩;have h0:Off (λ_=>False):=λb hb=>hb.elim;exact(h0.grow g).sub λb hb=>.inr hb
theorem WjV (cs:List LayC)(ls:List Li):trV (cs.map λc=>⟨c,nilS⟩) (List.replicate cs.length ⟨ls,[],none⟩)=tlv cs:=by
 induction cs with
 | nil=>rfl
 | cons c cs ih=>
  have e1:trV ((c::cs).map λc=>(⟨c,nilS⟩:LayT)) (List.replicate (c::cs).length ⟨ls,[],none⟩)=thV (⟨c,nilS⟩,⟨ls,[],none⟩)++trV (cs.map λc=>(⟨c,nilS⟩:LayT)) (List.replicate cs.length ⟨ls,[],none⟩):=rfl;rw[e1,ih];rfl
theorem WjU (cs:List LayC):(tlv cs).length=cs.length*3:=by
 induction cs with
 | nil=>rfl
 | cons c cs ih=>simp only[tlv,zBN,zJ,zU,zAH]at *;omega
set_option maxRecDepth 8000 in
theorem Wkx {s:Sl}{xs:List (Int×Int×Int)}(ha:Acts σ s xs)(g:Gl σ)(gd:Gd σ)(p a t b r:Int){R:Option Addr->Int->Hp->Prop}
 (h2:Zm xs=false->∀σ',Ext0 σ σ'->R none 2 σ')
 (h1:Zm xs=true->WbV p a t b r=false->∀σ',Ext0 σ σ'->R none 1 σ')
 (h0:Zm xs=true->WbV p a t b r=true->∀σ' L,Ext0 σ σ'->HH σ' (λq=>σ.size<=q) L (KY (xs.map YC) ⟨p.toNat,a.toNat,t.toNat,b.toNat,r.toNat⟩)->R (some ⟨L.p,0,none⟩) 0 σ') :
 QB.c s p a t b r σ R:=by
 refine QB.o ?_;unfold QB.v;refine nw (cs:=[.int .i64 p,.int .i64 a,.int .i64 t,.int .i64 b,.int .i64 r]) λv hz e hb=>?_;refine V4 (Xb ha e) λv1 e1=>?_;cases hv:Zm xs with
 | false=>exact ifT rfl (h2 hv v1 (e.trans e1))
 | true=>
 have hb1:=e1.blk hb id;refine ifF rfl (hb1.rI rfl (hb1.rI rfl (hb1.rI rfl (hb1.rI rfl (hb1.rI rfl (WeF p a t b r λv2 e2=>?_))))));have e02:=(e.trans e1).trans e2;cases hc:WbV p a t b r with
 | false=>exact ifT rfl (h1 hv hc v2 e02)
 | true=>
 have hcf:=(WbZ p a t b r).1 hc;obtain⟨p,rfl⟩:∃n:Nat,p=(n:Int):=⟨p.toNat,by omega⟩;obtain⟨a,rfl⟩:∃n:Nat,a=(n:Int):=⟨a.toNat,by omega⟩;obtain⟨t,rfl⟩:∃n:Nat,t=(n:Int):=⟨t.toNat,by omega⟩;obtain⟨b,rfl⟩:∃n:Nat,b=(n:Int):=⟨b.toNat,by omega⟩;obtain⟨r,rfl⟩:∃n:Nat,r=(n:Int):=⟨r.toNat,by omega⟩;simp only[iTn]at h0;have h0:=h0 hv hc;have hb2:=e2.blk hb1 id;have hxl:=(Zi xs).1 hv;have hz2:=e02.1;have hz02:σ.size<v2.size:=hb2.lt;generalize hcfd:(⟨p,a,t,b,r⟩:Cf)=cf at h0;generalize htbd:xs.map YC=tb at h0;have hdE:∀(q:Nat) (tab:Sl) (lm:Nat),hdW cf (N0 q tab lm)=[.slice tab.a tab.len tab.cap,.int .i64 (p:Int),.int .i64 (a:Int),.int .i64 (t:Int),.int .i64 (b:Int),.int .i64 (r:Int),.pointer none,.slice none 0 0,.slice none 0 0,.map (some lm)]:=λq tab lm=>by rw[←hcfd];rfl
 refine ifF rfl (jnPp (λvh w=>∃P q tab lm,vh=some ⟨q,0,none⟩/\NK σ (· = σ.size) w P tb cf (N0 q tab lm)/\Blk w σ.size [.int .i64 (p:Int),.int .i64 (a:Int),.int .i64 (t:Int),.int .i64 (b:Int),.int .i64 (r:Int)]) (λvh w ⟨P,q,tab,lm,hvh,K,hbw⟩=>?_) λJ hJ=>?_)
 ·subst hvh;refine hbw.rI rfl (Wgt (n:=p) (by omega) (by omega) λv4 sp e4 _ hS=>?_);have hp:cf.pages=p:=by rw[←hcfd]
  have hroom:cf.room=r:=by rw[←hcfd]
  have hbud:cf.budget=b:=by rw[←hcfd]
  have K1:NK σ (· = σ.size) v4 _ tb cf {N0 q tab lm with hs:=some sp}:=K.put e4 .sp (λj hj=>by cases j<;>first|rfl|exact absurd rfl hj) (by
   show SpH3 v4 _ sp (Kw cf.pages);rw[hp];exact hS)
  have hbw4:=e4.blk hbw id;refine nilP (K1.hdr (NB q tab lm sp nilS [] nilS []) (λj hj=>by cases j<;>first|rfl|exact absurd rfl hj) rfl (i:=6) rfl (by omega) λv5 P5 K5 o5=>?_)
  have hnep:∀{w:Hp} {P:Rg} {N:NwS},NK σ (· = σ.size) w P tb cf N->σ.size≠N.p:=λK e=>(K.p _ K.hdB.1).2.1 e.symm;have hbw5:=Wr o5 hbw4 (hnep K1);refine hbw5.rI rfl ?_;refine Zw (a:=.i .i64) (λ(z:Int) w=>∃(P:Rg) (aw:Sl) (ys:List Lay),z=(ys.length:Int)/\ys.length<=a/\(∀Y∈ys,Y.hs=sp)/\NK σ (· = σ.size) w P tb cf (NB q tab lm sp aw ys nilS [])/\Blk w σ.size [.int .i64 (p:Int),.int .i64 (a:Int),.int .i64 (t:Int),.int .i64 (b:Int),.int .i64 (r:Int)]) (λz _=>a-z.toNat) ⟨P5,nilS,[],rfl,by simp,by simp,K5,hbw5⟩ ?_;rintro(z:Int) w6 ⟨P6,aw,ys,rfl,hyl,hys,K6,hbw6⟩;refine ifD (λhlt=>?_) λhge=>?_
  ·refine⟨λu=>u=w6,rfl,nilP ⟨some ⟨sp,0,none⟩,λu hu=>by cases hu;rw[add_lit];exact(Blk.cell (b:=q) K6.hdB.2).trans rfl,⟨(r:Int),λu hu=>by cases hu;rw[add_lit,hbw6.cell];rfl,?_⟩⟩⟩;obtain⟨GS,hGS,hSp⟩:=K6.sep.get .sp;have hSp:SpH3 w6 GS sp (Kw cf.pages):=hSp;have hnl:(Kw cf.pages).st.length=p:=by rw[hp];simp[Kw]
   have hnE:newE xs (Kw cf.pages).st.length (r:Int)=0:=by
    unfold newE;rw[zB hv,hnl,zB (by omega)]
   refine Wi4 (Xb ha K6.e) hSp (r:Int) (λhne=>absurd hnE hne) λ_ v7 Y e7 hYh hA=>?_;rw[hnl,iTn,htbd]at hA;have K7:NK σ (· = σ.size) v7 _ tb cf {NB q tab lm sp aw ys nilS []with ys:=ys++[Y]}:=K6.put e7 (.ar ys.length) (Wlf (N:=NB q tab lm sp aw ys nilS []) rfl (λj hj=>by
    cases j with
    | ar k=>exact absurd rfl (hj k)
    | _=>rfl)) (by
    show ArN cf.pages cf.room tb (ys++[Y])[ys.length]? v7 _;rw[zk (zD _),zCD,hp,hroom];exact hA)
   have hbw7:=e7.blk hbw6 id;refine nilP (K7.hdB.2.rS (a:=aw.a) (n:=aw.len) (c:=aw.cap) rfl (nw (cs:=[.pointer (some ⟨Y.p,0,none⟩)]) λv8 hz8 e8 hb8=>?_));have K8:=K7.box e8 hz8;obtain⟨G,hG,hrow,hput⟩:=K8.step .arow;have hrow:RowR aw 1 (ptrV (ys.map (·.p))) v8 G:=hrow;have hal:aw.len=ys.length:=by have:=hrow.1;simp[ptrV]at this;omega
   refine hrow.app (ys:=[.pointer (some ⟨Y.p,0,none⟩)]) rfl rfl ?_ (by simp[one1]) ?_ ?_ zBA λs' v9 _ e9 hr9=>?_
   ·intro j u hu;rw[add_lit,zG,hb8.cell];exact hu
   ·simp only;omega
   ·simp only;omega
   have hz9:=e9.1;have hbw9:Blk v9 σ.size _:=e9.blk (e8.blk hbw7 id) λhx=>(K8.p _ (hG _ hx)).2.1 (.inl rfl);have K9:=(hput v9 {NB q tab lm sp aw ys nilS []with ys:=ys++[Y],aw:=s',al:=(ys++[Y]).map (·.p)} (λb=>Grow G v8 b/\b<v9.size) (λj hj=>by cases j<;>first|rfl|exact absurd rfl hj) e9 (λb hb=>hb.1.imp id λhx=>⟨hx,λhB=>by have:=(K8.b b hB).2;omega⟩) (by
    show RowR s' 1 (ptrV ((ys++[Y]).map (·.p))) v9 _;have:ptrV ((ys++[Y]).map (·.p))=ptrV (ys.map (·.p))++[.pointer (some ⟨Y.p,0,none⟩)]:=by simp[ptrV]
    rw[this];exact(RowR.loc _ _ _).mono hr9 λb hb hx=>⟨hx,hb⟩) λb hB=>by have:=(K8.b b hB).2;omega).drop (B':=(· = σ.size)) λb hb=>.inl hb
   refine nilP (K9.hdr (NB q tab lm sp s' (ys++[Y]) nilS []) (λj hj=>by cases j<;>first|rfl|exact absurd rfl hj) rfl (i:=7) rfl (by omega) λv10 P10 K10 o10=>?_)
   have hbw10:=Wr o10 hbw9 (hnep K9);exact arN (m:=ys.length+1) (by omega) (by omega) ⟨⟨P10,s',ys++[Y],by simp,by simp;omega,λZ hZ=>(zM.1 hZ).elim (hys Z) λh=>by
    rw[zR]at h;rw[h];exact hYh,K10,hbw10⟩,by omega⟩
  ·have hya:ys.length=a:=by omega
   refine hbw6.rI rfl ?_;refine Zw (a:=.i .i64) (λ(z:Int) w=>∃(P:Rg) (tw:Sl) (cs:List LayC),z=(cs.length:Int)/\cs.length<=t/\NK σ (· = σ.size) w P tb cf (NB q tab lm sp aw ys tw cs)/\Blk w σ.size [.int .i64 (p:Int),.int .i64 (a:Int),.int .i64 (t:Int),.int .i64 (b:Int),.int .i64 (r:Int)]) (λz _=>t-z.toNat) ⟨P6,nilS,[],rfl,by simp,K6,hbw6⟩ ?_;rintro(z:Int) w7 ⟨P7,tw,cs,rfl,hcsl,K7,hbw7⟩;refine ifD (λhlt=>?_) λhge2=>?_
   ·refine hbw7.rI rfl (WjL (Xb ha K7.e) (b:Int) (λhvf=>by rw[hv]at hvf;cases hvf) (λ_ hn=>absurd ⟨by omega,by omega⟩ hn) λ_ _ _ v8 Y e8 hC=>?_);rw[iTn,htbd]at hC;have K8:NK σ (· = σ.size) v8 _ tb cf {NB q tab lm sp aw ys tw cs with cs:=cs++[Y]}:=K7.put e8 (.ca cs.length) (Wld (N:=NB q tab lm sp aw ys tw cs) rfl (λj hj=>by
     cases j with
     | ca k=>exact absurd rfl (hj k)
     | _=>rfl)) (by
     show CaN tb cf.budget (cs++[Y])[cs.length]? v8 _;rw[zk (zD _),zCD,hbud];exact hC)
    have hbw8:=e8.blk hbw7 id;refine nilP (K8.hdB.2.rS (a:=tw.a) (n:=tw.len) (c:=tw.cap) rfl (nw (cs:=[.pointer (some ⟨Y.p,0,none⟩),.slice none 0 0,.nilIface]) λv9 hz9 e9 hb9=>?_));have K9:=K8.box e9 hz9;obtain⟨G,hG,hrow,hput⟩:=K9.step .trow;have hrow:RowR tw 3 (tlv cs) v9 G:=hrow;have hal:tw.len=cs.length:=by have:=hrow.1;rw[WjU]at this;omega
    refine hrow.app (ys:=[.pointer (some ⟨Y.p,0,none⟩),.slice none 0 0,.nilIface]) rfl rfl ?_ (by simp[one1]) ?_ ?_ zBA λs' v10 _ e10 hr10=>?_
    ·intro j u hu;rw[add_lit,zG,hb9.cell];exact hu
    ·simp only;omega
    ·simp only;omega
    have hz10:=e10.1;have hbw10:Blk v10 σ.size _:=e10.blk (e9.blk hbw8 id) λhx=>(K9.p _ (hG _ hx)).2.1 (.inl rfl);have K10:=(hput v10 {NB q tab lm sp aw ys tw cs with cs:=cs++[Y],tw:=s',tl:=tlv (cs++[Y])} (λb=>Grow G v9 b/\b<v10.size) (λj hj=>by cases j<;>first|rfl|exact absurd rfl hj) e10 (λb hb=>hb.1.imp id λhx=>⟨hx,λhB=>by have:=(K9.b b hB).2;omega⟩) (by
     show RowR s' 3 (tlv (cs++[Y])) v10 _;have:tlv (cs++[Y])=tlv cs++[.pointer (some ⟨Y.p,0,none⟩),.slice none 0 0,.nilIface]:=by simp[tlv]
     rw[this];exact(RowR.loc _ _ _).mono hr10 λb hb hx=>⟨hx,hb⟩) λb hB=>by have:=(K9.b b hB).2;omega).drop (B':=(· = σ.size)) λb hb=>.inl hb
    refine nilP (K10.hdr (NB q tab lm sp aw ys s' (cs++[Y])) (λj hj=>by cases j<;>first|rfl|exact absurd rfl hj) rfl (i:=8) rfl (by omega) λv11 P11 K11 o11=>?_)
    have hbw11:=Wr o11 hbw10 (hnep K10);exact arN (m:=cs.length+1) (by omega) (by omega) ⟨⟨P11,s',cs++[Y],by simp,by simp;omega,K11,hbw11⟩,by omega⟩
   ·have hct:cs.length=t:=by omega
    have hct':cf.threads=cs.length:=by rw[←hcfd,hct]
    have hya':cf.arenas=ys.length:=by rw[←hcfd,hya]
    have hN:=WkM g gd;refine h0 w7 ⟨q,sp,lm,tab,aw,tw,ys,cs.map λc=>⟨c,nilS⟩⟩ K7.e ⟨⟨?_,hys,?_,?_,?_,?_,?_,?_⟩,?_,g.keep0 K7.e,gd.keep0 K7.e,hN.1,hN.2⟩
    ·simp[KY,hya']
    ·simp[KY,hct']
    ·simp[KY,hya'];omega
    ·simp[KY,hya'];omega
    ·simp[KY,hct'];omega
    ·simp[KY,hct'];omega
    ·intro B hB;have:=zGG hB;rw[this];rfl
    ·refine(Sep.loc CH.loc).mono (G:=λq=>σ.size<=q) ?_ λb _ hb=>hb;obtain⟨ρ,hs⟩:=(Sep.loc CNW.loc).mono K7.sep (G:=λq=>σ.size<=q) λb _ hb=>(K7.p b hb).1;refine⟨ρ,λi=>?_⟩;have hi:=hs i;cases i with
     | hd=>exact hi
     | tab=>exact hi
     | sp=>exact hi
     | arow=>exact RowR.slR hi
     | trow=>
      show RowR tw 3 (trV (cs.map λc=>⟨c,nilS⟩) (List.replicate cf.threads ⟨List.replicate tb.length liN,[],none⟩)) w7 _;rw[hct',WjV];exact hi
     | live=>exact hi
     | ar k=>
      show ArH ys[k]? (List.replicate cf.arenas (newA cf.pages cf.room tb))[k]? w7 _;have hi:ArN cf.pages cf.room tb ys[k]? w7 _:=hi;unfold ArH;by_cases hk:k<ys.length
      ·rw[zAT,zB (by omega),gGe hk];rw[gGe hk]at hi;exact hi
      ·rw[zV (by omega)];trivial
     | ca k=>
      show CaH (cs.map λc=>(⟨c,nilS⟩:LayT))[k]? (List.replicate cf.threads (⟨List.replicate tb.length liN,[],none⟩:Th))[k]? tb cf.budget w7 _;have hi:CaN tb cf.budget cs[k]? w7 _:=hi;unfold CaH;by_cases hk:k<cs.length
      ·rw[zAT,zB (by omega),za,gGe hk];rw[gGe hk]at hi;exact hi
      ·rw[za,zV (by omega)];trivial
     | hn k=>
      show HnH (cs.map λc=>(⟨c,nilS⟩:LayT))[k]? (List.replicate cf.threads (⟨List.replicate tb.length liN,[],none⟩:Th))[k]? w7 _;unfold HnH;by_cases hk:k<cs.length
      ·rw[zAT,zB (by omega),za,gGe hk];exact BtR.nil _ _ _
      ·rw[za,zV (by omega)];trivial
 ·have rd:∀(i:Nat) (x:Int),[Value.int .i64 (p:Int),.int .i64 (a:Int),.int .i64 (t:Int),.int .i64 (b:Int),.int .i64 (r:Int)][i]?=some (.int .i64 x)->∀m,Blk m σ.size [.int .i64 (p:Int),.int .i64 (a:Int),.int .i64 (t:Int),.int .i64 (b:Int),.int .i64 (r:Int)]->cell m (Addr.add ⟨σ.size,0,none⟩ i)=some (.int .i64 x):=λi x hx m hm=>by
   rw[add_lit,hm.cell,zG];exact hx
  refine⟨λm=>Blk m σ.size [.int .i64 (p:Int),.int .i64 (a:Int),.int .i64 (t:Int),.int .i64 (b:Int),.int .i64 (r:Int)],hb2,⟨(p:Int),rd 0 _ rfl,⟨(a:Int),rd 1 _ rfl,⟨(t:Int),rd 2 _ rfl,⟨(b:Int),rd 3 _ rfl,⟨(r:Int),rd 4 _ rfl,⟨?_,?_⟩⟩⟩⟩⟩⟩⟩
  ·refine KN (Xb ha e02) hv λtab v16 e16 htab=>⟨e16.blk hb2 id,WcO λv17 z17 e17 hm=>⟨e17.blk (e16.blk hb2 id) id,?_⟩⟩;rw[htbd]at htab;have hz16:=e16.1;refine nw (cs:=[.slice tab.a tab.len tab.cap,.int .i64 (p:Int),.int .i64 (a:Int),.int .i64 (t:Int),.int .i64 (b:Int),.int .i64 (r:Int),.pointer none,.slice none 0 0,.slice none 0 0,.map (some v16.size)]) λv18 z18 e18 hb18=>⟨e18.blk (e17.blk (e16.blk hb2 id) id) id,hJ _ _ ⟨_,v17.size,tab,v16.size,rfl,NK0 (D:=λq=>v2.size<=q/\q<v16.size) (((e02.trans e16).trans e17).trans e18) (by omega) (by rw[hdE];exact hb18) (e18.mapL (hm .i64 (.ag 4)) id) ?_ (λb hb=>by omega) (by omega) (by omega) (by omega),e18.blk (e17.blk (e16.blk hb2 id) id) id⟩⟩;exact(SlR.loc _ _ _).keep0 ((SlR.loc _ _ _).keep0 ((SlR.loc _ _ _).mono htab (G:=λq=>v2.size<=q/\q<v16.size) λb hb hx=>⟨hx,hb⟩) e17) e18
  ·refine WcO λv19 z19 e19 hm=>⟨e19.blk hb2 id,KN (Xb ha (e02.trans e19)) hv λtab v20 e20 htab=>⟨e20.blk (e19.blk hb2 id) id,?_⟩⟩;rw[htbd]at htab;have hz20:=e20.1;refine nw (cs:=[.slice tab.a tab.len tab.cap,.int .i64 (p:Int),.int .i64 (a:Int),.int .i64 (t:Int),.int .i64 (b:Int),.int .i64 (r:Int),.pointer none,.slice none 0 0,.slice none 0 0,.map (some v2.size)]) λv21 z21 e21 hb21=>⟨e21.blk (e20.blk (e19.blk hb2 id) id) id,hJ _ _ ⟨_,v20.size,tab,v2.size,rfl,NK0 (D:=λq=>v19.size<=q/\q<v20.size) (((e02.trans e19).trans e20).trans e21) (by omega) (by rw[hdE];exact hb21) (e21.mapL (e20.mapL (hm .i64 (.ag 4)) id) id) ?_ (λb hb=>by omega) (by omega) (by omega) (by omega),e21.blk (e20.blk (e19.blk hb2 id) id) id⟩⟩;exact(SlR.loc _ _ _).keep0 ((SlR.loc _ _ _).mono htab (G:=λq=>v19.size<=q/\q<v20.size) λb hb hx=>⟨hx,hb⟩) e21
end Go.Ar
namespace Go.Ar
open Go Go.Vc Go.Proofs
variable {σ u w w':Hp}{F B P Q:Rg}{L:LayH}{H:Hw}{t:Nat}{g:Th}
def CfOk (H:Hw):Prop:=1<=H.cf.pages/\H.cf.threads=H.ths.length/\TbOk H.tb
end Go.Ar
namespace Go.Ar
open Go Go.Vc Go.Proofs
open Go.Bu (isPow)
variable {σ u w w':Hp}{F B P Q:Rg}{L:LayH}{H H':Hw}{t:Nat}{g:Th}
def unV:List Value:=[.slice none 0 0,.int .i64 0,.int .i64 0,.int .i64 0,.int .i64 0,.int .i64 0,.pointer none,.slice none 0 0,.slice none 0 0,.map none]
def Wfg (vh:Option Addr)(σ:Hp):Prop:=vh=none\/∃n,vh=some ⟨n,0,none⟩/\Blk σ n unV
theorem Wfg.keep0 {vh:Option Addr}(h:Wfg vh σ)(e:Ext0 σ w):Wfg vh w:=h.imp id λ⟨n,h1,h2⟩=>⟨n,h1,e.blk h2 id⟩
def Gn (H:Hw)(thread kind size align addr:Int)(H':Hw)(a e:Int):Prop:=
 (QL H thread kind size align addr=.inl e/\e≠0/\H'=H/\a=0)\/∃t p n,QL H thread kind size align addr=.inr (t,p)/\RunN n (setPh H t (some p)) t p H' a e
theorem WgG (hso:Gi)(h:HH σ F L H)(hv:TbOk H.tb){thread kind size align addr:Int}{a e:Int}(hw:Gn H thread kind size align addr H' a e){R:Int->Int->Hp->Prop}
 (hR:∀σ' ts',Ext F σ σ'->HH σ' (Grow F σ) {L with ts:=ts'} H'->R a e σ'):Yi.c (some ⟨L.p,0,none⟩) thread kind size align addr σ R:=by
 rcases hw with⟨hs,hne,rfl,rfl⟩|⟨t,p,n,hs,hr⟩
 ·exact WbN hso h hv thread kind size align addr (λe' he _ σ' ee hh=>by
   rw[hs]at he;cases he;exact hR σ' L.ts ee hh) λt p he=>by rw[hs]at he;cases he
 ·exact WbN hso h hv thread kind size align addr (λe' he=>by rw[hs]at he;cases he) λt' p' he=>by
   rw[hs]at he;cases he;exact⟨n,H',a,e,hr,hR⟩
theorem Wej (hso:Gi)(h:HH σ F L H)(hv:TbOk H.tb){thread size align:Int}{a e:Int}(hw:Gn H thread 0 size align 0 H' a e){R:Int->Int->Hp->Prop}
 (hR:∀σ' ts',Ext F σ σ'->HH σ' (Grow F σ) {L with ts:=ts'} H'->R a e σ'):Yu.c (some ⟨L.p,0,none⟩) thread size align σ R:=by
 refine Yu.o ?_;unfold Yu.v;exact WgG hso h hv hw hR
def ZW (H' H:Hw):Prop:=H'.tb=H.tb/\H'.cf=H.cf/\H'.ths.length=H.ths.length/\H'.ars.length=H.ars.length
theorem ZW.refl (H:Hw):ZW H H:=⟨rfl,rfl,rfl,rfl⟩
theorem ZW.trans {H1 H2 H3:Hw}(a:ZW H2 H1)(b:ZW H3 H2):ZW H3 H1:=⟨b.1.trans a.1,b.2.1.trans a.2.1,b.2.2.1.trans a.2.2.1,b.2.2.2.trans a.2.2.2⟩
theorem Q4 (H:Hw)(t:Nat)(f:Th->Th):ZW (H.setT t f) H:=⟨rfl,rfl,by simp[Hw.setT],rfl⟩
theorem QN (H:Hw)(k:Nat)(A:AR)(sp:Sp):ZW {H.setA k A with sp:=sp} H:=⟨rfl,rfl,rfl,by simp[Hw.setA]⟩
theorem Wco (H:Hw)(k:Nat)(part:Nat->List Int)(j:Nat):ZW (Q3 H k part (List.range j)) H:=by
 induction j with
 | zero=>exact ZW.refl H
 | succ j ih=>
  rw[Q1];split
  ·split
   ·exact ih
   ·exact ih.trans (QN _ _ _ _)
  ·exact ih
theorem WfL (H:Hw)(own k:Nat)(xs:List Int):ZW (Uz H own k xs) H:=by
 unfold Uz;split
 ·split
  ·exact QN _ _ _ H.sp
  ·refine ZW.trans ?_ (Wco _ _ _ _);split
   ·exact QN _ _ _ H.sp
   ·exact ZW.refl H
 ·exact ZW.refl H
theorem Wiy (H:Hw)(t k:Nat)(x:Int):ZW (putH H t k x) H:=by
 unfold putH;simp only;split<;>split<;>exact⟨rfl,rfl,by simp[Hw.setT,Z1],rfl⟩
theorem WfE (H:Hw)(t:Nat)(p:Ph):ZW (Wp H t p).1 H:=by
 cases p with
 | take k=>simp only[Wp];split<;>exact⟨rfl,rfl,by simp[Kq,Z1,Hw.setT,Hw.setA],by simp[Kq,Z1,Hw.setT,Hw.setA]⟩
 | transfer k w=>
  simp only[Wp];split
  ·split
   ·exact(QN _ _ _ H.sp).trans (Q4 _ _ _)
   ·exact ZW.refl H
  ·exact ZW.refl H
 | central k w=>
  simp only[Wp];split
  ·exact QN _ _ _ H.sp
  ·exact(QN _ _ _ H.sp).trans (Q4 _ _ _)
 | grow k w=>simp only[Wp];split<;>exact QN _ _ _ _
 | fill=>
  simp only[Wp];split
  ·exact⟨rfl,rfl,by simp[Kq,Z1,Hw.setT,Hw.setA],by simp[Kq,Z1,Hw.setT,Hw.setA]⟩
  ·exact ZW.refl H
 | large m=>simp only[Wp];split<;>exact⟨rfl,rfl,by simp[Kq,Z1,Hw.setT,Hw.setA],by simp[Kq,Z1,Hw.setT,Hw.setA]⟩
 | find x=>
  simp only[Wp,VI];split
  ·exact ZW.refl H
  ·split
   ·exact⟨rfl,rfl,rfl,rfl⟩
   ·exact ZW.trans (H2:={H with live:=Go.Vc.mdel H.live x}) ⟨rfl,rfl,rfl,rfl⟩ (Q4 _ _ _)
 | put k x=>exact Wiy H t k x
 | back=>
  simp only[Wp];split
  ·exact(Q4 _ _ _).trans (WfL _ _ _ _)
  ·exact ZW.refl H
 | give s a=>
  simp only[Wp];split
  ·exact QN _ _ _ H.sp
  ·exact ZW.refl H
 | drain=>exact Q4 _ _ _
theorem Vz (H:Hw)(t:Nat)(p:Ph):ZW (ZX H t p) H:=(WfE H t p).trans (Q4 _ _ _)
theorem Wiq {n:Nat}{H H':Hw}{t:Nat}{p:Ph}{a e:Int}(h:RunN n H t p H' a e):ZW H' H:=by
 induction h with
 | done=>exact Vz _ _ _
 | next _ _ _ ih=>exact(Vz _ _ _).trans ih
theorem CfOk.keep (h:CfOk H)(k:ZW H' H):CfOk H':=⟨by rw[k.2.1];exact h.1,by rw[k.2.1,k.2.2.1];exact h.2.1,by rw[k.1];exact h.2.2⟩
end Go.Ar
namespace Go.Ar
variable {c:Cls}{ss:List SpA}
structure CenOk (c:Cls) (ss:List SpA):Prop where
 ok:c.ok
 tk:∀s∈ss,s.tk.length=c.n
 far:ss.Pairwise λa b=>a.st+c.pages<=b.st
def Tk (c:Cls)(ss:List SpA)(x:Int):Prop:=isTk c ss x=some true
def Cov (c:Cls)(ss:List SpA)(p:Nat):Prop:=∃s∈ss,s.st<=p/\p<s.st+c.pages
theorem CenOk.pos (h:CenOk c ss):0<c.size:=by have:=h.ok;unfold Cls.ok at this;omega
theorem CenOk.pg (h:CenOk c ss):1<=c.pages:=by have:=h.ok;unfold Cls.ok at this;omega
theorem CenOk.srt (h:CenOk c ss):ss.Pairwise λa b=>a.st<b.st:=h.far.imp λ{a b} hab=>by have:=h.pg;omega
theorem CenOk.dis (h:CenOk c ss){i j:Nat}{s t:SpA}(hi:ss[i]?=some s)(hj:ss[j]?=some t)(hij:i<j):s.st+c.pages<=t.st:=by
 obtain⟨h1,rfl⟩:=gSi.1 hi;obtain⟨h2,rfl⟩:=gSi.1 hj;exact zAF.1 h.far i j h1 h2 hij
theorem CenOk.cov1 (h:CenOk c ss){i j:Nat}{s t:SpA}{p:Nat}(hi:ss[i]?=some s)(hj:ss[j]?=some t)(h1:s.st<=p)(h2:p<s.st+c.pages)(h3:t.st<=p)(h4:p<t.st+c.pages):i=j:=by
 rcases zBO i j with hl|hl|hl
 ·have:=h.dis hi hj hl;omega
 ·exact hl
 ·have:=h.dis hj hi hl;omega
theorem Wlo (hp:0<c.size){s:SpA}{i:Nat}(hi:i<c.n):s.st*256<=at_ c s i/\at_ c s i+c.size<=(s.st+c.pages)*256:=by
 have h1:=Cls.n_mul c;have h2:(i+1)*c.size<=c.n*c.size:=zAG _ hi;unfold at_;rw[zc]at h2;omega
theorem Uj (hp:0<c.size){s:SpA}{i x:Nat}(hi:i<c.n)(h1:at_ c s i<=x)(h2:x<at_ c s i+c.size):s.st<=x/256/\x/256<s.st+c.pages:=by
 have:=Wlo hp (s:=s) hi;omega
theorem Vf (h:CenOk c ss){k l:Nat}{s t:SpA}{i j x:Nat}(hk:ss[k]?=some s)(hl:ss[l]?=some t)(hi:i<c.n)(hj:j<c.n)(h1:at_ c s i<=x)(h2:x<at_ c s i+c.size)(h3:at_ c t j<=x)(h4:x<at_ c t j+c.size):k=l/\s=t/\i=j:=by
 have p1:=Uj h.pos hi h1 h2;have p2:=Uj h.pos hj h3 h4;have e:=h.cov1 hk hl p1.1 p1.2 p2.1 p2.2;subst e;rw[hk]at hl;cases hl;refine⟨rfl,rfl,?_⟩;unfold at_ at *;have hc:=h.pos;rcases zBO i j with hl|hl|hl
 ·have:(i+1)*c.size<=j*c.size:=zAG _ hl;rw[zc]at this;omega
 ·exact hl
 ·have:(j+1)*c.size<=i*c.size:=zAG _ hl;rw[zc]at this;omega
theorem Wgp (h:CenOk c ss){s:SpA}(hs:s∈ss){x:Int}{i:Nat}(hi:idx c s x=some i):i<c.n/\((s.st*256:Nat):Int)<=x/\x<(((s.st+c.pages)*256:Nat):Int)/\((at_ c s i:Nat):Int)<=x/\x<((at_ c s i+c.size:Nat):Int):=by
 obtain⟨h1,h2,h3⟩:=(KJ h.pos).1 hi;rw[h.tk s hs]at h3;have:=Wlo h.pos (s:=s) h3;have e:at_ c s (i+1)=at_ c s i+c.size:=by unfold at_;rw[zc];omega
 rw[e]at h2;omega
theorem WiH (h:CenOk c ss){k:Nat}{s:SpA}{x:Int}{i:Nat}(hs:ss[k]?=some s)(hi:idx c s x=some i):ofS c ss x=some k:=by
 obtain⟨hk,hse⟩:=gSi.1 hs;refine zAU.2 ⟨hk,by rw[hse,hi];rfl,λj hj hp=>?_⟩;have hjl:j<ss.length:=by omega
 obtain⟨i',hi'⟩:=zBP.1 hp;have a:=Wgp h (zE hs) hi;have b:=Wgp h (zj hjl) hi';have:=h.dis (gGe hjl) hs hj;omega
theorem WdN (h:CenOk c ss){x:Int}{b:Bool}:isTk c ss x=some b↔∃(k:Nat) (s:SpA) (i:Nat),ss[k]?=some s/\i<c.n/\x=((at_ c s i:Nat):Int)/\s.is i=b:=by
 constructor
 ·intro hx;obtain⟨k,s,i,_,hs,ho,hb⟩:=UW hx;obtain⟨h1,h2⟩:=(Vr h.pos).1 ho;rw[h.tk s (zE hs)]at h2;exact⟨k,s,i,hs,h2,h1,hb⟩
 ·rintro⟨k,s,i,hs,hi,rfl,hb⟩;have hl:=h.tk s (zE hs);have ho:obj c s ((at_ c s i:Nat):Int)=some i:=(Vr h.pos).2 ⟨rfl,by omega⟩;have hid:idx c s ((at_ c s i:Nat):Int)=some i:=(KJ h.pos).2 ⟨zCN _,by have:=h.pos;unfold at_;rw[zc];omega,by omega⟩;rw[KB (WiH h hs hid) hs,ho,←hb];rfl
theorem KW (h:CenOk c ss){x:Int}:Tk c ss x↔∃(k:Nat) (s:SpA) (i:Nat),ss[k]?=some s/\i<c.n/\x=((at_ c s i:Nat):Int)/\s.is i=true:=WdN h
theorem Wbf (h:CenOk c ss){x:Int}{a:Nat}:Wap c ss x=some a↔∃(k:Nat) (s:SpA) (i:Nat),ss[k]?=some s/\i<c.n/\a=at_ c s i/\((at_ c s i:Nat):Int)<=x/\x<((at_ c s i+c.size:Nat):Int):=by
 constructor
 ·intro hf;cases ho:ofS c ss x with
  | none=>rw[GH ho]at hf;cases hf
  | some k=>
   have hk:=(zAU.1 ho).1;have hs:ss[k]?=some ss[k]:=gGe hk;rw[Ud ho hs]at hf;obtain⟨i,hi,rfl⟩:=zBW.1 hf;have:=Wgp h (zE hs) hi;exact⟨k,_,i,hs,this.1,rfl,this.2.2.2.1,this.2.2.2.2⟩
 ·rintro⟨k,s,i,hs,hi,rfl,h1,h2⟩;have hl:=h.tk s (zE hs);have e:at_ c s (i+1)=at_ c s i+c.size:=by unfold at_;rw[zc];omega
  have hid:idx c s x=some i:=(KJ h.pos).2 ⟨h1,by rw[e];exact h2,by omega⟩;rw[Ud (WiH h hs hid) hs,hid];rfl
theorem CenOk.put (h:CenOk c ss){k i:Nat}{s:SpA}(hs:ss[k]?=some s)(v:Bool):CenOk c (ss.set k (s.put i v)):=by
 have hk:=(gSi.1 hs).1;refine⟨h.ok,λt ht=>?_,?_⟩
 ·rcases zFF ht with ht|rfl
  ·exact h.tk t ht
  ·rw[show(s.put i v).tk.length=s.tk.length by simp[SpA.put]];exact h.tk s (zE hs)
 ·rw[zAF];intro a b ha hb hab;have ha':a<ss.length:=by simpa using ha
  have hb':b<ss.length:=by simpa using hb
  have hst:∀j (hj:j<(ss.set k (s.put i v)).length) (hj':j<ss.length),(ss.set k (s.put i v))[j].st=ss[j].st:=by
   intro j hj hj';rw[List.getElem_set];split
   ·rename_i e;subst e;have:ss[k]=s:=(gSi.1 hs).2;rw[this];rfl
   ·rfl
  rw[hst a ha ha',hst b hb hb'];exact zAF.1 h.far a b ha' hb' hab
theorem GT {k i:Nat}{s:SpA}(hs:ss[k]?=some s)(v:Bool):(ss.set k (s.put i v)).map (·.st)=ss.map (·.st):=by
 apply zn;intro j;simp only[za];by_cases hjk:j=k
 ·subst hjk;rw[zK (gSi.1 hs).1,hs];rfl
 ·rw[zf (Ne.symm hjk)]
theorem We0 {s:SpA}{i j:Nat}{v:Bool}(hi:i<s.tk.length):(s.put i v).is j=if j=i then v else s.is j:=by
 unfold SpA.is SpA.put;simp only[zO];by_cases hj:j=i
 ·subst hj;rw[zK hi,zB rfl];rfl
 ·rw[zf (Ne.symm hj),zA hj]
theorem WiD (h:CenOk c ss){k i:Nat}{s:SpA}(hs:ss[k]?=some s)(hi:i<c.n)(v:Bool){y:Int}:Tk c (ss.set k (s.put i v)) y↔(y=((at_ c s i:Nat):Int)/\v=true)\/(y≠((at_ c s i:Nat):Int)/\Tk c ss y):=by
 have hk:=(gSi.1 hs).1;have hl:=h.tk s (zE hs);have hc:=h.pos;rw[KW (h.put hs v),KW h];constructor
 ·rintro⟨l,t,j,ht,hj,rfl,hb⟩;by_cases hlk:l=k
  ·subst hlk;rw[zK hk]at ht;cases ht;rw[We0 (by omega)]at hb;by_cases hji:j=i
   ·subst hji;rw[zB rfl]at hb;exact .inl ⟨rfl,hb⟩
   ·rw[zA hji]at hb;refine .inr ⟨λe=>hji ?_,l,s,j,hs,hj,rfl,hb⟩;have e':at_ c s j=at_ c s i:=by have:=Int.ofNat.inj e;exact this
    exact(Vf h hs hs hj hi (zD _) (by omega) (by omega) (by omega)).2.2
  ·rw[zf (Ne.symm hlk)]at ht;refine .inr ⟨λe=>hlk ?_,l,t,j,ht,hj,rfl,hb⟩;have e':at_ c t j=at_ c s i:=Int.ofNat.inj e;exact(Vf h ht hs hj hi (zD _) (by omega) (by omega) (by omega)).1
 ·rintro(⟨rfl,rfl⟩|⟨hne,l,t,j,ht,hj,rfl,hb⟩)
  ·exact⟨k,s.put i true,i,zK hk,hi,rfl,by rw[We0 (by omega),zB rfl]⟩
  ·by_cases hlk:l=k
   ·subst hlk;rw[hs]at ht;cases ht;have hji:j≠i:=λe=>hne (by rw[e]);exact⟨l,s.put i v,j,zK hk,hj,rfl,by rw[We0 (by omega),zA hji];exact hb⟩
   ·exact⟨l,t,j,(zf (Ne.symm hlk)).trans ht,hj,rfl,hb⟩
theorem WfR {p:Nat}:Cov c ss p↔∃x∈ss.map (·.st),x<=p/\p<x+c.pages:=by
 constructor
 ·rintro⟨s,hs,h⟩;exact⟨_,zC.2 ⟨s,hs,rfl⟩,h⟩
 ·rintro⟨x,hx,h⟩;obtain⟨s,hs,rfl⟩:=zC.1 hx;exact⟨s,hs,h⟩
theorem WkV {ss':List SpA}(e:ss'.map (·.st)=ss.map (·.st)){p:Nat}:Cov c ss' p↔Cov c ss p:=by rw[WfR,WfR,e]
theorem WgD (h:CenOk c ss){x:Nat}{ss':List SpA}(ho:oneS c ss=some (x,ss')):CenOk c ss'/\ss'.map (·.st)=ss.map (·.st)/\¬Tk c ss (x:Int)/\∀y,Tk c ss' y↔y=(x:Int)\/Tk c ss y:=by
 unfold oneS at ho;split at ho
 ·rename_i k hk;obtain⟨_,s,hs,hsm⟩:=Z4 hk;rw[hs]at ho;simp only at ho;split at ho
  ·rename_i i hi;cases ho;obtain⟨r,hr,hrl,hri⟩:=U3 hsm;rw[hi]at hr;cases hr;have hin:i<c.n:=by rw[←h.tk s (zE hs)];exact hrl
   have hnot:¬Tk c ss ((at_ c s i:Nat):Int):=λht=>by
    have h1:=(WdN h (x:=((at_ c s i:Nat):Int)) (b:=false)).2 ⟨k,s,i,hs,hin,rfl,hri⟩;unfold Tk at ht;rw[h1]at ht;cases ht
   refine⟨h.put hs true,GT hs true,hnot,λy=>?_⟩;rw[WiD h hs hin];constructor
   ·rintro(⟨e,_⟩|⟨_,ht⟩)
    ·exact .inl e
    ·exact .inr ht
   ·rintro(e|ht)
    ·exact .inl ⟨e,rfl⟩
    ·exact .inr ⟨λe=>hnot (e▸ht),ht⟩
  ·cases ho
 ·cases ho
theorem Ug:∀(m:Nat) {ss:List SpA},CenOk c ss->CenOk c (Qg c m ss).2/\(Qg c m ss).2.map (·.st)=ss.map (·.st)/\(Qg c m ss).1.length<=m/\(Qg c m ss).1.Nodup/\(∀x∈(Qg c m ss).1,¬Tk c ss (x:Int))/\∀y,Tk c (Qg c m ss).2 y↔(∃x∈(Qg c m ss).1,y=((x:Nat):Int))\/Tk c ss y
 | 0,ss,h=>⟨h,rfl,zD _,zCE,by simp[Qg],by simp[Qg]⟩
 | m+1,ss,h=>by
  cases ho:oneS c ss with
  | none=>
   have e:Qg c (m+1) ss=([],ss):=by simp[Qg,ho]
   rw[e];exact⟨h,rfl,by simp,zCE,by simp,by simp⟩
  | some r=>
   obtain⟨x,ss'⟩:=r;rw[UH ho];obtain⟨h1,h2,h3,h4⟩:=WgD h ho;obtain⟨i1,i2,i3,i4,i5,i6⟩:=Ug m h1;refine⟨i1,i2.trans h2,by simp;omega,zm.2 ⟨λhx=>i5 x hx ((h4 _).2 (.inl rfl)),i4⟩,?_,λy=>?_⟩
   ·intro y hy;rcases zX.1 hy with rfl|hy
    ·exact h3
    ·exact λht=>i5 y hy ((h4 _).2 (.inr ht))
   ·rw[i6,h4];simp only[zX,exists_eq_or_imp];constructor
    ·rintro(h|h|h)
     ·exact .inl (.inr h)
     ·exact .inl (.inl h)
     ·exact .inr h
    ·rintro((h|h)|h)
     ·exact .inr (.inl h)
     ·exact .inl h
     ·exact .inr (.inr h)
theorem WbQ:∀(xs:List Int) {ss:List SpA},CenOk c ss->AllT c ss xs->CenOk c (xs.foldl (put1 c) ss)/\(xs.foldl (put1 c) ss).map (·.st)=ss.map (·.st)/\∀y,Tk c (xs.foldl (put1 c) ss) y↔Tk c ss y/\y∉xs
 | [],ss,h,_=>⟨h,rfl,by simp⟩
 | x::xs,ss,h,hA=>by
  have hx:=hA.1 x (by simp);obtain⟨k,s,i,hk,hs,ho,_⟩:=UW hx;obtain⟨h1,h2⟩:=(Vr h.pos).1 ho;rw[h.tk s (zE hs)]at h2;have e:=Wai hk hs ho;have hp:=h.put hs false (i:=i);have hA':=hA.next h.pos;obtain⟨i1,i2,i3⟩:=WbQ xs (ss:=put1 c ss x) (by rw[e];exact hp) hA';rw[zBV];refine⟨i1,i2.trans (by rw[e];exact GT hs false),λy=>?_⟩;rw[i3,e,WiD h hs h2,←h1];simp only[zZ,and_false,false_or,zX,not_or];constructor
  ·rintro⟨⟨h1,h2⟩,h3⟩;exact⟨h2,h1,h3⟩
  ·rintro⟨h2,h1,h3⟩;exact⟨⟨h1,h2⟩,h3⟩
theorem WfH {s:SpA}(h0:s.many=0)(i:Nat):s.is i=false:=by
 unfold SpA.many at h0;rw[zFJ]at h0;unfold SpA.is;rw[zO];cases hi:s.tk[i]? with
 | none=>rfl
 | some b=>
  cases b
  ·rfl
  ·exact absurd (zE hi) h0
theorem CenOk.sweep (h:CenOk c ss):CenOk c (Go.Ar.sweep ss):=⟨h.ok,λs hs=>h.tk s (zH.1 hs).1,h.far.filter _⟩
theorem Wdo (h:CenOk c ss){y:Int}:Tk c (sweep ss) y↔Tk c ss y:=by
 rw[KW h.sweep,KW h];constructor
 ·rintro⟨k,s,i,hs,hi,rfl,hb⟩;obtain⟨l,hl⟩:=zL (zH.1 (zE hs)).1;exact⟨l,s,i,hl,hi,rfl,hb⟩
 ·rintro⟨k,s,i,hs,hi,rfl,hb⟩;have:s∈sweep ss:=zH.2 ⟨zE hs,by
   have:s.many≠0:=λh0=>by rw[WfH h0 i]at hb;cases hb
   simpa using this⟩
  obtain⟨l,hl⟩:=zL this;exact⟨l,s,i,hl,hi,rfl,hb⟩
theorem Hz {x:Nat}:x∈ZH ss↔∃s∈ss,s.many=0/\s.st=x:=by
 unfold ZH;simp only[zC,zH,zS,and_assoc]
theorem Wbi (h:CenOk c ss){p:Nat}:Cov c (sweep ss) p↔Cov c ss p/\¬∃x∈ZH ss,x<=p/\p<x+c.pages:=by
 constructor
 ·rintro⟨s,hs,h1,h2⟩;have hm:=zH.1 hs;refine⟨⟨s,hm.1,h1,h2⟩,?_⟩;rintro⟨x,hx,h3,h4⟩;obtain⟨t,ht,h0,rfl⟩:=Hz.1 hx;obtain⟨i,hi⟩:=zL hm.1;obtain⟨j,hj⟩:=zL ht;have e:=h.cov1 hi hj h1 h2 h3 h4;subst e;rw[hi]at hj;cases hj;simp[h0]at hm
 ·rintro⟨⟨s,hs,h1,h2⟩,hn⟩;refine⟨s,zH.2 ⟨hs,?_⟩,h1,h2⟩;have:s.many≠0:=λh0=>hn ⟨s.st,Hz.2 ⟨s,hs,h0,rfl⟩,h1,h2⟩;simpa using this
theorem WeO (h:CenOk c ss):(ZH ss).Pairwise λa b=>a+c.pages<=b:=by
 unfold ZH;rw[zCB];exact h.far.filter _
theorem Kj {st:Nat}{t:SpA}:t∈addS c ss st↔t=⟨st,List.replicate c.n false⟩\/t∈ss:=by
 unfold addS;rw[zM,zX];have:t∈ss↔t∈ss.takeWhile (λs=>decide (s.st<st))\/t∈ss.dropWhile (λs=>decide (s.st<st)):=by
  rw[←zM,List.takeWhile_append_dropWhile]
 rw[this];constructor
 ·rintro(h|h|h)
  ·exact .inr (.inl h)
  ·exact .inl h
  ·exact .inr (.inr h)
 ·rintro(h|h|h)
  ·exact .inr (.inl h)
  ·exact .inl h
  ·exact .inr (.inr h)
theorem Wgy (h:CenOk c ss){st:Nat}(hd:∀s∈ss,s.st+c.pages<=st\/st+c.pages<=s.st):CenOk c (addS c ss st):=by
 refine⟨h.ok,λs hs=>?_,?_⟩
 ·rcases Kj.1 hs with rfl|hs
  ·simp
  ·exact h.tk s hs
 ·have hpl:=Uv h.srt st;have hpg:=h.pg;rw[HW];refine zBR.2 ⟨h.far.sublist (zGC _ _),zBT.2 ⟨λb hb=>?_,h.far.sublist (List.drop_sublist _ _)⟩,λa ha b hb=>?_⟩
  ·obtain⟨i,hi⟩:=zL hb;rw[zu]at hi;have:=hpl.2 _ _ hi;rcases hd b (zDI hb)with h1|h1
   ·omega
   ·exact h1
  ·obtain⟨i,hi⟩:=zL ha;rw[zg]at hi;split at hi
   ·rename_i hlt;rcases zX.1 hb with rfl|hb
    ·have:=(hpl.2 _ _ hi).2 hlt;rcases hd a (zE hi)with h1|h1
     ·exact h1
     ·omega
    ·obtain⟨j,hj⟩:=zL hb;rw[zu]at hj;exact h.dis hi hj (by omega)
   ·cases hi
theorem Wf0 (h:CenOk c ss){st:Nat}(hd:∀s∈ss,s.st+c.pages<=st\/st+c.pages<=s.st){y:Int}:Tk c (addS c ss st) y↔Tk c ss y:=by
 rw[KW (Wgy h hd),KW h];constructor
 ·rintro⟨k,s,i,hs,hi,rfl,hb⟩;rcases Kj.1 (zE hs)with rfl|hm
  ·have:(⟨st,List.replicate c.n false⟩:SpA).is i=false:=WfH (by simp[SpA.many,zFA]) i;rw[this]at hb;cases hb
  ·obtain⟨l,hl⟩:=zL hm;exact⟨l,s,i,hl,hi,rfl,hb⟩
 ·rintro⟨k,s,i,hs,hi,rfl,hb⟩;obtain⟨l,hl⟩:=zL (Kj.2 (.inr (zE hs)):s∈addS c ss st);exact⟨l,s,i,hl,hi,rfl,hb⟩
theorem Wic {st:Nat}(hd:∀s∈ss,s.st+c.pages<=st\/st+c.pages<=s.st):UR c ss st=0:=by
 unfold UR;rw[zA];simp only[zl,zN,not_exists,not_and];intro s hs hlt;rcases hd s hs with h|h<;>omega
end Go.Ar