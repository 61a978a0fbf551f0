/- Texts joined. -/
import Derived.Test.YtehhfakcnbnipaaGreatDoorI3
set_option linter.unusedVariables false
set_option linter.unusedSimpArgs false
namespace Go.Proofs
open Go.Vc
set_option maxRecDepth 100000
def Xl.h:Hn:=.q .o2 (.q (.k (.q .o4 (.c (.q .o2 .l) (.q .o3 (.c (.q .o2 .l) .l))))) (.q (.q .o6 (.k (.loop [(28,.I)] (.q .o1 (.q (.c .l .l) (.q (.k (.q .o3 .o4)) .o2)))))) (.q (.o 11) (.q (.q .o2 (.c (.q .o3 .l) .l)) (.q .o1 (.q (.reg (.tail 10 (RI.ops 10) [.op,.op])) (.q (.q .o3 (.k (.loop [(10,.I),(62,.I)] (.q .o1 (.q (.c .l .l) (.q (.k (.q .o4 (.q (.q .o3 (.k (.loop [(68,.I)] (.q .o1 (.q (.c .l .l) (.q (.k (.q .o3 .o6)) .o2)))))) .o5))) .o2)))))) (.q .o3 .l))))))))
def Xl.v (a:R2)(b:Int)(c:Hp)(d:Int->Int->Hp->Prop):Prop:=WG.c a c λe f=>If (!e) (d 0 5 f) (If (b<0) (d 0 1 f) (NilP a λg=>LdS (g.add 5) f λh=>Xo [(.i .i64)] (λi=>i 0 f) λj (k:Int) l=>If (k<((h.len:Nat):Int)) (Ix h.a h.len k 1 λm=>LdP m l λn=>WU.c n l λo p=>Xc.c a o p λq=>Ar .i64 (k+1) λr=>j r q) (NilP a λs=>LdP (s.add 3) l λt=>Yn.c t b l λu v w=>If (v != 0) (d 0 v w) (NilP a λx=>LdP (x.add 3) w λy=>NilP a λz=>LdP (z.add 1) w λaa=>Nw (.cells #[.func (.func 131) #[.pointer y] #[],.func (.func 132) #[.pointer aa] #[]] 80 (0,0)) w λab ac=>Xo [(.i .i64),(.i .i64)] (λad=>ad 0 0 ac) λae (af:Int) (ag:Int) ah=>If (ag<((u.len:Nat):Int)) (Ix u.a u.len ag 2 λai=>LdI .i64 (ai.add 0) ah λaj=>LdI .i64 (ai.add 1) ah λak=>Nw (.cells #[.I 0,.I 0] 212 (0,0)) ah λal am=>St1 (al.add 0) (.I aj) am λan=>St1 (al.add 1) (.I ak) an λao=>Xo [(.i .i64)] (λap=>ap 0 ao) λaq (ar:Int) au=>If (ar<((2:Nat):Int)) (Ix (some ab) 2 ar 1 λav=>LdF av au λaw=>LdI .i64 (al.add 0) au λax=>LdI .i64 (al.add 1) au λay=>V1 Tryz.prog aw [.I ax,.I ay] [.I] au λaz a0=>Ar .i64 (ar+1) λa1=>aq a1 a0) (LdI .i64 (al.add 1) au λa2=>Ar .i64 (af+a2) λa3=>Ar .i64 (ag+1) λa4=>ae a3 a4 au)) (d af 0 ah)))))
theorem Xl.o {a b c d}(e:Xl.v a b c d):Xl.c a b c d:=Wa Tryz.func80 (x:=Xl.h) (R0 e)
def Ye.h:Hn:=.q .o1 (.q (.q .o3 (.c (.q .o1 .l) .l)) (.q .o6 (.q (.q .o3 (.k (.loop [(16,.I)] (.q .o1 (.q (.c .l .l) (.q (.k (.q .o3 (.q .o6 (.q .o7 .o7)))) .o2)))))) (.q .o3 .l))))
def Ye.v (a:R2)(b:Hp)(c:Int->Hp->Prop):Prop:=WG.c a b λd e=>If (!d) (c 0 e) (NilP a λf=>LdP (f.add 3) e λg=>Ys.c g e λh i=>Xo [(.i .i64)] (λj=>j 0 i) λk (l:Int) m=>If (l<((h.len:Nat):Int)) (Ix h.a h.len l 1 λn=>LdI .i64 n m λo=>NilP a λp=>LdP (p.add 3) m λq=>Xf.c q o m λr s=>NilP a λt=>LdP (t.add 2) s λu=>Ar .i64 (o*16) λv=>Xx.c u v 16 s λw x=>NilP a λy=>LdP (y.add 1) x λz=>Ar .i64 (o*16) λaa=>Yx.c z aa 16 x λab ac=>Ar .i64 (l+1) λad=>k ad ac) (c ((h.len:Nat):Int) m))
theorem Ye.o {a b c}(d:Ye.v a b c):Ye.c a b c:=Wa Tryz.func81 (x:=Ye.h) (R0 d)
def YX.h:Hn:=.q (.q .o3 (.c .l .l)) (.q .o6 (.k (.loop [(14,.I)] (.q .o1 (.q (.c .l .l) (.q (.k (.q .o5 (.q .o4 (.k (.loop [(22,.I)] (.q .o1 (.q (.c .l .l) (.q (.k (.q .o3 .o4)) .o2)))))))) .o2))))))
def YX.v (a:R2)(b:Hp)(c:Hp->Prop):Prop:=WG.c a b λd e=>If (!d) (c e) (NilP a λf=>LdS (f.add 6) e λg=>Xo [(.i .i64)] (λh=>h 0 e) λi (j:Int) k=>If (j<((g.len:Nat):Int)) (Ix g.a g.len j 1 λl=>LdP l k λm=>Xi.c m k λn o=>Xo [(.i .i64)] (λp=>p 0 o) λq (r:Int) s=>If (r<((n.len:Nat):Int)) (Ix n.a n.len r 1 λt=>LdS t s λu=>WA.c a j u s λv w=>Ar .i64 (r+1) λx=>q x w) (Ar .i64 (j+1) λy=>i y s)) (c k))
theorem YX.o {a b c}(d:YX.v a b c):YX.c a b c:=Wa Tryz.func82 (x:=YX.h) (R0 d)
def WG.h:Hn:=.q .o1 (.q (.reg (.seq [.op,.op,.op,.grd true 5 (RI.ops 5),.op])) .l)
def WG.v (a:R2)(b:Hp)(c:Bool->Hp->Prop):Prop:=JnB (λd e=>c d e) λf=>If (!a.isNone) (NilP a λg=>LdP (g.add 1) b λh=>f (!h.isNone) b) (f false b)
theorem WG.o {a b c}(d:WG.v a b c):WG.c a b c:=Wa Tryz.func88 (x:=WG.h) (R0 d)
def YU.h:Hn:=.q .o3 (.q (.q .o3 (.c (.q .o3 .l) .l)) (.q (.q .o2 (.c (.q .o3 .l) .l)) (.q .o8 (.q (.q .o2 (.c (.q .o3 .l) .l)) (.sjn [] (.q .o2 (.c (.q .o5 (.k (.loop [] (.q (.reg (.seq [.it .i64 (.i .i64),.op])) (.q (.c .l .l) (.k (.q (.reg (.seq [.it .i64 (.i .i64),.op,.op,.op,.op])) (.q .o3 (.q (.reg (.seq [.op,.op,.op,.op,.grd true 5 (RI.ops 5)])) (.c (.q .o5 .l) .l)))))))))) .l)) (.q (.o 15) (.q (.q .o2 (.c (.q .o4 .l) .l)) (.q .o6 .l))))))))
def YU.v (a:R2)(b:Int)(c:Hp)(d:Int->Int->Int->Hp->Prop):Prop:=WG.c a c λe f=>If (!e) (d 0 0 5 f) (If (b<0) (d 0 0 8 f) (NilP a λg=>LdP (g.add 4) f λh=>Nz 256<|Ar .i64 (b.tdiv 256) λi=>Za.c h i f λj k=>If (j==0) (d 0 0 8 k) (Jn [] (λl=>NilP a λm=>LdS (m.add 5) l λn=>Ar .i64 (j-1) λo=>Ix n.a n.len o 1 λp=>LdP p l λq=>Yq.c q b l λr s t=>If (s != 0) (d 0 0 s t) (Ar .i64 (j-1) λu=>d u r 0 t)) λv=>If (j==41) (NilP a λw=>LdM (w.add 7) k λx=>Rng .i64 (.i .i64) x k λy z=>Xo [] (λaa=>aa z) λab ac=>Nxt .i64 (.i .i64) y ac (v ac) (λad ae af=>Ent .i64 (.i .i64) y af λag ah=>Nz 256<|Ar .i64 (b.tdiv 256) λai=>JnB (λaj ak=>If aj (Ar .i64 (ag*256) λal=>d (-1) al 0 ak) (ab ak)) λam=>If (ag<=ai) (Ar .i64 (ag+ah) λan=>am (decide (ai<an)) af) (am false af))) (v k))))
theorem YU.o {a b c d}(e:YU.v a b c d):YU.c a b c d:=Wa Tryz.func101 (x:=YU.h) (R0 e)
def QX.h:Hn:=.q .o2 (.q (.q .o3 (.c (.q .o2 .l) .l)) (.q .o3 (.q (.q (.reg (.seq [.op,.op,.op,.grd false 3 (RI.ops 3),.op,.grd false 2 [.op,.op],.op,.grd false 2 [.op,.op]])) (.c (.q .o2 .l) .l)) (.q .o8 (.q .o9 (.q .o9 (.q (.q .o3 (.k (.loop [(61,.I)] (.q .o1 (.q (.c .l .l) (.q (.k (.q .o4 (.q .o7 (.q .o9 (.reg (.heldJ true [18,21] [] (.take 0 (.take 1 (.take 2 (.take 3 (.take 4 (.take 5 (.take 6 (.take 9 (.take 10 (.take 11 (.take 12 (.take 13 (.all [(7,.all [(8,.all [(14,.all [(15,.take 16 (.take 17 (.all [(18,.take 19 (.take 20 (.all [(21,.done)])))])))])]),(14,.all [(8,.all [(15,.take 16 (.take 17 (.all [(18,.take 19 (.take 20 (.all [(21,.done)])))])))])])]),(14,.all [(7,.all [(8,.all [(15,.take 16 (.take 17 (.all [(18,.take 19 (.take 20 (.all [(21,.done)])))])))])])])]))))))))))))))))))) .o2)))))) (.q .o3 .l))))))))
def QX.v (a:Sl)(b:R2)(c:Int)(d:Hp)(e:Option Addr->Int->Hp->Prop):Prop:=Zz.c a d λf g=>If (!f) (e none 2 g) (XO.c b g λh i=>JnB (λj k=>JnB (λl m=>JnB (λn o=>If n (e none 1 o) (Wc.c a o λp q=>Qd.c q λr s=>Nw (.map #[] 0) s λt u=>Nw (.cells #[.slice p.a p.len p.cap,.pointer b,.pointer none,.pointer none,.pointer r,.slice none 0 0,.slice none 0 0,.map (some t.block)] 148 (0,0)) u λv w=>Q0.c h w λx y z=>NilP (some v) λaa=>St1 (aa.add 2) (.pointer x) z λab=>Kv.c h ab λac ad ae=>NilP (some v) λaf=>St1 (af.add 3) (.pointer ac) ae λag=>Xo [(.i .i64)] (λah=>ah 0 ag) λai (aj:Int) ak=>If (aj<((a.len:Nat):Int)) (Ix a.a a.len aj 3 λal=>LdI .i64 (al.add 0) ak λam=>LdI .i64 (al.add 1) ak λan=>LdI .i64 (al.add 2) ak λao=>Nw (.cells #[.I 0,.I 0,.I 0] 79 (0,0)) ak λap aq=>St1 (ap.add 0) (.I am) aq λar=>St1 (ap.add 1) (.I an) ar λau=>St1 (ap.add 2) (.I ao) au λav=>LdI .i64 (ap.add 0) av λaw=>LdI .i64 (ap.add 1) av λax=>LdI .i64 (ap.add 2) av λay=>Qe.c aw ax ay av λaz a0 a1=>LdI .i64 (ap.add 2) a1 λa2=>ZW.c a2 c a1 λa3 a4 a5=>Jn [] (λa6=>Ar .i64 (aj+1) λa7=>ai a7 a6) λa8=>Held a5 λa9=>NilP (some v) λba=>LdH a9 .s (ba.add 5) λ(bb:Sl)=>NilP (some v) λbc=>LdH a9 .s (bc.add 6) λ(bd:Sl)=>(Nw (.cells #[.pointer az] 152 (0,0)) a5 λbe bf=>And (a9 bf) <| (App bb 1 8 152 [.pointer none] ⟨some be,1,1⟩ bf λbg bh=>And (a9 bh) <| Nw (.cells #[.pointer a3] 154 (0,0)) bh λbi bj=>And (a9 bj) <| App bd 1 8 154 [.pointer none] ⟨some bi,1,1⟩ bj λbk bl=>And (a9 bl) <|
 NilP (some v) λbm=>St1 (bm.add 5) (.slice bg.a bg.len bg.cap) bl λbn=>NilP (some v) λbo=>St1 (bo.add 6) (.slice bk.a bk.len bk.cap) bn λbp=>a8 bp) ∧ (Nw (.cells #[.pointer a3] 154 (0,0)) bf λbq br=>And (a9 br) <| App bb 1 8 152 [.pointer none] ⟨some be,1,1⟩ br λbs bt=>And (a9 bt) <| App bd 1 8 154 [.pointer none] ⟨some bq,1,1⟩ bt λbu bv=>And (a9 bv) <| NilP (some v) λbw=>St1 (bw.add 5) (.slice bs.a bs.len bs.cap) bv λbx=>NilP (some v) λbz=>St1 (bz.add 6) (.slice bu.a bu.len bu.cap) bx λb0=>a8 b0)) ∧ (Nw (.cells #[.pointer a3] 154 (0,0)) a5 λb1 b2=>And (a9 b2) <| Nw (.cells #[.pointer az] 152 (0,0)) b2 λb3 b4=>And (a9 b4) <| App bb 1 8 152 [.pointer none] ⟨some b3,1,1⟩ b4 λb5 b6=>And (a9 b6) <| App bd 1 8 154 [.pointer none] ⟨some b1,1,1⟩ b6 λb7 b8=>And (a9 b8) <| NilP (some v) λb9=>St1 (b9.add 5) (.slice b5.a b5.len b5.cap) b8 λca=>NilP (some v) λcb=>St1 (cb.add 6) (.slice b7.a b7.len b7.cap) ca λcc=>a8 cc)) (e (some v) 0 ak))) λcd=>If l (cd true m) (cd (decide (c>8)) m)) λce=>If j (ce true k) (ce (decide (c<0)) k)) λcf=>If (h<32) (cf true i) (Nz 16 <| cf ((h.tmod 16) != 0) i))
theorem QX.o {a b c d e}(f:QX.v a b c d e):QX.c a b c d e:=Wa Tryz.func107 (x:=QX.h) (R0 f)
def Wz.h:Hn:=.q .o2 (.q (.q .o4 (.q .o2 (.c (.q .o3 .l) .l))) (.q (.o 12) .l))
def Wz.v (a:R2)(b:Int)(c:Hp)(d:Sl->Int->Hp->Prop):Prop:=WY.c a b c λe f=>If (e != 0) (d ⟨none,0,0⟩ e f) (NilP a λg=>LdS (g.add 6) f λh=>Ix h.a h.len b 1 λi=>LdP i f λj=>Wy.c j f λk l m=>d k l m)
theorem Wz.o {a b c d}(e:Wz.v a b c d):Wz.c a b c d:=Wa Tryz.func113 (x:=Wz.h) (R0 e)
def WC.h:Hn:=.q .o2 (.q (.q .o4 (.q .o2 (.c (.q .o3 .l) .l))) (.q (.o 13) .l))
def WC.v (a:R2)(b c:Int)(d:Hp)(e:Sl->Int->Hp->Prop):Prop:=WY.c a b d λf g=>If (f != 0) (e ⟨none,0,0⟩ f g) (NilP a λh=>LdS (h.add 5) g λi=>Ix i.a i.len b 1 λj=>LdP j g λk=>Xa.c k c g λl m n=>e l m n)
theorem WC.o {a b c d e}(f:WC.v a b c d e):WC.c a b c d e:=Wa Tryz.func115 (x:=WC.h) (R0 f)
def Ya.h:Hn:=.q .o1 (.q (.q .o4 (.q .o2 (.c (.q .o2 .l) .l))) (.q (.o 17) (.q (.q .o2 (.c (.q .o2 .l) .l)) (.q .o10 .l))))
def Ya.v (a:R2)(b:Int)(c:Hp)(d:Int->Hp->Prop):Prop:=WY.c a b c λe f=>If (e != 0) (d e f) (NilP a λg=>LdS (g.add 0) f λh=>Ix h.a h.len b 3 λi=>LdI .i64 (i.add 1) f λj=>Ar .i64 (b+1) λk=>YK.c a j 1 k f λl m n=>If (m != 0) (d m n) (NilP a λo=>LdS (o.add 5) n λp=>Ix p.a p.len b 1 λq=>LdP q n λr=>YV.c r l n λs t=>d s t))
theorem Ya.o {a b c d}(e:Ya.v a b c d):Ya.c a b c d:=Wa Tryz.func116 (x:=Ya.h) (R0 e)
def WS.h:Hn:=.q .o2 (.q (.k (.q .o4 (.c (.q .o2 .l) (.q (.reg (.seq [.op,.op,.op,.grd false 2 [.op,.op],.op,.grd false 2 [.op,.op],.op,.grd false 2 [.op,.op],.op,.grd false 5 (RI.ops 5),.op])) (.c (.q .o2 .l) .l))))) (.q .o9 (.q (.q .o2 (.c (.q .o3 .l) .l)) (.q .o7 (.q .o3 .l)))))
def WS.v (a:R2)(b c:Int)(d:Hp)(e:Int->Int->Hp->Prop):Prop:=WG.c a d λf g=>If (!f) (e 0 5 g) (JnB (λh i=>JnB (λj k=>JnB (λl m=>JnB (λn o=>If n (e 0 1 o) (YK.c a b c 41 o λp q r=>If (q != 0) (e 0 q r) (NilP a λs=>LdM (s.add 7) r λt=>MSet .i64 (.i .i64) t p b r λu=>e p 0 u))) λv=>If l (v true m) (Ar .i64 (c-1) λw=>v ((bits .and .i64 c w) != 0) m)) λx=>If j (x true k) (x (decide (c>16)) k)) λy=>If h (y true i) (y (decide (c<1)) i)) λz=>If (b<1) (z true g) (z (decide (b>64)) g))
theorem WS.o {a b c d e}(f:WS.v a b c d e):WS.c a b c d e:=Wa Tryz.func118 (x:=WS.h) (R0 f)
def WQ.h:Hn:=.q .o1 (.q (.q .o3 (.c (.q .o1 .l) .l)) (.q (.o 11) (.q (.q .o2 (.c (.q .o1 .l) .l)) (.q .o6 (.q .o6 (.q .o1 .l))))))
def WQ.v (a:R2)(b:Int)(c:Hp)(d:Int->Hp->Prop):Prop:=WG.c a c λe f=>If (!e) (d 5 f) (NilP a λg=>LdM (g.add 7) f λh=>Lk .i64 (.i .i64) h b f λi=>If (!i.isSome) (d 8 f) (NilP a λj=>LdM (j.add 7) f λk=>MDel .i64 (.i .i64) k b f λl=>Nw (.cells #[.I b,.I (i.getD 0)] 212 (0,0)) l λm n=>Xc.c a ⟨some m,1,1⟩ n λo=>d 0 o))
theorem WQ.o {a b c d}(e:WQ.v a b c d):WQ.c a b c d:=Wa Tryz.func126 (x:=WQ.h) (R0 e)
def Xc.h:Hn:=.q .o3 (.k (.loop [(8,.I)] (.q .o1 (.q (.c .l .l) (.q (.k (.q .o4 (.q (.reg (.tail 8 (RI.ops 8) [.op])) (.q (.reg (.tail 8 (RI.ops 8) [.op])) (.reg (.tail 8 (RI.ops 8) [.op])))))) .o2)))))
def Xc.v (a:R2)(b:Sl)(c:Hp)(d:Hp->Prop):Prop:=Xo [(.i .i64)] (λe=>e 0 c) λf (g:Int) h=>If (g<((b.len:Nat):Int)) (Ix b.a b.len g 2 λi=>LdI .i64 (i.add 0) h λj=>LdI .i64 (i.add 1) h λk=>Nw (.cells #[.I 0,.I 0] 212 (0,0)) h λl m=>St1 (l.add 0) (.I j) m λn=>St1 (l.add 1) (.I k) n λo=>NilP a λp=>LdP (p.add 4) o λq=>LdI .i64 (l.add 0) o λr=>LdI .i64 (l.add 1) o λs=>XN.c q r s o λt u=>NilP a λv=>LdP (v.add 3) u λw=>LdI .i64 (l.add 0) u λx=>LdI .i64 (l.add 1) u λy=>Xs.c w x y u λz aa=>NilP a λab=>LdP (ab.add 2) aa λac=>LdI .i64 (l.add 0) aa λad=>LdI .i64 (l.add 1) aa λae=>X6.c ac ad ae aa λaf ag=>Ar .i64 (g+1) λah=>f ah ag) (d h)
theorem Xc.o {a b c d}(e:Xc.v a b c d):Xc.c a b c d:=Wa Tryz.func128 (x:=Xc.h) (R0 e)
def WA.h:Hn:=.q .o1 (.q (.q .o4 (.q .o2 (.c (.q .o2 .l) .l))) (.q (.o 14) (.q (.q .o2 (.c (.q .o2 .l) .l)) (.q .o3 (.q .o1 .l)))))
def WA.v (a:R2)(b:Int)(c:Sl)(d:Hp)(e:Int->Hp->Prop):Prop:=WY.c a b d λf g=>If (f != 0) (e f g) (NilP a λh=>LdS (h.add 5) g λi=>Ix i.a i.len b 1 λj=>LdP j g λk=>YP.c k c g λl m n=>If (m != 0) (e m n) (Xc.c a l n λo=>e 0 o))
theorem WA.o {a b c d e}(f:WA.v a b c d e):WA.c a b c d e:=Wa Tryz.func138 (x:=WA.h) (R0 f)
def YW.h:Hn:=.q .o1 (.q (.reg (.seq [.op,.op,.op,.grd true 7 (RI.ops 7),.op])) .l)
def YW.v (a:R2)(b:Int)(c:Hp)(d:Bool->Hp->Prop):Prop:=WG.c a c λe f=>JnB (λg h=>d g h) λi=>If e (NilP a λj=>LdP (j.add 3) f λk=>XV.c k b f λl m=>i (decide (l>0)) m) (i false f)
theorem YW.o {a b c d}(e:YW.v a b c d):YW.c a b c d:=Wa Tryz.func155 (x:=YW.h) (R0 e)
def WY.h:Hn:=.q .o1 (.q (.k (.q .o4 (.c (.q .o1 .l) (.q (.reg (.seq [.op,.op,.op,.grd false 7 (RI.ops 7),.op])) (.c (.q .o1 .l) .l))))) (.q .o1 .l))
def WY.v (a:R2)(b:Int)(c:Hp)(d:Int->Hp->Prop):Prop:=WG.c a c λe f=>If (!e) (d 5 f) (JnB (λg h=>If g (d 1 h) (d 0 h)) λi=>If (b<0) (i true f) (NilP a λj=>LdS (j.add 0) f λk=>i (decide (b≥((k.len:Nat):Int))) f))
theorem WY.o {a b c d}(e:WY.v a b c d):WY.c a b c d:=Wa Tryz.func163 (x:=WY.h) (R0 e)
def YK.h:Hn:=.q .o2 (.q (.o 12) (.sjn [(10,.I),(11,.I)] (.q .o2 (.c (.q .o1 (.q (.k (.loop [(12,.I)] (.q (.q .o5 (.c .l .l)) (.k .o3)))) (.q (.q .o4 (.c (.q .o2 .l) .l)) (.o 12)))) .l)) (.q (.q .o2 (.c (.q .o3 .l) .l)) (.q .o7 (.q .o8 (.q .o3 .l))))))
def YK.v (a:R2)(b c d:Int)(e:Hp)(f:Int->Int->Hp->Prop):Prop:=NilP a λg=>LdP (g.add 2) e λh=>XU.c h b c e λi j k=>Jn [(.i .i64),(.i .i64)] (λ(l:Int) (m:Int) n=>If (m != 0) (f 0 m n) (NilP a λo=>LdP (o.add 3) n λp=>XF.c p l b n λq r=>NilP a λs=>LdP (s.add 4) r λt=>X7.c t l b d r λu v=>f l 0 v)) λw=>If (j==6) (Xo [(.i .i64)] (λx=>x 16 k) λy (z:Int) aa=>If (z<(if c>b then c else b)) (Ar .i64 (z*2) λab=>y ab aa) (YZ.c a z aa λac ad=>If (!ac) (f 0 6 ad) (NilP a λae=>LdP (ae.add 2) ad λaf=>XU.c af b c ad λag ah ai=>w ag ah ai))) (w i j k)
theorem YK.o {a b c d e f}(g:YK.v a b c d e f):YK.c a b c d e f:=Wa Tryz.func166 (x:=YK.h) (R0 g)
def WH.h:Hn:=.q .o2 (.q (.q .o4 (.q .o2 (.c (.q .o3 .l) .l))) (.q (.q (.o 11) (.c (.q .o2 .l) .l)) (.q (.q .o3 (.k (.loop [(32,.I)] (.q .o1 (.q (.c .l .l) (.q (.k (.q .o3 (.q (.o 14) (.q (.reg (.seq [.op,.op,.op,.grd false 2 [.op,.op]])) (.c (.q .o2 .l) .l))))) .o2)))))) (.q (.o 13) .l))))
def WH.v (a:R2)(b:Int)(c:Sl)(d:Hp)(e:Bool->Int->Hp->Prop):Prop:=WY.c a b d λf g=>If (f != 0) (e false f g) (NilP a λh=>LdS (h.add 0) g λi=>Ix i.a i.len b 3 λj=>LdI .i64 (j.add 2) g λk=>If (((c.len:Nat):Int) != k) (e false 1 g) (Xo [(.i .i64)] (λl=>l 0 g) λm (n:Int) o=>If (n<((c.len:Nat):Int)) (Ix c.a c.len n 1 λp=>LdI .i64 p o λq=>NilP a λr=>LdS (r.add 5) o λs=>Ix s.a s.len b 1 λt=>LdP t o λu=>W6.c u q o λv w x=>JnB (λy z=>If y (e false 8 z) (Ar .i64 (n+1) λaa=>m aa z)) λab=>If (w != 0) (ab true x) (ab (!v) x)) (NilP a λac=>LdS (ac.add 6) o λad=>Ix ad.a ad.len b 1 λae=>LdP ae o λaf=>W9.c af c o λag ah ai=>e ag ah ai)))
theorem WH.o {a b c d e}(f:WH.v a b c d e):WH.c a b c d e:=Wa Tryz.func174 (x:=WH.h) (R0 f)
def YZ.h:Hn:=.q .o1 (.q (.q .o2 (.k (.loop [(5,.I)] (.q (.q .o9 (.c .l .l)) (.q (.k (.q (.q .o8 (.c .l .l)) (.q (.q .o3 (.k (.loop [(6,.I)] (.q (.q .o6 (.c .l .l)) (.q (.k .o6) .o3))))) (.q .o7 (.q .o1 .l))))) .o4))))) (.q .o1 .l))
def YZ.v (a:R2)(b:Int)(c:Hp)(d:Bool->Hp->Prop):Prop:=Xo [(.i .i64)] (λe=>e b c) λf (g:Int) h=>Ar .i64 (g+b) λi=>NilP a λj=>LdP (j.add 1) h λk=>XO.c k h λl m=>If (i<=l) (NilP a λn=>LdP (n.add 1) m λo=>Y6.c o g b m λp q=>If (p != 0) (Ar .i64 (g+b) λr=>f r q) (Nz 16<|Ar .i64 (g.tdiv 16) λs=>Xo [(.i .i64)] (λt=>t s q) λu (v:Int) w=>Ar .i64 (g+b) λx=>Nz 16<|Ar .i64 (x.tdiv 16) λy=>If (v<y) (NilP a λz=>LdP (z.add 3) w λaa=>X8.c aa v w λab ac=>Ar .i64 (v+1) λad=>u ad ac) (NilP a λae=>LdP (ae.add 2) w λaf=>X6.c af g b w λag ah=>d true ah))) (d false m)
theorem YZ.o {a b c d}(e:YZ.v a b c d):YZ.c a b c d:=Wa Tryz.func221 (x:=YZ.h) (R0 e)
end Go.Proofs
namespace Go.Ar
open Go Go.Vc Go.Proofs
open Go.Bu (Y3 QL Zf)
inductive Lb where
 | hd|tab|free|trk|own|crow|trow|runs
 | cen (k:Nat)
 | tra (k:Nat)
 deriving DecidableEq
structure Lay where
 p:Nat
 hs:Nat
 fr:Nat
 tr:Nat
 op:Nat
 rn:Nat
 tab:Sl
 crow:Sl
 trow:Sl
 cps:List Nat
 tps:List Nat
def hdV (Y:Lay):List Value:=[.slice Y.tab.a Y.tab.len Y.tab.cap,.pointer (some ⟨Y.hs,0,none⟩),.pointer (some ⟨Y.fr,0,none⟩),.pointer (some ⟨Y.tr,0,none⟩),.pointer (some ⟨Y.op,0,none⟩),.slice Y.crow.a Y.crow.len Y.crow.cap,.slice Y.trow.a Y.trow.len Y.trow.cap,.map (some Y.rn)]
def tabV (tb:List Cls):List Value:=tb.flatMap λc=>[.int .i64 (c.size:Int),.int .i64 (c.pages:Int),.int .i64 (c.batch:Int)]
def ptrV (l:List Nat):List Value:=l.map λb=>.pointer (some ⟨b,0,none⟩)
def runI (l:List (Nat×Nat)):List (Int×Int):=l.map λr=>((r.1:Int),(r.2:Int))
def Wee (p n:Nat)(S:Nat->Bool):Hp->Rg->Prop:=λU F=>∃sb ms,Go.Bu.BH U p n S sb ms/\∀b,Go.Bu.fp p sb ms b->F b
def TrkR (p:Nat)(st:List Nat):Hp->Rg->Prop:=λU F=>∃q,TrH U p q st/\F p/\F q
def CenR (p:Option Nat)(c:Option Cls)(ss:Option (List SpA)):Hp->Rg->Prop:=λU F=>match p,c,ss with
 | some p,some c,some ss=>∃ps,CeH U F p c ps ss
 | _,_,_=>True
def TraR (p:Option Nat)(c:Option Cls)(room:Nat)(t:Option TrA):Hp->Rg->Prop:=λU F=>match p,c,t with
 | some p,some c,some t=>TfH U F p c.batch room t
 | _,_,_=>True
def AC (A:AR)(Y:Lay)(T:Nat->Hp->Rg->Prop):Lb->Hp->Rg->Prop
 | .hd=>BlkR Y.p (hdV Y)
 | .tab=>SlR Y.tab 3 (tabV A.tb)
 | .free=>Wee Y.fr A.n A.S
 | .trk=>TrkR Y.tr A.st
 | .own=>λU F=>PmH U F Y.op A.ow
 | .crow=>RowR Y.crow 1 (ptrV Y.cps)
 | .trow=>RowR Y.trow 1 (ptrV Y.tps)
 | .runs=>MapR Y.rn .i64 (.i .i64) (runI A.runs)
 | .cen k=>CenR Y.cps[k]? A.tb[k]? A.cen[k]?
 | .tra k=>T k
def traT (A:AR)(Y:Lay)(k:Nat):Hp->Rg->Prop:=TraR Y.tps[k]? A.tb[k]? A.room A.tra[k]?
theorem Wee.loc (p n:Nat)(S:Nat->Bool):Lcl (Wee p n S):=by
 rintro U σ' F G ⟨sb,ms,h,hf⟩ hz hs;have hlt:∀b,Go.Bu.fp p sb ms b->b<U.size:=λb hb=>by
  unfold Go.Bu.fp at hb;rcases zR.1 hb with h1|h1
  ·obtain⟨c,hc⟩:=h.hd;rw[h1];exact hc.lt
  rcases zR.1 h1 with h2|h2
  ·obtain⟨c,hc⟩:=h.row;rw[h2];exact hc.lt
  ·obtain⟨k,hk⟩:=zM h2;obtain⟨B,hB,_⟩:=h.maps k b hk;exact hB.lt
 have e:Ext (λb=>¬Go.Bu.fp p sb ms b) U σ':=⟨hz,λb hb hf'=>(hs b hb (hf b (Classical.not_not.1 hf'))).2⟩;exact⟨sb,ms,h.keep e λb hb hn=>hn hb,λb hb=>(hs b (hlt b hb) (hf b hb)).1⟩
theorem TrkR.loc (p:Nat)(st:List Nat):Lcl (TrkR p st):=by
 rintro U σ' F G ⟨q,h,hp,hq⟩ hz hs;have e:Ext (λb=>b≠p/\b≠q) U σ':=⟨hz,λb hb hf=>by
  by_cases h1:b=p
  ·subst h1;exact(hs b hb hp).2
  ·have h2:b=q:=Classical.byContradiction λh2=>hf ⟨h1,h2⟩;subst h2;exact(hs b hb hq).2⟩
 exact⟨q,h.keep e (λhx=>hx.1 rfl) (λhx=>hx.2 rfl),(hs p h.lt.1 hp).1,(hs q h.lt.2 hq).1⟩
theorem CenR.loc (p:Option Nat)(c:Option Cls)(ss:Option (List SpA)):Lcl (CenR p c ss):=by
 rintro U σ' F G h hz hs;unfold CenR at *;split
 ·simp only at h;obtain⟨ps,h⟩:=h;exact⟨ps,CeH.loc _ _ _ _ h hz hs⟩
 ·trivial
theorem TraR.loc (p:Option Nat)(c:Option Cls)(room:Nat)(t:Option TrA):Lcl (TraR p c room t):=by
 rintro U σ' F G h hz hs;unfold TraR at *;split
 ·exact TfH.loc _ _ _ _ h hz hs
 ·trivial
theorem AC.loc {A:AR}{Y:Lay}{T:Nat->Hp->Rg->Prop}(hT:∀k,Lcl (T k)):∀i,Lcl (AC A Y T i)
 | .hd=>BlkR.loc _ _
 | .tab=>SlR.loc _ _ _
 | .free=>Wee.loc _ _ _
 | .trk=>TrkR.loc _ _
 | .own=>PmH.loc
 | .crow=>RowR.loc _ _ _
 | .trow=>RowR.loc _ _ _
 | .runs=>MapR.loc _ _ _ _
 | .cen k=>CenR.loc _ _ _
 | .tra k=>hT k
theorem traT.loc {A:AR}{Y:Lay}(k:Nat):Lcl (traT A Y k):=TraR.loc _ _ _ _
structure LayOk (A:AR) (Y:Lay):Prop where
 c:Y.cps.length=A.tb.length
 t:Y.tps.length=A.tb.length
 cen:A.cen.length=A.tb.length
 tra:A.tra.length=A.tb.length
 tb1:1<=A.tb.length
 tb2:A.tb.length<=40
 n1:32<=A.n
 n2:A.n<=1024
 n3:A.n%16=0
 st:A.st.length=A.n
 room:A.room<=8
 ok:∀c∈A.tb,c.ok
structure AHY (U:Hp) (F:Rg) (Y:Lay) (A:AR) (T:Nat->Hp->Rg->Prop):Prop where
 lay:LayOk A Y
 tl:∀k,Lcl (T k)
 sep:Sep (AC A Y T) U F
def AH (U:Hp)(F:Rg)(p hs:Nat)(A:AR):Prop:=∃Y:Lay,Y.p=p/\Y.hs=hs/\AHY U F Y A (traT A Y)
variable {U:Hp}{F:Rg}{p hs:Nat}{A:AR}{Y:Lay}{T:Nat->Hp->Rg->Prop}
theorem AHY.loc:Lcl λU F=>AHY U F Y A T:=λU σ' F G h hz hs=>⟨h.lay,h.tl,Sep.loc (AC.loc h.tl) _ _ _ _ h.sep hz hs⟩
theorem AH.loc:Lcl λU F=>AH U F p hs A:=λU σ' F G ⟨Y,h1,h2,h⟩ hz hs=>⟨Y,h1,h2,AHY.loc _ _ _ _ h hz hs⟩
theorem AHY.keep0 {σ':Hp}(h:AHY U F Y A T)(e:Ext0 U σ'):AHY σ' F Y A T:=Lcl.keep0 AHY.loc h e
theorem AHY.hd (h:AHY U F Y A T):Blk U Y.p (hdV Y):=by
 obtain⟨G,hG,hp,hb⟩:=h.sep.get .hd;exact hb
theorem Vr (tb:List Cls):(tabV tb).length=tb.length*3:=by
 induction tb with
 | nil=>rfl
 | cons x l ih=>simp only[tabV,zBR,zQ,zV,zAK]at *;omega
theorem GI {tb:List Cls}{i:Nat}{c:Cls}(h:tb[i]?=some c):(tabV tb)[3*i]?=some (.int .i64 (c.size:Int))/\(tabV tb)[3*i+1]?=some (.int .i64 (c.pages:Int))/\(tabV tb)[3*i+2]?=some (.int .i64 (c.batch:Int)):=by
 induction tb generalizing i with
 | nil=>simp at h
 | cons x l ih=>
  have e:tabV (x::l)=[.int .i64 (x.size:Int),.int .i64 (x.pages:Int),.int .i64 (x.batch:Int)]++tabV l:=by simp[tabV]
  rw[e];cases i with
  | zero=>simp at h;subst h;simp
  | succ i=>
   have:=ih (i:=i) (by simpa using h);rw[show 3*(i+1)=3*i+3 by omega];simpa using this
theorem AHY.tabL (h:AHY U F Y A T):Y.tab.len=A.tb.length:=by
 obtain⟨G,hG,hb⟩:=h.sep.get .tab;have:=hb.1;rw[Vr]at this;omega
theorem Gf {s:Sl}{tb:List Cls}(h:SlR s 3 (tabV tb) U F){k d:Nat}{c:Cls}(hc:tb[k]?=some c)(hd:d<3){K:Int->Prop}(hK:K (if d=0 then c.size else if d=1 then c.pages else c.batch:Nat)) :
 Ix s.a s.len (k:Int) 3 λa=>LdI .i64 (a.add d) U K:=by
 have hg:=GI hc;have hv:(tabV tb)[3*k+d]?=some (.int .i64 ((if d=0 then c.size else if d=1 then c.pages else c.batch:Nat):Int)):=by
  match d,hd with
  | 0,_=>exact hg.1
  | 1,_=>exact hg.2.1
  | 2,_=>exact hg.2.2
 have hk:=(gSi.1 hc).1;obtain⟨b,o,ha,hcell⟩:=h.cell hv;have hl:=h.1;rw[Vr]at hl;rw[ha];refine ix (by omega) (by omega) ?_;rw[add_lit,add_lit];refine ldI ?_ hK;rw[show o+(k:Int).toNat*3+d=o+(3*k+d) by omega];exact hcell
theorem AHY.tabR (h:AHY U F Y A T){k d:Nat}{c:Cls}(hc:A.tb[k]?=some c)(hd:d<3){K:Int->Prop}(hK:K (if d=0 then c.size else if d=1 then c.pages else c.batch:Nat)) :
 Ix Y.tab.a Y.tab.len (k:Int) 3 λa=>LdI .i64 (a.add d) U K:=by
 obtain⟨G,hG,hb⟩:=h.sep.get .tab;exact Gf hb hc hd hK
theorem WhA {s:Sl}{l:List Nat}(h:SlR s 1 (ptrV l) U F){k q:Nat}(hq:l[k]?=some q){K:Option Addr->Prop}(hK:K (some ⟨q,0,none⟩)):Ix s.a s.len (k:Int) 1 λa=>LdP a U K:=by
 have hk:=(gSi.1 hq).1;obtain⟨b,o,ha,hcell⟩:=h.cell (j:=k) (v:=.pointer (some ⟨q,0,none⟩)) (by simp[ptrV,hq]);have hl:=h.1;simp[ptrV]at hl;rw[ha];refine ix (by omega) (by omega) ?_;rw[add_lit];exact ldP (by rw[show o+(k:Int).toNat*1=o+k by omega];exact hcell) hK
theorem AHY.crowL (h:AHY U F Y A T):Y.crow.len=A.tb.length:=by
 obtain⟨G,hG,hb⟩:=h.sep.get .crow;have:=hb.1;have:=h.lay.c;simp[ptrV]at *;omega
theorem AHY.trowL (h:AHY U F Y A T):Y.trow.len=A.tb.length:=by
 obtain⟨G,hG,hb⟩:=h.sep.get .trow;have:=hb.1;have:=h.lay.t;simp[ptrV]at *;omega
theorem AHY.crowR (h:AHY U F Y A T){k q:Nat}(hq:Y.cps[k]?=some q){K:Option Addr->Prop}(hK:K (some ⟨q,0,none⟩)):Ix Y.crow.a Y.crow.len (k:Int) 1 λa=>LdP a U K:=by
 obtain⟨G,hG,hb⟩:=h.sep.get .crow;exact WhA (RowR.slR hb) hq hK
theorem AHY.trowR (h:AHY U F Y A T){k q:Nat}(hq:Y.tps[k]?=some q){K:Option Addr->Prop}(hK:K (some ⟨q,0,none⟩)):Ix Y.trow.a Y.trow.len (k:Int) 1 λa=>LdP a U K:=by
 obtain⟨G,hG,hb⟩:=h.sep.get .trow;exact WhA (RowR.slR hb) hq hK
theorem AHY.at_ (h:AHY U F Y A T){k:Nat}(hk:k<A.tb.length):∃c ss q t r,A.tb[k]?=some c/\A.cen[k]?=some ss/\Y.cps[k]?=some q/\A.tra[k]?=some t/\Y.tps[k]?=some r/\c.ok:=by
 have h1:=h.lay.c;have h2:=h.lay.t;have h3:=h.lay.cen;have h4:=h.lay.tra;exact⟨A.tb[k],A.cen[k],Y.cps[k],A.tra[k],Y.tps[k],by simp,by simp,by simp,by simp,by simp,h.lay.ok _ (zk hk)⟩
theorem WnW {k q:Nat}{c:Cls}{ss:List SpA}{G:Rg}(h1:Y.cps[k]?=some q)(h2:A.tb[k]?=some c)(h3:A.cen[k]?=some ss)(h:AC A Y T (.cen k) U G):∃ps,CeH U G q c ps ss:=by
 simp only[AC]at h;rw[h1,h2,h3]at h;exact h
theorem AHY.cen (h:AHY U F Y A T){k q:Nat}{c:Cls}{ss:List SpA}(h1:Y.cps[k]?=some q)(h2:A.tb[k]?=some c)(h3:A.cen[k]?=some ss):∃G ps,(∀b,G b->F b)/\CeH U G q c ps ss:=by
 obtain⟨G,hG,hb⟩:=h.sep.get (.cen k);obtain⟨ps,hc⟩:=WnW h1 h2 h3 hb;exact⟨G,ps,hG,hc⟩
theorem Vv (h:AHY U F Y A T){R:Bool->Hp->Prop}(hR:R true U):WG.c (some ⟨Y.p,0,none⟩) U R:=by
 refine WG.o ?_;unfold WG.v;exact JnB.intro (ifT rfl (nilP (h.hd.rP rfl hR)))
theorem Uk (h:AHY U F Y A T)(k:Int){R:Int->Hp->Prop}(h1:A.ck k=false->R 1 U)(h0:∀x:Nat,k=x->x<A.tb.length->R 0 U):WY.c (some ⟨Y.p,0,none⟩) k U R:=by
 refine WY.o ?_;unfold WY.v;have hl:=h.tabL;have bad:¬(0<=k/\k<A.tb.length)->R 1 U:=λhn=>h1 (by unfold AR.ck;rw[←zDN];exact zH hn);refine Vv h (ifF rfl (JnB.intro (ifD (λc1=>ifT rfl (bad (by omega))) λc1=>nilP (h.hd.rS rfl (ifD (λc2=>?_) λc2=>?_)))))
 ·simp only at c2;exact bad (by omega)
 ·simp only at c2;exact h0 k.toNat (by omega) (by omega)
theorem WlL (h:AHY U F Y A T)(x:Int){R:Bool->Hp->Prop}(hR:R (War A x) U):YW.c (some ⟨Y.p,0,none⟩) x U R:=by
 refine YW.o ?_;unfold YW.v;obtain⟨G,hG,q,hT,_⟩:=h.sep.get .trk;refine Vv h (JnB.intro (ifT rfl (nilP (h.hd.rP rfl (Wg4 hT x ?_)))));have:decide (stI A.st x>0)=War A x:=by
  unfold stI War;by_cases hx:0<=x
  ·by_cases hl:x<A.st.length
   ·rw[zB ⟨hx,hl⟩,zI hx,zEI,decide_eq_decide];omega
   ·rw[zA (by omega),zI hx,zEI,zL,zU (by omega)];rfl
  ·rw[zA (by omega),zH hx];rfl
 rw[this];exact hR
structure RunsOk (A:AR):Prop where
 dis:∀r∈A.runs,∀s∈A.runs,∀x,r.1<=x->x<r.1+r.2->s.1<=x->x<s.1+s.2->r=s
 big:∀x,x<1024->A.ow x=41->(WcQ A x).isSome=true
 cls:∀x,x<1024->A.ow x≠0->A.ow x≠41->A.ow x<=A.tb.length
 fit:∀r∈A.runs,r.1+r.2<=1024
theorem WbM (h:RunsOk A){x:Nat}{r:Nat×Nat}(hr:r∈A.runs)(h1:r.1<=x)(h2:x<r.1+r.2):WcQ A x=some r:=by
 cases hf:WcQ A x with
 | none=>
  unfold WcQ at hf;rw[zBW]at hf;have:=hf r hr;simp[h1,h2]at this
 | some s=>
  unfold WcQ at hf;have hs:=zCZ hf;have hp:=zCY hf;simp at hp;rw[h.dis r hr s hs x h1 h2 hp.1 hp.2]
theorem WlD (h:AHY U F Y A T)(hr:RunsOk A)(x:Int)(hx:I63 x){R:Int->Int->Int->Hp->Prop}(h1:∀σ' k a,Ext0 U σ'->UN A x=some (k,a)->R k (a:Int) 0 σ')(h0:∀σ',Ext0 U σ'->UN A x=none->R 0 0 8 σ') :
 YU.c (some ⟨Y.p,0,none⟩) x U R:=by
 refine YU.o ?_;unfold YU.v;refine Vv h (ifF rfl (ifD (λc1=>h0 U (Ext.refl _ _) (by unfold UN;rw[zB c1])) λc1=>nilP (h.hd.rP rfl (nz (by decide) ?_))));obtain⟨y,rfl⟩:=ze (show 0<=x by omega);have hy:y<=9223372036854775807:=by unfold I63 at hx;omega
 have tp:((y:Int).tdiv 256)=((y/256:Nat):Int):=by rw[Xm (by omega)];simp
 refine ar (by rw[tp];omega) (by rw[tp];omega) ?_;rw[tp];obtain⟨G,hG,hP⟩:=h.sep.get .own;refine WnH hP _ ?_;have eo:owI A.ow ((y/256:Nat):Int)=if y/256<1024 then A.ow (y/256)else 0:=by
  unfold owI;by_cases hl:y/256<1024
  ·rw[zB (by omega),zB hl];rfl
  ·rw[zA (by omega),zA hl]
 have ef:UN A (y:Int)=(let no:=if y/256<1024 then A.ow (y/256)else 0
  if no=0 then none else if no=41 then(WcQ A (y/256)).map λr=>(-1,r.1*256)else
  match A.tb[no-1]?,A.cen[no-1]? with
  | some c,some ss=>(Wb3 c ss (y:Int)).map λa=>(((no-1:Nat):Int),a)
  | _,_=>none):=by
  unfold UN;rw[zA c1];rfl
 rw[eo];generalize hno:(if y/256<1024 then A.ow (y/256)else 0)=no at *
 simp only at ef;rw[Wf1];refine iff_ (λe0=>h0 U (Ext.refl _ _) (by rw[ef,zB (by simpa using e0)])) λe0=>?_;have hne:no≠0:=by simpa using e0
 rw[zA hne]at ef;have hlt:y/256<1024:=by
  rcases zAH (y/256) 1024 with h|h
  ·exact h
  ·rw[zA (by omega)]at hno;exact absurd hno.symm hne
 rw[zB hlt]at hno;refine Jn.intro ?_;have e41:(((no:Nat):Int)==41)=(no==41):=beqN no 41;rw[e41];refine iff_ (λc2=>?_) λc2=>?_
 ·have h41:no=41:=by simpa using c2
  subst h41;rw[zB rfl]at ef;obtain⟨r,hrr⟩:=zBU.1 (hr.big _ hlt hno);have hrm:=zCZ hrr;have hrp:=zCY hrr;simp at hrp;obtain⟨G,hG,hRm⟩:=h.sep.get .runs;refine nilP (h.hd.rM rfl ?_);refine rng0 hRm.2 (λtodo v=>Ext0 U v/\(∀z∈todo,z∈runI A.runs)/\((r.1:Int),(r.2:Int))∈todo) (λv hz e=>⟨e,λz hz=>hz,zE.2 ⟨r,hrm,rfl⟩⟩) (λv hv=>absurd hv.2.2 (by simp)) ?_;rintro todo n z v v' J ⟨e,hsub,hmem⟩ hm ho hlt2 hJ;have e':Ext0 U v':=Ext.fresh e ho.ext λi hi=>by omega
  obtain⟨s,hs,hse⟩:=zE.1 (hsub _ hm);cases hse;have hfit:=hr.fit s hs;refine nz (by decide) (ar (by omega) (by omega) ?_);refine JnB.intro (ifD (λc3=>ar (by omega) (by omega) (ifD (λc4=>?_) λc4=>?_)) λc3=>ifF rfl ?_)
  ·have hsr:=WbM hr hs (x:=y/256) (by omega) (by omega);refine ar (by omega) (by omega) ?_;have:=h1 v' (-1) (s.1*256) e' (by rw[ef,hsr];rfl);simpa using this
  ·refine hJ v' rfl rfl ⟨e',λu hu=>hsub u (zG.1 hu).1,zG.2 ⟨hmem,?_⟩⟩;have:¬(r.1:Int)=(s.1:Int):=λe=>by
    have:=WbM hr hrm hrp.1 hrp.2;have e1:r.1=s.1:=by omega
    by_cases h2:r.2=0
    ·omega
    by_cases h3:s.2=0
    ·have:=hRm.2.nodup;have hkk:=UX this (zE.2 ⟨r,hrm,rfl⟩);have hkk2:=UX this (zE.2 ⟨s,hs,rfl⟩);rw[e1,hkk2]at hkk;have:s.2=r.2:=by
      have:(s.2:Int)=(r.2:Int):=Option.some.inj hkk;omega
     omega
    ·have:=hr.dis r hrm s hs r.1 (by omega) (by omega) (by omega) (by omega);subst this;omega
   simpa using this
  ·refine hJ v' rfl rfl ⟨e',λu hu=>hsub u (zG.1 hu).1,zG.2 ⟨hmem,?_⟩⟩;have:¬(r.1:Int)=(s.1:Int):=λe=>by omega
   simpa using this
 ·have h41:no≠41:=by simpa using c2
  rw[zA h41]at ef;have hcl:=hr.cls _ hlt (by rw[hno];exact hne) (by rw[hno];exact h41);rw[hno]at hcl;obtain⟨c,ss,q,t,r,hc,hss,hq,_,_,hok⟩:=h.at_ (k:=no-1) (by omega);obtain⟨G,ps,hG,hC⟩:=h.cen hq hc hss;rw[hc,hss]at ef;simp only at ef;refine nilP (h.hd.rS rfl (arN (m:=no-1) (by omega) (by have:=h.lay.tb2;omega) (h.crowR hq (WkV hC _ hx (λa ha=>?_) λha=>?_))))
  ·refine ifF rfl (arN (m:=no-1) (by omega) (by have:=h.lay.tb2;omega) (h1 U _ a (Ext.refl _ _) ?_));rw[ef,ha];rfl
  ·refine ifT rfl (h0 U (Ext.refl _ _) ?_);rw[ef,ha];rfl
end Go.Ar
namespace Go.Ar
open Go Go.Vc Go.Proofs
open Go.Bu (Y3 QL Zf)
open Classical in
theorem _root_.Go.Vc.Sep.stepD {L:Type}{C:L->Hp->Rg->Prop}{U:Hp}{F:Rg}(hC:∀i,Lcl (C i))(h:Sep C U F)(i:L):∃G:Rg,(∀b,G b->F b)/\C i U G/\(∀j,j≠i->∃H:Rg,(∀b,H b->F b)/\(∀b,H b->¬G b)/\C j U H)/\∀(σ':Hp) (C':L->Hp->Rg->Prop) (G':Rg),
 (∀j,j≠i->C' j=C j)->Ext G U σ'->(∀b,G' b->G b\/U.size<=b)->C' i σ' G'->Lcl (C' i)->Sep C' σ' λb=>F b/\b<U.size/\¬G b\/G' b:=by
 obtain⟨ρ,h⟩:=h;refine⟨_,λb hb=>hb.1,h i,λj hj=>⟨_,λb hb=>hb.1,λb h1 h2=>hj (h1.2.symm.trans h2.2),h j⟩,λσ' C' G' hj e hg hi hL=>⟨λb=>if G' b then i else ρ b,λj=>?_⟩⟩
 by_cases hji:j=i
 ·subst hji;exact hL.mono hi λb _ hb=>⟨.inr hb,zB hb⟩
 ·rw[hj j hji];refine hC j _ _ _ _ (h j) e.1 λb hb hf=>?_;have hnG:¬(F b/\ρ b=i):=λhx=>hji (hf.2.symm.trans hx.2);have hnG':¬G' b:=λhx=>by
   rcases hg b hx with h1|h1
   ·exact hnG h1
   ·omega
  exact⟨⟨.inl ⟨hf.1,hb,hnG⟩,(zA hnG').trans hf.2⟩,e.2 b hb hnG⟩
variable {U:Hp}{F:Rg}{p hs:Nat}{A:AR}{Y:Lay}{T:Nat->Hp->Rg->Prop}
theorem AHY.step (h:AHY U F Y A T)(i:Lb):∃G:Rg,(∀b,G b->F b)/\AC A Y T i U G/\(∀j,j≠i->∃H:Rg,(∀b,H b->F b)/\(∀b,H b->¬G b)/\AC A Y T j U H)/\∀(σ':Hp) (A':AR) (Y':Lay) (T':Nat->Hp->Rg->Prop) (G' H:Rg),
 LayOk A' Y'->(∀k,Lcl (T' k))->(∀j,j≠i->AC A' Y' T' j=AC A Y T j)->Ext G U σ'->(∀b,G' b->G b\/U.size<=b)->AC A' Y' T' i σ' G'->(∀b,(F b/\b<U.size/\¬G b\/G' b)->H b)->AHY σ' H Y' A' T':=by
 obtain⟨G,hG,hi,hd,hput⟩:=h.sep.stepD (AC.loc h.tl) i;refine⟨G,hG,hi,hd,λσ' A' Y' T' G' H hL hT hj e hg hi' hH=>⟨hL,hT,?_⟩⟩;exact(Sep.loc (AC.loc hT)).mono (hput σ' _ G' hj e hg hi' (AC.loc hT i)) λb _ hb=>hH b hb
theorem UP {U:Hp}{F G G':Rg}(hG:∀b,G b->F b)(hg:∀b,G' b->G b\/U.size<=b):∀b,(F b/\b<U.size/\¬G b\/G' b)->Grow F U b:=λb hb=>by
 rcases hb with hb|hb
 ·exact .inl hb.1
 ·exact(hg b hb).imp (hG b) id
theorem Wcj {U:Hp}{F G G':Rg}(hG:∀b,G b->F b)(hg:∀b,G' b->G b):∀b,(F b/\b<U.size/\¬G b\/G' b)->F b:=λb hb=>by
 rcases hb with hb|hb
 ·exact hb.1
 ·exact hG b (hg b hb)
theorem WiX {U:Hp}{F G:Rg}(hG:∀b,G b->F b):∀b,(F b/\b<U.size/\¬G b\/Cut G U b)->Cut F U b:=λb hb=>by
 rcases hb with hb|hb
 ·exact⟨hb.1,hb.2.1⟩
 ·exact⟨hG b hb.1,hb.2⟩
theorem Wni {ow:Nat->Nat}:∀j,j≠Lb.own->AC {A with ow:=ow} Y T j=AC A Y T j:=by
 intro j hj;cases j<;>first|rfl|exact absurd rfl hj
theorem Woi {st:List Nat}:∀j,j≠Lb.trk->AC {A with st:=st} Y T j=AC A Y T j:=by
 intro j hj;cases j<;>first|rfl|exact absurd rfl hj
theorem AC_S {S:Nat->Bool}:∀j,j≠Lb.free->AC {A with S:=S} Y T j=AC A Y T j:=by
 intro j hj;cases j<;>first|rfl|exact absurd rfl hj
theorem WlS {rs:List (Nat×Nat)}:∀j,j≠Lb.runs->AC {A with runs:=rs} Y T j=AC A Y T j:=by
 intro j hj;cases j<;>first|rfl|exact absurd rfl hj
theorem Wm7 {k:Nat}{ss:List SpA}:∀j,j≠Lb.cen k->AC {A with cen:=A.cen.set k ss} Y T j=AC A Y T j:=by
 intro j hj;cases j<;>first|rfl|skip
 rename_i k';have hne:k≠k':=λe=>hj (by rw[e]);simp only[AC];rw[zd hne]
theorem LayOk.ow {ow:Nat->Nat}(h:LayOk A Y):LayOk {A with ow:=ow} Y:=⟨h.c,h.t,h.cen,h.tra,h.tb1,h.tb2,h.n1,h.n2,h.n3,h.st,h.room,h.ok⟩
theorem LayOk.setS {S:Nat->Bool}(h:LayOk A Y):LayOk {A with S:=S} Y:=⟨h.c,h.t,h.cen,h.tra,h.tb1,h.tb2,h.n1,h.n2,h.n3,h.st,h.room,h.ok⟩
theorem LayOk.setRuns {rs:List (Nat×Nat)}(h:LayOk A Y):LayOk {A with runs:=rs} Y:=⟨h.c,h.t,h.cen,h.tra,h.tb1,h.tb2,h.n1,h.n2,h.n3,h.st,h.room,h.ok⟩
theorem LayOk.setSt {st:List Nat}(h:LayOk A Y)(hl:st.length=A.st.length):LayOk {A with st:=st} Y:=⟨h.c,h.t,h.cen,h.tra,h.tb1,h.tb2,h.n1,h.n2,h.n3,hl.trans h.st,h.room,h.ok⟩
theorem LayOk.setCen {k:Nat}{ss:List SpA}(h:LayOk A Y):LayOk {A with cen:=A.cen.set k ss} Y:=⟨h.c,h.t,by simpa using h.cen,h.tra,h.tb1,h.tb2,h.n1,h.n2,h.n3,h.st,h.room,h.ok⟩
theorem Wao (st:List Nat)(a m:Int)(v:Nat)(fr:List Nat):(VM st a m v fr).length=st.length:=by
 unfold VM;split<;>simp[Qi]
theorem WjL (st:List Nat)(k:Int):(addT st k).length=st.length:=by
 unfold addT;split<;>simp[Qi]
theorem WkW (st:List Nat)(k:Int):(remT st k).length=st.length:=by
 unfold remT;split<;>simp[Qi]
theorem AHY.Clear (h:AHY U F Y A T)(a m:Nat)(ha:a<=1000000){R:Int->Hp->Prop}(hR:∀σ' t,Ext F U σ'->AHY σ' (Grow F U) Y {A with ow:=setO A.ow a m 0} T->R t σ'):XN.c (some ⟨Y.op,0,none⟩) a m U R:=by
 obtain⟨G,hG,hi,_,hput⟩:=h.step .own;refine WgC hi a m ha λσ' e hP=>hR σ' _ (e.sub hG) ?_;exact hput σ' _ _ T (Grow G U) _ h.lay.ow h.tl Wni e (λb hb=>hb) hP (UP hG λb hb=>hb)
theorem AHY.Set (h:AHY U F Y A T)(a m:Nat)(ha:a<=1000000){no:Nat}(h1:1<=no)(h2:no<=1000){R:Int->Hp->Prop}(hR:∀σ' t,Ext F U σ'->AHY σ' (Grow F U) Y {A with ow:=setO A.ow a m no} T->R t σ'):X7.c (some ⟨Y.op,0,none⟩) a m no U R:=by
 obtain⟨G,hG,hi,_,hput⟩:=h.step .own;refine Wmx hi a m ha h1 h2 λσ' e hP=>hR σ' _ (e.sub hG) ?_;exact hput σ' _ _ T (Grow G U) _ h.lay.ow h.tl Wni e (λb hb=>hb) hP (UP hG λb hb=>hb)
theorem AHY.trk (h:AHY U F Y A T):∃G:Rg,(∀b,G b->F b)/\∃q,TrH U Y.tr q A.st/\F q/\∀(σ':Hp) (st:List Nat),st.length=A.st.length->Ext (· = q) U σ'->TrH σ' Y.tr q st->Ext F U σ'/\AHY σ' F Y {A with st:=st} T:=by
 obtain⟨G,hG,⟨q,hT,gp,gq⟩,_,hput⟩:=h.step .trk;refine⟨G,hG,q,hT,hG _ gq,λσ' st hl e h'=>⟨e.sub λb hb=>by subst hb;exact hG _ gq,?_⟩⟩;exact hput σ' _ _ T G _ (h.lay.setSt hl) h.tl Woi (e.sub λb hb=>by subst hb;exact gq) (λb hb=>.inl hb) ⟨q,h',gp,gq⟩ (Wcj hG λb hb=>hb)
theorem AHY.Unuse (h:AHY U F Y A T)(a m:Int){R:Int->Hp->Prop}(hR:∀σ' t,Ext F U σ'->AHY σ' F Y {A with st:=VM A.st a m 2 [1]} T->R t σ'):Xs.c (some ⟨Y.tr,0,none⟩) a m U R:=by
 obtain⟨G,hG,q,hT,_,hput⟩:=h.trk;refine WjU hT a m λσ' e h'=>?_;have:=hput σ' _ (Wao _ _ _ _ _) e h';exact hR σ' _ this.1 this.2
theorem AHY.Use (h:AHY U F Y A T)(a m:Int){R:Int->Hp->Prop}(hR:∀σ' t,Ext F U σ'->AHY σ' F Y {A with st:=VM A.st a m 1 [2,3]} T->R t σ'):XF.c (some ⟨Y.tr,0,none⟩) a m U R:=by
 obtain⟨G,hG,q,hT,_,hput⟩:=h.trk;refine WnN hT a m λσ' e h'=>?_;have:=hput σ' _ (Wao _ _ _ _ _) e h';exact hR σ' _ this.1 this.2
theorem AHY.Rel (h:AHY U F Y A T)(a m:Int){R:Int->Hp->Prop}(hR:∀σ' t,Ext F U σ'->AHY σ' F Y {A with st:=VM A.st a m 3 [2]} T->R t σ'):W5.c (some ⟨Y.tr,0,none⟩) a m U R:=by
 obtain⟨G,hG,q,hT,_,hput⟩:=h.trk;refine WdM hT a m λσ' e h'=>?_;have:=hput σ' _ (Wao _ _ _ _ _) e h';exact hR σ' _ this.1 this.2
theorem AHY.AddH (h:AHY U F Y A T)(k:Int){R:Int->Hp->Prop}(hR:∀σ' t,Ext F U σ'->AHY σ' F Y {A with st:=addT A.st k} T->R t σ'):X8.c (some ⟨Y.tr,0,none⟩) k U R:=by
 obtain⟨G,hG,q,hT,_,hput⟩:=h.trk;refine Wml hT k λσ' e h'=>?_;have:=hput σ' _ (WjL _ _) e h';exact hR σ' _ this.1 this.2
theorem AHY.RemH (h:AHY U F Y A T)(k:Int){R:Int->Hp->Prop}(hR:∀σ' t,Ext F U σ'->AHY σ' F Y {A with st:=remT A.st k} T->R t σ'):Xf.c (some ⟨Y.tr,0,none⟩) k U R:=by
 obtain⟨G,hG,q,hT,_,hput⟩:=h.trk;refine Wge hT k λσ' e h'=>?_;have:=hput σ' _ (WkW _ _) e h';exact hR σ' _ this.1 this.2
theorem AHY.free (h:AHY U F Y A T):∃sb ms,Go.Bu.BH U Y.fr A.n A.S sb ms/\∀(σ':Hp) (S:Nat->Bool),Ext (· ∈ ms) U σ'->Go.Bu.BH σ' Y.fr A.n S sb ms->Ext F U σ'/\AHY σ' F Y {A with S:=S} T:=by
 obtain⟨G,hG,⟨sb,ms,hB,hf⟩,_,hput⟩:=h.step .free;have hm:∀b,b∈ms->G b:=λb hb=>hf b (by unfold Go.Bu.fp;simp[hb]);refine⟨sb,ms,hB,λσ' S e h'=>⟨e.sub λb hb=>hG b (hm b hb),?_⟩⟩;exact hput σ' _ _ T G _ h.lay.setS h.tl AC_S (e.sub hm) (λb hb=>.inl hb) ⟨sb,ms,h',hf⟩ (Wcj hG λb hb=>hb)
theorem AHY.Give (h:AHY U F Y A T)(a m:Int){R:Int->Hp->Prop}(hR:∀σ' t,Ext F U σ'->AHY σ' F Y {A with S:=QL A.n A.S a m} T->R t σ'):X6.c (some ⟨Y.fr,0,none⟩) a m U R:=by
 obtain⟨sb,ms,hB,hput⟩:=h.free;refine Go.Bu.Give_ok hB a m λσ' e h'=>?_;have:=hput σ' _ e h';exact hR σ' _ this.1 this.2
theorem AHY.TakeRun (h:AHY U F Y A T)(a m:Int){R:Int->Hp->Prop}(hR:∀σ' t,Ext F U σ'->AHY σ' F Y {A with S:=Go.Bu.runS A.n A.S a m} T->R t σ'):Xx.c (some ⟨Y.fr,0,none⟩) a m U R:=by
 obtain⟨sb,ms,hB,hput⟩:=h.free;refine Go.Bu.TakeRun_ok hB a m λσ' e h'=>?_;have:=hput σ' _ e h';exact hR σ' _ this.1 this.2
theorem AHY.TakeB (h:AHY U F Y A T)(a m:Int){R:Int->Int->Hp->Prop}(hR:∀σ',Ext F U σ'->AHY σ' F Y {A with S:=Go.Bu.takeS A.n A.S a m} T->R ((Go.Bu.takeV A.n A.S a m:Nat):Int) (Go.Bu.takeE A.n A.S a m) σ'):XU.c (some ⟨Y.fr,0,none⟩) a m U R:=by
 obtain⟨sb,ms,hB,hput⟩:=h.free;refine Go.Bu.Take_ok hB a m λσ' e h'=>?_;have:=hput σ' _ e h';exact hR σ' this.1 this.2
def rV (rs:List (Nat×Nat)):List Value:=rs.flatMap λr=>[.int .i64 (r.1:Int),.int .i64 (r.2:Int)]
theorem WeE (rs:List (Nat×Nat)):(rV rs).length=rs.length*2:=by
 induction rs with
 | nil=>rfl
 | cons x l ih=>simp only[rV,zBR,zQ,zV,zAK]at *;omega
theorem WnG {l:List (Nat×Nat)}{i:Nat}{r:Nat×Nat}(h:l[i]?=some r):(rV l)[2*i]?=some (.int .i64 (r.1:Int))/\(rV l)[2*i+1]?=some (.int .i64 (r.2:Int)):=by
 induction l generalizing i with
 | nil=>simp at h
 | cons x l ih=>
  have e:rV (x::l)=[.int .i64 (x.1:Int),.int .i64 (x.2:Int)]++rV l:=by simp[rV]
  rw[e];cases i with
  | zero=>simp at h;subst h;simp
  | succ i=>
   have:=ih (i:=i) (by simpa using h);rw[show 2*(i+1)=2*i+2 by omega];simpa using this
theorem WgZ (c:Cls)(l:List Nat):runV c l=rV (l.map λs=>(s,c.pages)):=by
 simp[runV,rV,List.flatMap_map]
theorem Wno {s:Sl}{rs:List (Nat×Nat)}(h:SlR s 2 (rV rs) U F){i:Nat}{r:Nat×Nat}(hr:rs[i]?=some r){K:Int->Int->Prop}(hK:K (r.1:Int) (r.2:Int)) :
 Ix s.a s.len (i:Int) 2 λa=>LdI .i64 (a.add 0) U λu=>LdI .i64 (a.add 1) U λw=>K u w:=by
 have hg:=WnG hr;have hi:=(gSi.1 hr).1;obtain⟨b,o,ha,hc⟩:=h.cell hg.1;obtain⟨b1,o1,ha1,hc1⟩:=h.cell hg.2;rw[ha]at ha1;cases ha1;have hl:=h.1;rw[WeE]at hl;rw[ha];refine ix (by omega) (by omega) ?_;rw[add_lit];refine ldI ?_ (ldI ?_ hK)<;>rw[add_lit]
 ·rw[show o+(i:Int).toNat*2+0=o+2*i by omega];exact hc
 ·rw[show o+(i:Int).toNat*2+1=o+(2*i+1) by omega];exact hc1
theorem AHY.mono {G:Rg}(h:AHY U F Y A T)(hs:∀b,b<U.size->F b->G b):AHY U G Y A T:=Lcl.mono AHY.loc h hs
theorem AHY.cut (h:AHY U F Y A T):AHY U (Cut F U) Y A T:=Lcl.cut AHY.loc h
theorem WfL (A:AR)(rs:List (Nat×Nat))(r:Nat×Nat):VN A (rs++[r])=VR (VN A rs) r:=by simp[VN]
theorem Wd7 (h:AHY U F Y A T){sl:Sl}{rs:List (Nat×Nat)}{X:Rg}(hs:SlR sl 2 (rV rs) U X)(hX:∀b,b<U.size->X b->¬F b)(hl:rs.length<=1000000)(hb:∀r∈rs,r.1<=1000000){R:Hp->Prop}
 (hR:∀σ',Ext F U σ'->AHY σ' (Grow F U) Y (VN A rs) T->R σ'):Xc.c (some ⟨Y.p,0,none⟩) sl U R:=by
 refine Xc.o ?_;unfold Xc.v;have hlen:sl.len=rs.length:=by have:=hs.1;rw[WeE]at this;omega
 have hs0:SlR sl 2 (rV rs) U (Cut X U):=(SlR.loc _ _ _).cut hs;refine Zx (a:=.i .i64) (λ(t:Int) v=>∃i:Nat,t=(i:Int)/\i<=rs.length/\Ext F U v/\AHY v (Grow F U) Y (VN A (rs.take i)) T) (λt _=>rs.length-t.toNat) ⟨0,rfl,by omega,Ext.refl _ _,by simpa[VN]using h.mono λb _ hb=>.inl hb⟩ ?_;rintro t v ⟨i,rfl,hi,e,hA⟩;refine ifD (λhlt=>?_) λhge=>?_
 ·have hi':i<rs.length:=by omega
  have hx:rs[i]?=some rs[i]:=gGe hi';have hbr:=hb _ (zk hi');have hsv:=(SlR.loc _ _ _).keep hs0 e λb hb' hx hf=>hX b hb' hx.1 hf;refine Wno hsv hx ?_;have htk:rs.take (i+1)=rs.take i++[rs[i]]:=by rw[zAG,hx];rfl
  generalize rs[i]=r at *;refine nw (cs:=[.int .i64 0,.int .i64 0]) λv4 hz4 e4 hb4=>hb4.s1 (by simp) λv5 o5 b5=>b5.s1 (by simp) λv6 o6 b6=>?_;have e46:Ext0 v v6:=Ext.fresh (Ext.fresh e4 o5.ext λi hi=>by omega) o6.ext λi hi=>by omega
  have hA6:=hA.cut.keep0 e46;have nF:¬Cut (Grow F U) v v.size:=λhf=>by have:=hf.2;omega
  have b6':Blk v6 v.size [.int .i64 (r.1:Int),.int .i64 (r.2:Int)]:=b6;have z6:v.size<v6.size:=b6.lt;refine nilP (hA6.hd.rP rfl (b6'.rI rfl (b6'.rI rfl (hA6.Clear r.1 r.2 hbr λv7 t7 e7 hA7=>?_))));have b7:=e7.blk b6' nF;have hA7':=hA7.mono (G:=λb=>Cut (Grow F U) v b\/v.size<b) λb _ hb=>by
   rcases hb with hb|hb
   ·exact .inl hb
   ·exact .inr (by omega)
  have nF7:¬(Cut (Grow F U) v v.size\/v.size<v.size):=λhf=>by
   rcases hf with h|h
   ·exact nF h
   ·omega
  refine nilP (hA7'.hd.rP rfl (b7.rI rfl (b7.rI rfl (hA7'.Unuse _ _ λv8 t8 e8 hA8=>?_))));have b8:=e8.blk b7 nF7;refine nilP (hA8.hd.rP rfl (b8.rI rfl (b8.rI rfl (hA8.Give _ _ λv9 t9 e9 hA9=>?_))));have sub:∀b,(Cut (Grow F U) v b\/v.size<b)->Grow F U b:=λb hb=>by
   rcases hb with hb|hb
   ·exact hb.1
   ·exact .inr (by have:=e.1;omega)
  have ee:Ext F U v9:=((((e.trans (Ext0.to e46)).growT (e7.sub λb hb=>hb.1))).growT (e8.sub sub)).growT (e9.sub sub);refine arN (m:=i+1) (by omega) (by omega) ⟨⟨i+1,rfl,by omega,ee,?_⟩,by omega⟩;rw[htk,WfL];exact hA9.mono λb _ hb=>sub b hb
 ·have:i=rs.length:=by omega
  subst this;rw[zAT]at hA;exact hR v e hA
end Go.Ar
namespace Go.Proofs
open Go.Vc
set_option maxRecDepth 100000
def Xe.h:Hn:=.q .o1 (.q (.reg (.seq [.op,.op,.op,.grd true 5 (RI.ops 5),.op])) .l)
def Xe.v (a:R2)(b:Hp)(c:Bool->Hp->Prop):Prop:=JnB (λd e=>c d e) λf=>If (!a.isNone) (NilP a λg=>LdM (g.add 2) b λh=>f (!h.isNone) b) (f false b)
theorem Xe.o {a b c}(d:Xe.v a b c):Xe.c a b c:=Wa Tryz.func95 (x:=Xe.h) (R0 d)
def QW.h:Hn:=.q .o2 (.q (.k (.q .o4 (.c (.q .o2 .l) (.q (.reg (.seq [.op,.op,.op,.grd false 2 [.op,.op],.op])) (.c (.q .o2 .l) .l))))) (.q .o8 .l))
def QW.v (a:Sl)(b:Int)(c:Hp)(d:Option Addr->Int->Hp->Prop):Prop:=Zz.c a c λe f=>If (!e) (d none 2 f) (JnB (λg h=>If g (d none 1 h) (Wc.c a h λi j=>Nw (.map #[] 0) j λk l=>Nw (.cells #[.slice i.a i.len i.cap,.I b,.map (some k.block)] 158 (0,0)) l λm n=>d (some m) 0 n)) λo=>If (b<0) (o true f) (o (decide (b>65536)) f))
theorem QW.o {a b c d}(e:QW.v a b c d):QW.c a b c d:=Wa Tryz.func108 (x:=QW.h) (R0 e)
def X1.h:Hn:=.q .o2 (.q .o8 (.q (.q .o2 (.c (.q .o3 .l) .l)) (.q (.q .o6 (.c (.q (.q .o9 (.q .o6 (.c .o8 (.o 11)))) (.q .o2 .l)) .l)) (.q .o7 (.q .o8 (.q .o10 (.q .o10 (.q .o3 .l))))))))
def X1.v (a:R2)(b:Int)(c:Hp)(d:Int->Int->Hp->Prop):Prop:=Xp.c a b c λe f g=>If (f != 0) (d 0 f g) (NilP e λh=>LdS (h.add 0) g λi=>If (((i.len:Nat):Int)==0) (NilP a λj=>LdS (j.add 0) g λk=>Ix k.a k.len b 3 λl=>LdI .i64 (l.add 2) g λm=>NilP e λn=>LdI .i64 (n.add 1) g λo=>If (o<m) (NilP e λp=>LdI .i64 (p.add 1) g λq=>Ar .i64 (q+1) λr=>NilP e λs=>St1 (s.add 1) (.I r) g λt=>d 0 4 t) (NilP e λu=>LdI .i64 (u.add 1) g λv=>Ar .i64 (v+m) λw=>NilP e λx=>St1 (x.add 1) (.I (if 128<w then 128 else w)) g λy=>d 0 4 y)) (NilP e λz=>LdS (z.add 0) g λaa=>Ar .i64 (((aa.len:Nat):Int)-1) λab=>NilP e λac=>LdS (ac.add 0) g λad=>Ix ad.a ad.len ab 1 λae=>LdI .i64 ae g λaf=>NilP e λag=>LdS (ag.add 0) g λah=>SlcL ah 1 0 ab (ah.cap:Nat) λai=>NilP e λaj=>St1 (aj.add 0) (.slice ai.a ai.len ai.cap) g λak=>NilP e λal=>LdI .i64 (al.add 2) ak λam=>NilP e λan=>St1 (an.add 2) (.I (if ab<am then ab else am)) ak λao=>d af 0 ao))
theorem X1.o {a b c d}(e:X1.v a b c d):X1.c a b c d:=Wa Tryz.func110 (x:=X1.h) (R0 e)
def Yj.h:Hn:=.q .o2 (.q .o8 (.q (.q .o2 (.c (.q .o3 .l) .l)) (.q (.oq 15) .l)))
def Yj.v (a:R2)(b:Int)(c:Hp)(d:Int->Int->Hp->Prop):Prop:=Xp.c a b c λe f g=>If (f != 0) (d 0 f g) (NilP e λh=>LdI .i64 (h.add 1) g λi=>NilP a λj=>LdS (j.add 0) g λk=>Ix k.a k.len b 3 λl=>LdI .i64 (l.add 2) g λm=>d (if m<i then m else i) 0 g)
theorem Yj.o {a b c d}(e:Yj.v a b c d):Yj.c a b c d:=Wa Tryz.func112 (x:=Yj.h) (R0 e)
def Yg.h:Hn:=.q .o1 (.q .o8 (.q (.q .o2 (.c (.q .o2 .l) .l)) (.q .o3 (.q .o2 (.q .o4 .l)))))
def Yg.v (a:R2)(b:Int)(c:Sl)(d:Hp)(e:Int->Hp->Prop):Prop:=Xp.c a b d λf g h=>If (g != 0) (e g h) (WE.c c h λi j=>W0.c i j λk=>WZ.c f i k λl m=>e l m)
theorem Yg.o {a b c d e}(f:Yg.v a b c d e):Yg.c a b c d e:=Wa Tryz.func117 (x:=Yg.h) (R0 f)
def YI.h:Hn:=.q .o2 (.q .o8 (.q (.q .o2 (.c (.q .o3 .l) .l)) (.q (.q .o5 (.q .o2 (.c (.q .o3 .l) .l))) (.q (.q (.oq 10) (.c (.q .o2 .l) .l)) (.q .o9 (.sjn [] (.q .o6 (.c .o8 .l)) (.q (.o 11) .l)))))))
def YI.v (a:R2)(b c:Int)(d:Hp)(e:Sl->Int->Hp->Prop):Prop:=Xp.c a b d λf g h=>If (g != 0) (e ⟨none,0,0⟩ g h) (Nw (.cells #[.I c] 3 (0,0)) h λi j=>WZ.c f ⟨some i,1,1⟩ j λk l=>If (k != 0) (e ⟨none,0,0⟩ k l) (NilP f λm=>LdS (m.add 0) l λn=>NilP f λo=>LdI .i64 (o.add 1) l λp=>If (((n.len:Nat):Int)<=p) (e ⟨none,0,0⟩ 0 l) (NilP a λq=>LdS (q.add 0) l λr=>Ix r.a r.len b 3 λs=>LdI .i64 (s.add 2) l λt=>Jn [] (λu=>NilP f λv=>LdS (v.add 0) u λw=>Xb.c f (if((w.len:Nat):Int)<t then((w.len:Nat):Int)else t) u λx y=>e x 0 y) λz=>NilP f λaa=>LdI .i64 (aa.add 1) l λab=>If (ab<t) (NilP f λac=>LdI .i64 (ac.add 1) l λad=>Ar .i64 (ad+1) λae=>NilP f λaf=>St1 (af.add 1) (.I ae) l λag=>z ag) (z l))))
theorem YI.o {a b c d e}(f:YI.v a b c d e):YI.c a b c d e:=Wa Tryz.func120 (x:=YI.h) (R0 f)
def X2.h:Hn:=.q .o1 (.q (.reg (.heldJ false [] [(2,.one .b)] (.take 0 (.all [(1,.take 2 (.split 5 (.take 3 (.take 5 (.take 6 (.take 7 (.all [(4,.all [(8,.take 9 (.take 10 (.take 11 (.done))))]),(8,.all [(4,.take 9 (.take 10 (.take 11 (.done))))])]))))) (.take 3 (.take 4 (.take 5 (.take 6 (.take 7 (.take 8 (.take 9 (.take 10 (.take 11 (.done))))))))))))])))) .l)
def X2.v (a:R2)(b:Hp)(c:Bool->Hp->Prop):Prop:=Jn [.b] (λ(d:Bool) e=>c d e) λf=>Xe.c a b λg h=>If g (NilP a λi=>(XQ.c a h λj k=>LdI .i64 (i.add 1) k λl=>f (decide (j>l)) k) ∧ (LdI .i64 (i.add 1) h λm=>XQ.c a h λn o=>f (decide (n>m)) o)) (f false h)
theorem X2.o {a b c}(d:X2.v a b c):X2.c a b c:=Wa Tryz.func121 (x:=X2.h) (R0 d)
def W7.h:Hn:=.q .o1 (.q .o3 .l)
def W7.v (a:R2)(b:Hp)(c:Sl->Hp->Prop):Prop:=Xj.c a ⟨173,#[],#[]⟩ b λd e=>c d e
theorem W7.o {a b c}(d:W7.v a b c):W7.c a b c:=Wa Tryz.func122 (x:=W7.h) (R0 d)
def XS.h:Hn:=.q .o1 (.q .o3 .l)
def XS.v (a:R2)(b:Hp)(c:Sl->Hp->Prop):Prop:=Xj.c a ⟨175,#[],#[]⟩ b λd e=>c d e
theorem XS.o {a b c}(d:XS.v a b c):XS.c a b c:=Wa Tryz.func127 (x:=XS.h) (R0 d)
def Xp.h:Hn:=.q .o2 (.q (.q .o3 (.c (.q .o2 .l) .l)) (.q .o4 (.q (.q .o2 (.c (.q .o2 .l) .l)) (.q .o3 .l))))
def Xp.v (a:R2)(b:Int)(c:Hp)(d:Option Addr->Int->Hp->Prop):Prop:=Xe.c a c λe f=>If (!e) (d none 5 f) (Zl.c a b f λg h=>If g.isNone (d none 1 h) (d g 0 h))
theorem Xp.o {a b c d}(e:Xp.v a b c d):Xp.c a b c d:=Wa Tryz.func162 (x:=Xp.h) (R0 e)
def WZ.h:Hn:=.q .o1 (.q (.q .o9 (.c (.q .o1 .l) .l)) (.q (.o 11) (.q .o1 .l)))
def WZ.v (a:R2)(b:Sl)(c:Hp)(d:Int->Hp->Prop):Prop:=NilP a λe=>LdS (e.add 0) c λf=>Ar .i64 (((f.len:Nat):Int)+((b.len:Nat):Int)) λg=>If (g>256) (d 6 c) (NilP a λh=>LdS (h.add 0) c λi=>Xk.c i c λj k=>App j 1 8 3 [.I 0] b k λl m=>NilP a λn=>St1 (n.add 0) (.slice l.a l.len l.cap) m λo=>d 0 o)
theorem WZ.o {a b c d}(e:WZ.v a b c d):WZ.c a b c d:=Wa Tryz.func169 (x:=WZ.h) (R0 e)
def Xb.h:Hn:=.q .o1 (.q .o8 (.q (.o 11) (.q (.reg (.tail 13 (RI.ops 13) [.op])) (.q .o2 .l))))
def Xb.v (a:R2)(b:Int)(c:Hp)(d:Sl->Hp->Prop):Prop:=NilP a λe=>LdS (e.add 0) c λf=>SlcL f 1 0 b (f.cap:Nat) λg=>WE.c g c λh i=>NilP a λj=>LdS (j.add 0) i λk=>SlcL k 1 b (k.len:Nat) (k.cap:Nat) λl=>WE.c l i λm n=>NilP a λo=>St1 (o.add 0) (.slice m.a m.len m.cap) n λp=>NilP a λq=>LdI .i64 (q.add 2) p λr=>NilP a λs=>LdS (s.add 0) p λt=>NilP a λu=>St1 (u.add 2) (.I (if((t.len:Nat):Int)<r then((t.len:Nat):Int)else r)) p λv=>d h v
theorem Xb.o {a b c d}(e:Xb.v a b c d):Xb.c a b c d:=Wa Tryz.func170 (x:=Xb.h) (R0 e)
def XQ.h:Hn:=.q .o1 (.q (.q .o3 (.c (.q .o1 .l) .l)) (.q .o1 (.q (.q .o5 (.k (.loop [(3,.I)] (.q (.reg (.seq [.it .i64 .p,.op])) (.q (.c .l .l) (.k (.q (.reg (.seq [.it .i64 .p,.op,.op,.op,.op])) (.oq 17)))))))) (.q .o2 .l))))
def XQ.v (a:R2)(b:Hp)(c:Int->Hp->Prop):Prop:=Xe.c a b λd e=>If (!d) (c 0 e) (NilP a λf=>LdM (f.add 2) e λg=>Rng .i64 .p g e λh i=>Xo [(.i .i64)] (λj=>j 0 i) λk (l:Int) m=>Nxt .i64 .p h m (c l m) (λn o p=>Ent .i64 .p h p λq r=>NilP a λs=>LdS (s.add 0) p λt=>Ix t.a t.len q 3 λu=>LdI .i64 (u.add 0) p λv=>NilP r λw=>LdS (w.add 0) p λx=>Ar .i64 (v*((x.len:Nat):Int)) λy=>Ar .i64 (l+y) λz=>k z p))
theorem XQ.o {a b c}(d:XQ.v a b c):XQ.c a b c:=Wa Tryz.func171 (x:=XQ.h) (R0 d)
def Xj.h:Hn:=.q .o1 (.q (.q .o3 (.c (.q .o1 .l) .l)) (.q .o1 (.q (.q .o5 (.k (.loop [(5,.one .s)] (.q (.reg (.seq [.it .i64 .p,.op])) (.q (.c .l .l) (.k (.q (.reg (.seq [.it .i64 .p,.op,.op,.op,.op])) (.q (.o 12) (.q .o3 (.c .o7 .l)))))))))) (.q .o2 (.q .o2 .l)))))
def Xj.v (a:R2)(b:Fv)(c:Hp)(d:Sl->Hp->Prop):Prop:=Xe.c a c λe f=>If (!e) (d ⟨none,0,0⟩ f) (NilP a λg=>LdM (g.add 2) f λh=>Rng .i64 .p h f λi j=>Xo [.s] (λk=>k ⟨none,0,0⟩ j) λl (m:Sl) n=>Nxt .i64 .p i n (ZZ.c m ⟨230,#[],#[]⟩ n λo=>d m o) (λp q r=>Ent .i64 .p i r λs t=>NilP a λu=>LdS (u.add 0) r λv=>Ix v.a v.len s 3 λw=>LdI .i64 (w.add 2) r λx=>V1 Tryz.prog b [.pointer t,.I x] [.one .s] r λy z=>If (((y.len:Nat):Int)>0) (Nw (.cells #[.I s,.slice y.a y.len y.cap] 119 (0,0)) z λaa ab=>App m 2 32 119 [.I 0,.slice none 0 0] ⟨some aa,1,1⟩ ab λac ad=>l ac ad) (l m z)))
theorem Xj.o {a b c d}(e:Xj.v a b c d):Xj.c a b c d:=Wa Tryz.func172 (x:=Xj.h) (R0 e)
def Xt.h:Hn:=.q .o1 (.q .o9 (.sjn [] (.q .o6 (.c (.o 12) .l)) (.q .o9 (.q .o2 .l))))
def Xt.v (a:R2)(b:Int)(c:Hp)(d:Sl->Hp->Prop):Prop:=NilP a λe=>LdI .i64 (e.add 2) c λf=>Ar .i64 (f+1) λg=>Nz 2<|Ar .i64 (g.tdiv 2) λh=>Xb.c a h c λi j=>Jn [] (λk=>NilP a λl=>LdS (l.add 0) k λm=>NilP a λn=>St1 (n.add 2) (.I ((m.len:Nat):Int)) k λo=>d i o) λp=>NilP a λq=>LdI .i64 (q.add 1) j λr=>If (r>b) (NilP a λs=>LdI .i64 (s.add 1) j λt=>Ar .i64 (t-b) λu=>NilP a λv=>St1 (v.add 1) (.I (if b>u then b else u)) j λw=>p w) (p j)
theorem Xt.o {a b c d}(e:Xt.v a b c d):Xt.c a b c d:=Wa Tryz.func173 (x:=Xt.h) (R0 e)
def Yy.h:Hn:=.q .o1 (.q .o8 .l)
def Yy.v (a:R2)(b:Int)(c:Hp)(d:Sl->Hp->Prop):Prop:=NilP a λe=>LdS (e.add 0) c λf=>Xb.c a ((f.len:Nat):Int) c λg h=>d g h
theorem Yy.o {a b c d}(e:Yy.v a b c d):Yy.c a b c d:=Wa Tryz.func175 (x:=Yy.h) (R0 e)
def Zl.h:Hn:=.q .o1 (.q (.q (.reg (.seq [.op,.op,.op,.op,.grd false 2 [.op,.op],.op,.grd false 7 (RI.ops 7)])) (.c (.q .o1 .l) .l)) (.sjn [] (.q .o7 (.c .o8 .l)) (.q .o7 .l)))
def Zl.v (a:R2)(b:Int)(c:Hp)(d:Option Addr->Hp->Prop):Prop:=Xe.c a c λe f=>JnB (λg h=>JnB (λi j=>If i (d none j) (Jn [] (λk=>NilP a λl=>LdM (l.add 2) k λm=>Lk .i64 .p m b k λn=>d (n.getD none) k) λo=>NilP a λp=>LdM (p.add 2) j λq=>Lk .i64 .p q b j λr=>If ((r.getD none).isNone) (NilP a λs=>LdM (s.add 2) j λt=>Nw (.cells #[.slice none 0 0,.I 1,.I 0] 161 (0,0)) j λu v=>MSet .i64 .p t b (some u) v λw=>o w) (o j))) λx=>If g (x true h) (NilP a λy=>LdS (y.add 0) h λz=>x (decide (b≥((z.len:Nat):Int))) h)) λaa=>If (!e) (aa true f) (aa (decide (b<0)) f)
theorem Zl.o {a b c d}(e:Zl.v a b c d):Zl.c a b c d:=Wa Tryz.func218 (x:=Zl.h) (R0 e)
end Go.Proofs
namespace Go.Ar
open Go Go.Vc Go.Proofs
theorem SlR.sub {U:Hp}{F:Rg}{s:Sl}{sz:Nat}{xs:List Value}(h:SlR s sz xs U F){lo hi mx:Nat}(h1:lo<=hi)(h2:hi<=s.len)(h3:hi<=mx) :
 SlR ⟨if mx=lo then s.a else s.a.map (·.add (lo*sz)),hi-lo,mx-lo⟩ sz ((xs.drop (lo*sz)).take ((hi-lo)*sz)) U F:=by
 have hl:=h.1;have e1:hi*sz<=s.len*sz:=zAD _ h2;have e2:(hi-lo)*sz=hi*sz-lo*sz:=Nat.sub_mul _ _ _;have e3:lo*sz<=hi*sz:=zAD _ h1;refine⟨by rw[zT,zl];simp only;omega,?_⟩;by_cases hm:mx=lo
 ·left;have:hi-lo=0:=by omega
  rw[this,zDK,zFH]
 ·rcases h.2 with h0|⟨b,o,cs,hb,ha,hq,hc⟩
  ·left;subst h0;simp
  ·refine .inr ⟨b,o+lo*sz,cs,hb,?_,hq,λj hj=>?_⟩
   ·simp only[zA hm,ha,zc,add_lit]
   ·rw[zT,zl]at hj;rw[zEG,hc _ (by omega),zX,zj,zB (by omega)]
inductive LbC where
 | hd|tab|mp
 | li (k:Nat)
 deriving DecidableEq
structure LayC where
 p:Nat
 m:Nat
 tab:Sl
 ps:List (Nat×Nat)
def lkp (ps:List (Nat×Nat))(k:Nat):Option Nat:=(ps.find? λx=>x.1==k).map (·.2)
def ptI (ps:List (Nat×Nat)):List (Int×Option Addr):=ps.map λx=>((x.1:Int),some ⟨x.2,0,none⟩)
def liV (s:Sl)(l:Li):List Value:=[.slice s.a s.len s.cap,.int .i64 (l.lim:Int),.int .i64 (l.low:Int)]
def LiR (b:Nat)(l:Li):Hp->Rg->Prop:=λU F=>F b/\LiOk l/\∃s:Sl,Blk U b (liV s l)/\SlR s 1 (WB l.os) U (λq=>F q/\q≠b)/\s.len<=s.cap
def LiK (b:Option Nat)(l:Option Li):Hp->Rg->Prop:=λU F=>match b,l with
 | some b,some l=>LiR b l U F
 | none,some l=>l=liN
 | _,none=>True
def hdC (Y:LayC)(bud:Nat):List Value:=[.slice Y.tab.a Y.tab.len Y.tab.cap,.int .i64 (bud:Int),.map (some Y.m)]
def CC (tb:List Cls)(bud:Nat)(ls:List Li)(Y:LayC):LbC->Hp->Rg->Prop
 | .hd=>BlkR Y.p (hdC Y bud)
 | .tab=>SlR Y.tab 3 (tabV tb)
 | .mp=>MapR Y.m .i64 .p (ptI Y.ps)
 | .li k=>LiK (lkp Y.ps k) ls[k]?
theorem LiR.loc (b:Nat)(l:Li):Lcl (LiR b l):=by
 rintro U σ' F G ⟨h1,h2,s,hb,hs,hc⟩ hz hs';have hp:=hs' b hb.lt h1;obtain⟨e,he⟩:=hb;exact⟨hp.1,h2,s,⟨e,hp.2.trans he⟩,SlR.loc _ _ _ _ _ _ _ hs hz λq hq hf=>⟨⟨(hs' q hq hf.1).1,hf.2⟩,(hs' q hq hf.1).2⟩,hc⟩
theorem LiK.loc (b:Option Nat)(l:Option Li):Lcl (LiK b l):=by
 intro U σ' F G h hz hs;unfold LiK at *;split at h
 ·exact LiR.loc _ _ _ _ _ _ h hz hs
 ·exact h
 ·trivial
theorem CC.loc {tb:List Cls}{bud:Nat}{ls:List Li}{Y:LayC}:∀i,Lcl (CC tb bud ls Y i)
 | .hd=>BlkR.loc _ _
 | .tab=>SlR.loc _ _ _
 | .mp=>MapR.loc _ _ _ _
 | .li k=>LiK.loc _ _
structure CaY (U:Hp) (F:Rg) (Y:LayC) (tb:List Cls) (bud:Nat) (ls:List Li):Prop where
 tb1:tb.length<=40
 ok:∀c∈tb,c.ok
 len:ls.length=tb.length
 keys:∀x∈Y.ps,x.1<tb.length
 sep:Sep (CC tb bud ls Y) U F
variable {U:Hp}{F G:Rg}{Y:LayC}{tb:List Cls}{bud:Nat}{ls:List Li}{b k:Nat}{l:Li}
theorem CaY.loc:Lcl λU F=>CaY U F Y tb bud ls:=λU σ' F G h hz hs=>⟨h.tb1,h.ok,h.len,h.keys,Sep.loc CC.loc _ _ _ _ h.sep hz hs⟩
theorem CaY.keep0 {σ':Hp}(h:CaY U F Y tb bud ls)(e:Ext0 U σ'):CaY σ' F Y tb bud ls:=Lcl.keep0 CaY.loc h e
theorem CaY.hd (h:CaY U F Y tb bud ls):Blk U Y.p (hdC Y bud):=by
 obtain⟨G,hG,hb⟩:=h.sep.get .hd;exact hb.2
theorem CaY.tabS (h:CaY U F Y tb bud ls):SlR Y.tab 3 (tabV tb) U F:=by
 obtain⟨G,hG,hb⟩:=h.sep.get .tab;exact(SlR.loc _ _ _).mono hb λb _ hb=>hG b hb
theorem CaY.tabL (h:CaY U F Y tb bud ls):Y.tab.len=tb.length:=by
 have:=h.tabS.1;rw[Vr]at this;omega
theorem CaY.map (h:CaY U F Y tb bud ls):MapL U Y.m .i64 .p (ptI Y.ps):=by
 obtain⟨G,hG,hb⟩:=h.sep.get .mp;exact hb.2
theorem WdD (ps:List (Nat×Nat))(k:Nat):mget (α:=Option Addr) (ptI ps) (k:Int)=(lkp ps k).map λb=>some ⟨b,0,none⟩:=by
 induction ps with
 | nil=>rfl
 | cons x l ih=>
  simp only[mget,ptI,lkp,zW,zDF]at *;have e:(((x.1:Nat):Int)==(k:Int))=(x.1==k):=beqN _ _;rw[e];cases x.1==k
  ·exact ih
  ·rfl
theorem WeV {ps:List (Nat×Nat)}(h:lkp ps k=none):∀x∈ps,x.1≠k:=by
 unfold lkp at h;simp only[zDR,zBW,zY]at h;exact h
theorem WlJ {ps:List (Nat×Nat)}(h:lkp ps k=none)(b:Nat):mset (α:=Option Addr) (ptI ps) (k:Int) (some ⟨b,0,none⟩)=ptI (ps++[(k,b)]):=by
 unfold mset;rw[zA]
 ·simp[ptI]
 ·simp only[ptI,List.any_map,zz,Function.comp,zY,not_exists,not_and];intro x hx e;exact WeV h x hx (by omega)
theorem UB {ps:List (Nat×Nat)}(h:lkp ps k=none)(b j:Nat):lkp (ps++[(k,b)]) j=if j=k then some b else lkp ps j:=by
 have h':=WeV h;unfold lkp at *;rw[List.find?_append];by_cases hj:j=k
 ·subst hj;have:ps.find? (λx=>x.1==j)=none:=by simpa using h
  rw[this];simp
 ·rw[zA hj];cases hf:ps.find? (λx=>x.1==j)with
  | none=>
   have:(k==j)=false:=by simpa using λe=>hj e.symm
   simp[this]
  | some x=>simp
theorem Wll {ps:List (Nat×Nat)}(hn:((ptI ps).map (·.1)).Nodup)(h:(k,b)∈ps):lkp ps k=some b:=by
 induction ps with
 | nil=>simp at h
 | cons x l ih=>
  simp only[ptI,zW,zq]at hn;unfold lkp;rw[zDF];rcases zR.1 h with rfl|h
  ·simp
  ·have:(x.1==k)=false:=by
    have:x.1≠k:=λe=>hn.1 (zE.2 ⟨(((k:Nat):Int),some ⟨b,0,none⟩),zE.2 ⟨(k,b),h,rfl⟩,by rw[e]⟩);simpa using this
   rw[this];exact ih hn.2 h
theorem Hq (h:CaY U F Y tb bud ls){R:Bool->Hp->Prop}(hR:R true U):Xe.c (some ⟨Y.p,0,none⟩) U R:=by
 refine Xe.o ?_;unfold Xe.v;exact JnB.intro (ifT rfl (nilP (h.hd.rM rfl hR)))
theorem CaY.liS (h:CaY U F Y tb bud ls)(hb:lkp Y.ps k=some b)(hl:ls[k]?=some l):∃G:Rg,(∀q,G q->F q)/\LiR b l U G/\¬G Y.m ∧
 ∀(σ':Hp) (l':Li) (G':Rg),Ext G U σ'->(∀q,G' q->Grow G U q)->LiR b l' σ' G'->Ext F U σ'/\CaY σ' (λq=>F q/\q<U.size/\¬G q\/G' q) Y tb bud (ls.set k l'):=by
 have hlt:=(gSi.1 hl).1;obtain⟨G,hG,hi,hdis,hput⟩:=h.sep.stepD CC.loc (.li k);have hi:LiR b l U G:=by
  simp only[CC,LiK,hb,hl]at hi;exact hi
 have hm:¬G Y.m:=by
  obtain⟨H,_,hd,hmp⟩:=hdis .mp (by intro e;cases e);exact hd _ hmp.1
 refine⟨G,hG,hi,hm,λσ' l' G' e hg hL=>⟨e.sub hG,h.tb1,h.ok,by rw[zBM];exact h.len,h.keys,?_⟩⟩;refine hput σ' (CC tb bud (ls.set k l') Y) G' (λj hj=>?_) e hg ?_ (CC.loc _)
 ·cases j<;>try rfl
  rename_i m;have hm:m≠k:=λe=>hj (by rw[e]);simp only[CC,zd (Ne.symm hm)]
 ·simp only[CC,LiK,hb,zK hlt];exact hL
theorem CaY.mono (h:CaY U F Y tb bud ls)(hs:∀q,q<U.size->F q->G q):CaY U G Y tb bud ls:=Lcl.mono CaY.loc h hs
theorem CaY.cut (h:CaY U F Y tb bud ls):CaY U (Cut F U) Y tb bud ls:=Lcl.cut CaY.loc h
theorem CaY.upd {v:Hp}(h:CaY v (Grow F U) Y tb bud ls)(e0:Ext F U v)(hb:lkp Y.ps k=some b)(hl:ls[k]?=some l):∃G:Rg,LiR b l v G ∧
 ∀(σ':Hp) (l':Li) (G':Rg),Ext G v σ'->(∀q,G' q->Grow G v q)->LiR b l' σ' G'->Ext F U σ'/\CaY σ' (Grow F U) Y tb bud (ls.set k l'):=by
 obtain⟨G,hG,hL,_,hput⟩:=h.liS hb hl;refine⟨G,hL,λσ' l' G' e hg hL'=>?_⟩;obtain⟨e1,h1⟩:=hput σ' l' G' e hg hL';refine⟨e0.growT e1,h1.mono λq _ hq=>?_⟩;have:=e0.1;rcases hq with hq|hq
 ·exact hq.1
 ·rcases hg q hq with h2|h2
  ·exact hG q h2
  ·exact .inr (by omega)
theorem Wn6 (h:CaY U F Y tb bud ls)(hk:k<tb.length){R:Option Addr->Hp->Prop}(hR:∀σ' Y' b,Ext F U σ'->Y'.p=Y.p->lkp Y'.ps k=some b->CaY σ' (Grow F U) Y' tb bud ls->R (some ⟨b,0,none⟩) σ') :
 Zl.c (some ⟨Y.p,0,none⟩) (k:Int) U R:=by
 refine Zl.o ?_;unfold Zl.v;have hlt:k<ls.length:=by rw[h.len];exact hk
 have hl:ls[k]?=some ls[k]:=gGe hlt;generalize ls[k]=l at hl;have htl:=h.tabL;refine Hq h (JnB.intro (ifF rfl ?_));refine JnB.intro (ifDF (by omega) (nilP (h.hd.rS rfl ?_)));refine ifDF (by simp only;omega) ?_;refine Jn.intro (nilP (h.hd.rM rfl ⟨_,h.map,?_⟩));rw[WdD];cases hf:lkp Y.ps k with
 | some b=>
  refine ifF rfl (nilP (h.hd.rM rfl ⟨_,h.map,?_⟩));rw[WdD,hf];exact hR U Y b (Ext.refl _ _) rfl hf (h.mono λq _ hq=>.inl hq)
 | none=>
  refine ifT rfl (nilP (h.hd.rM rfl (nw (cs:=[.slice none 0 0,.int .i64 1,.int .i64 0]) λv hz e hb1=>?_)));obtain⟨G,H,hGc,hH,hd,hi,hj,hput⟩:=h.cut.sep.step2 CC.loc .mp (.li k) (by intro e;cases e);have hG:∀q,G q->F q:=λq hq=>(hGc q hq).1;have hi:MapR Y.m .i64 .p (ptI Y.ps) U G:=hi;have hj:l=liN:=by
   simp only[CC,LiK,hf,hl]at hj;exact hj
  have hmlt:=hi.2.lt;have hmv:MapL v Y.m .i64 .p (ptI Y.ps):=e.mapL hi.2 id;refine⟨Y.m,_,rfl,hmv,λv2 ho hm2=>?_⟩;rw[WlJ hf]at hm2;have e2:Ext F U v2:=(Ext0.to e).only ho (.inl (hG _ hi.1));have eGH:Ext (λq=>G q\/H q) U v2:=(Ext0.to e).only ho (.inl (.inl hi.1));have hb2:Blk v2 U.size [.slice none 0 0,.int .i64 1,.int .i64 0]:=Ws ho hb1 (by omega);have hnew:CaY v2 (Grow F U) {Y with ps:=Y.ps++[(k,U.size)]} tb bud ls:=by
   refine⟨h.tb1,h.ok,h.len,λx hx=>?_,?_⟩
   ·rcases zS.1 hx with hx|hx
    ·exact h.keys x hx
    ·simp only[zZ]at hx;subst hx;exact hk
   refine(Sep.loc CC.loc).mono (hput v2 (CC tb bud ls {Y with ps:=Y.ps++[(k,U.size)]}) G (· = U.size) (λj h1 h2=>?_) eGH (λq hq=>.inl (.inl hq)) (λq hq=>.inr (by omega)) (λq h1 h2=>?_) ⟨hi.1,hm2⟩ ?_ CC.loc) λq _ hq=>?_
   ·cases j<;>first|rfl|exact absurd rfl h1|skip
    rename_i m;have hm:m≠k:=λe=>h2 (by rw[e]);simp only[CC,UB hf,zA hm]
   ·have:=(hGc q h1).2;omega
   ·simp only[CC,UB hf,zO,hl,hj,LiK];exact⟨rfl,LiOk.nil,⟨none,0,0⟩,hb2,SlR.nil _ _ _ _,zC _⟩
   ·rcases hq with hq|hq|hq
    ·exact .inl hq.1.1
    ·exact .inl (hG q hq)
    ·exact .inr (by omega)
  refine nilP (hnew.hd.rM rfl ⟨_,hnew.map,?_⟩);rw[WdD,UB hf,zB rfl];exact hR v2 {Y with ps:=Y.ps++[(k,U.size)]} U.size e2 rfl (by show lkp (Y.ps++[(k,U.size)]) k=_;rw[UB hf,zB rfl]) hnew
theorem GP (h:CaY U F Y tb bud ls)(hk:k<tb.length){R:Option Addr->Int->Hp->Prop}(hR:∀σ' Y' b,Ext F U σ'->Y'.p=Y.p->lkp Y'.ps k=some b->CaY σ' (Grow F U) Y' tb bud ls->R (some ⟨b,0,none⟩) 0 σ') :
 Xp.c (some ⟨Y.p,0,none⟩) (k:Int) U R:=by
 refine Xp.o ?_;unfold Xp.v;exact Hq h (ifF rfl (Wn6 h hk λσ' Y' b e hp hb h'=>ifF rfl (hR σ' Y' b e hp hb h')))
theorem RowR.capO {s:Sl}{sz:Nat}{xs:List Value}(h:RowR s sz xs U F):s.len<=s.cap:=by
 rcases h.2 with⟨q1,q2⟩|⟨_,_,_,_,_,q,_⟩
 ·omega
 ·exact q
theorem Hz (h:LiR b l U G){m:Nat}(hm:m<=l.os.length){R:Sl->Hp->Prop}
 (hR:∀s z σ',Ext (· = b) U σ'->U.size<=z->RowR s 1 (WB (l.os.take m)) σ' (λq=>U.size<=q/\q<z)->LiR b (oldL m l).2 σ' (λq=>q=b\/z<=q)->R s σ') :
 Xb.c (some ⟨b,0,none⟩) (m:Int) U R:=by
 refine Xb.o ?_;unfold Xb.v;obtain⟨hF,hok,s,hb,hs,hc⟩:=h;have hsl:s.len=l.os.length:=by have:=hs.1;simp[WB]at this;omega
 have hmany:=hok.many;have hlow:=hok.low;have hs1:=SlR.sub hs (lo:=0) (hi:=m) (mx:=s.cap) (by omega) (by omega) (by omega);have e1:((WB l.os).drop (0*1)).take ((m-0)*1)=WB (l.os.take m):=by simp[WB]
 rw[e1]at hs1;refine nilP (hb.rS rfl (slc (lo:=0) (by omega) (by simp only;omega) (by simp only;omega) (Ht hs1 VK (by simp only;omega) λs1 v1 hl1 x1 hr1=>?_)));have hb1:=x1.blk hb id;have hs':=(SlR.loc _ _ _).keep0 hs x1;have hs2:=SlR.sub hs' (lo:=m) (hi:=s.len) (mx:=s.cap) (by omega) (by omega) (by omega);have e2:((WB l.os).drop (m*1)).take ((s.len-m)*1)=WB (l.os.drop m):=by
  rw[zAX (by simp[WB];omega)];simp[WB]
 rw[e2]at hs2;refine nilP (hb1.rS rfl (slc (by simp only;omega) (by simp only;omega) (by simp only;omega) (Ht hs2 VK (by simp only;omega) λs2 v2 hl2 x2 hr2=>?_)));have hb2:=x2.blk hb1 id;refine nilP (hb2.s1 (by simp[liV]) λv3 o3 hb3=>nilP (hb3.rI rfl (nilP (hb3.rS rfl (nilP (hb3.s1 (by simp[liV]) λv4 o4 hb4=>?_))))));have e34:Ext (· = b) v2 v4:=o3.ext.trans o4.ext;have hbl:=hb.lt;have hx1:=x1.1;have hl2':s2.len=l.os.length-m:=by rw[hl2];simp only;omega
 refine hR s1 v1.size v4 ((Ext0.to (x1.trans x2)).trans e34) hx1 ?_ ⟨.inl rfl,WbF hok,s2,?_,?_,RowR.capO hr2⟩
 ·refine(RowR.loc _ _ _).keep ((RowR.loc _ _ _).keep0 ((RowR.loc _ _ _).mono hr1 (G:=λq=>U.size<=q/\q<v1.size) λq hq hf=>⟨hf,hq⟩) x2) e34 λq _ hq he=>by omega
 ·have:(if((s2.len:Nat):Int)<(l.low:Int)then((s2.len:Nat):Int)else(l.low:Int))=((min l.low (l.os.length-m):Nat):Int):=by rw[hl2'];split<;>omega
  rw[this]at hb4;exact hb4
 ·refine(SlR.loc _ _ _).mono ((SlR.loc _ _ _).keep hr2.slR e34 λq _ hq he=>by omega) λq _ hq=>⟨.inr hq,by omega⟩
theorem WlP (h:LiR b l U G){sl:Sl}{xs:List Int}{X:Rg}(hs:SlR sl 1 (WB xs) U X)(hx:xs≠[])(hfit:l.os.length+xs.length<=256){R:Int->Hp->Prop}
 (hR:∀σ',Ext (· = b) U σ'->LiR b (addL xs l) σ' (λq=>q=b\/U.size<=q)->R 0 σ'):WZ.c (some ⟨b,0,none⟩) sl U R:=by
 refine WZ.o ?_;unfold WZ.v;obtain⟨hF,hok,s,hb,hss,hc⟩:=h;have hsl:s.len=l.os.length:=by have:=hss.1;simp[WB]at this;omega
 have hxl:sl.len=xs.length:=by have:=hs.1;simp[WB]at this;omega
 have hpos:=zBZ.2 hx;have ea:addL xs l = {l with os:=l.os++xs}:=by unfold addL;rw[zA (by omega)]
 refine nilP (hb.rS rfl (arN (m:=l.os.length+xs.length) (by simp only;omega) (by omega) (ifDF (by omega) (nilP (hb.rS rfl ?_)))));refine Xk.o ?_;unfold Xk.v;refine slc (lo:=0) (by simp only;omega) (by simp only;omega) (by simp only;omega) ?_;have hbl:=hb.lt;refine⟨WB l.os,WB xs,by simp[WB];omega,by simp[WB];omega,?_,hs.rd,VK,?_,by simp only;omega,λhin=>by simp only at hin;omega,λhout c hcc=>?_⟩
 ·by_cases h0:s.len=0
  ·have:l.os=[]:=zFI.1 (by omega);rw[this];simp only[h0,zO];cases s.a<;>simp[Rd,WB]
  ·simp only[zA h0,zDK];have:=hss.rd;cases ha:s.a with
   | none=>rw[ha]at this;simpa[Rd]using this
   | some a=>rw[ha]at this;simpa[Rd,Addr.add_zero']using this
 ·simp only;have:(s.len-0+sl.len)*8<=256*8:=zAJ (by omega) (by omega);omega
 ·refine nw λv hz e hb1=>nilP ((e.blk hb id).s1 (by simp[liV]) λv2 o2 hb2=>?_);have hc':l.os.length+xs.length<=c:=by simp only at hcc;omega
  refine hR v2 ((Ext0.to e).trans o2.ext) ?_;rw[ea];have:=Wch (xs:=xs) hok;rw[ea]at this;refine⟨.inl rfl,this,⟨some ⟨U.size,0,none⟩,s.len-0+sl.len,c⟩,hb2,⟨by simp[WB];omega,.inr ⟨U.size,0,_,⟨.inr (zC _),by omega⟩,rfl,(Ws o2 hb1 (by omega)).q,λj hj=>?_⟩⟩,by simp only;omega⟩;simp only[WB,zh,zQ]at hj;rw[zJ,zt,←zt,zf (by simp[WB];omega)];simp[WB]
theorem Wj8 (h:LiR b l U G){sl:Sl}{xs:List Int}{X:Rg}(hs:SlR sl 1 (WB xs) U X)(hfit:¬l.os.length+xs.length<=256)(hxs:xs.length<=1000000){R:Int->Hp->Prop}
 (hR:R 6 U):WZ.c (some ⟨b,0,none⟩) sl U R:=by
 refine WZ.o ?_;unfold WZ.v;obtain⟨hF,hok,s,hb,hss,hc⟩:=h;have hsl:s.len=l.os.length:=by have:=hss.1;simp[WB]at this;omega
 have hxl:sl.len=xs.length:=by have:=hs.1;simp[WB]at this;omega
 have:=hok.many;exact nilP (hb.rS rfl (arN (m:=l.os.length+xs.length) (by simp only;omega) (by omega) (ifDT (by omega) hR)))
end Go.Ar
namespace Go.Ar
open Go Go.Vc Go.Proofs
variable {U:Hp}{F G:Rg}{Y:LayC}{tb:List Cls}{bud:Nat}{ls:List Li}{b k:Nat}{l:Li}{c:Cls}
theorem CaY.cls (h:CaY U F Y tb bud ls)(hc:tb[k]?=some c):c.ok/\k<tb.length:=⟨h.ok c (zD hc),(gSi.1 hc).1⟩
theorem LiR.st {v:Hp}(h:LiR b l U G){s:Sl}{l':Li}(ho:Ext (· = b) U v)(hb:Blk v b (liV s l'))(hs:SlR s 1 (WB l'.os) U (λq=>G q/\q≠b))(hc:s.len<=s.cap)(ok:LiOk l'):LiR b l' v G:=
 ⟨h.1,ok,s,hb,(SlR.loc _ _ _).keep hs ho λq _ hq he=>hq.2 he,hc⟩
theorem Take_ok (h:CaY U F Y tb bud ls)(hc:tb[k]?=some c)(hl:ls[k]?=some l){R:Int->Int->Hp->Prop}
 (hR:∀σ' Y',Ext F U σ'->Y'.p=Y.p->CaY σ' (Grow F U) Y' tb bud (ls.set k (Ka c l).2)->R ((Ka c l).1.getD 0) (if(Ka c l).1.isSome then 0 else 4) σ'):X1.c (some ⟨Y.p,0,none⟩) (k:Int) U R:=by
 obtain⟨hcok,hk⟩:=h.cls hc;refine X1.o ?_;unfold X1.v;refine GP h hk λv Y' b e hp hb h'=>ifF rfl ?_;obtain⟨G,hL,hput⟩:=h'.upd e hb hl;have hL':=hL;obtain⟨hGb,hok,s,hbk,hs,hcap⟩:=hL;have hhd:=h'.hd;rw[hp]at hhd;have hsl:s.len=l.os.length:=by have:=hs.1;simp[WB]at this;omega
 have o1:=hok.low;have o2:=hok.many;have o3:=hok.lim;have o4:=hok.lim1;have hok':=We8 hcok hok;have fin:∀v' G',Ext G v v'->(∀q,G' q->Grow G v q)->LiR b (Ka c l).2 v' G'->R ((Ka c l).1.getD 0) (if(Ka c l).1.isSome then 0 else 4) v':=λv' G' e' hg hL2=>by
  obtain⟨e2,h2⟩:=hput v' _ G' e' hg hL2;exact hR v' Y' e2 hp h2
 unfold Cls.ok at hcok;have hex:∀{v':Hp},Ext (· = b) v v'->Ext G v v':=λe'=>e'.sub λq hq=>by rw[hq];exact hGb
 refine nilP (hbk.rS rfl ?_);by_cases h0:l.os=[]
 ·have e1:(Ka c l).1=none:=by unfold Ka;rw[h0];rfl
  have e2:(Ka c l).2=if l.lim<c.batch then{l with lim:=l.lim+1}else{l with lim:=min (l.lim+c.batch) 128}:=by unfold Ka;rw[h0];rfl
  rw[e1,e2]at fin;rw[e2]at hok';refine ifT (by simp[hsl,h0]) (nilP (hhd.rS rfl (Gf h'.tabS hc (d:=2) (by omega) ?_)));simp only[zA (show ¬(2=0) by omega),zA (show ¬(2=1) by omega)];refine nilP (hbk.rI rfl (ifD (λc1=>?_) λc1=>?_))
  ·have c1':l.lim<c.batch:=by omega
   rw[zB c1']at fin hok';refine nilP (hbk.rI rfl (arN (m:=l.lim+1) (by omega) (by omega) (nilP (hbk.s1 (by simp[liV]) λv' o' hb'=>?_))));exact fin v' G (hex o'.ext) (λq hq=>.inl hq) (hL'.st o'.ext hb' hs hcap hok')
  ·have c1':¬l.lim<c.batch:=by omega
   rw[zA c1']at fin hok';refine nilP (hbk.rI rfl (arN (m:=l.lim+c.batch) (by omega) (by omega) (nilP (hbk.s1 (by simp[liV]) λv' o' hb'=>?_))));refine fin v' G (hex o'.ext) (λq hq=>.inl hq) (hL'.st o'.ext ?_ hs hcap hok');have:(if(128:Int)<((l.lim+c.batch:Nat):Int)then(128:Int)else((l.lim+c.batch:Nat):Int))=((min (l.lim+c.batch) 128:Nat):Int):=by split<;>omega
   rw[this]at hb';exact hb'
 ·have hpos:=zBZ.2 h0;obtain⟨x,hx⟩:∃x,l.os[l.os.length-1]?=some x:=⟨_,gGe (by omega)⟩;have hgl:l.os.getLast?=some x:=by rw[List.getLast?_eq_getElem?];exact hx
  have e1:(Ka c l).1=some x:=by unfold Ka;rw[hgl]
  have e2:(Ka c l).2 = {l with os:=l.os.dropLast,low:=min l.low (l.os.length-1)}:=by unfold Ka;rw[hgl]
  rw[e1,e2]at fin;rw[e2]at hok';refine ifF (by simp only[zAA];omega) ?_;refine nilP (hbk.rS rfl (arN (m:=l.os.length-1) (by simp only;omega) (by omega) (nilP (hbk.rS rfl (hs.ixI hx (nilP (hbk.rS rfl ?_)))))));have hsub:=SlR.sub hs (lo:=0) (hi:=l.os.length-1) (mx:=s.cap) (by omega) (by omega) (by omega);have ed:((WB l.os).drop (0*1)).take ((l.os.length-1-0)*1)=WB l.os.dropLast:=by simp[WB,zFF]
  rw[ed]at hsub;refine slc (lo:=0) (by omega) (by simp only;omega) (by simp only;omega) (nilP (hbk.s1 (by simp[liV]) λv1 o1' hb1=>nilP (hb1.rI rfl (nilP (hb1.s1 (by simp[liV]) λv2 o2' hb2=>?_)))));have e12:=o1'.ext.trans o2'.ext;refine fin v2 G (hex e12) (λq hq=>.inl hq) (hL'.st e12 ?_ hsub (by simp only;omega) hok');have:(if((l.os.length-1:Nat):Int)<(l.low:Int)then((l.os.length-1:Nat):Int)else(l.low:Int))=((min l.low (l.os.length-1):Nat):Int):=by split<;>omega
  rw[this]at hb2;exact hb2
theorem Wm2 (h:CaY U F Y tb bud ls)(hc:tb[k]?=some c)(hl:ls[k]?=some l){R:Int->Int->Hp->Prop}
 (hR:∀σ' Y',Ext F U σ'->Y'.p=Y.p->CaY σ' (Grow F U) Y' tb bud ls->R ((Waf c l:Nat):Int) 0 σ'):Yj.c (some ⟨Y.p,0,none⟩) (k:Int) U R:=by
 obtain⟨hcok,hk⟩:=h.cls hc;refine Yj.o ?_;unfold Yj.v;refine GP h hk λv Y' b e hp hb h'=>ifF rfl ?_;obtain⟨G,hL,hput⟩:=h'.upd e hb hl;obtain⟨hGb,hok,s,hbk,hs,hcap⟩:=hL;have hhd:=h'.hd;rw[hp]at hhd;refine nilP (hbk.rI rfl (nilP (hhd.rS rfl (Gf h'.tabS hc (d:=2) (by omega) ?_))));simp only[zA (show ¬(2=0) by omega),zA (show ¬(2=1) by omega)];have:(if(c.batch:Int)<(l.lim:Int)then(c.batch:Int)else(l.lim:Int))=((Waf c l:Nat):Int):=by unfold Waf;split<;>omega
 rw[this];exact hR v Y' e hp h'
theorem WlQ (l:List Int)(i:Nat)(h:i<l.length):l.reverse[i]?=l[l.length-1-i]? := by
 rw[List.getElem?_reverse h]
theorem WfZ {s:Sl}{xs:List Int}(h:RowR s 1 (WB xs) U F)(hlen:xs.length<=1000000){R:Hp->Prop}(hR:∀σ',Ext F U σ'->RowR s 1 (WB xs.reverse) σ' F->R σ'):W0.c s U R:=by
 refine W0.o ?_;unfold W0.v;have hsl:s.len=xs.length:=by have:=h.1;simp[WB]at this;omega
 let mid (i:Nat):List Int:=(List.range xs.length).map λj=>if j<i\/xs.length-i<=j then xs.getD (xs.length-1-j) 0 else xs.getD j 0
 have mlen:∀i,(mid i).length=xs.length:=λi=>by simp[mid]
 have mget:∀i j,j<xs.length->(mid i)[j]?=some (if j<i\/xs.length-i<=j then xs.getD (xs.length-1-j) 0 else xs.getD j 0):=λi j hj=>by simp[mid,hj]
 have m0:mid 0=xs:=by
  apply zm;intro j;by_cases hj:j<xs.length
  ·rw[mget 0 j hj,zA (by omega)];simp[zL,gGe hj]
  ·rw[zU (by rw[mlen];omega),zU (by omega)]
 have mend:∀i,xs.length<=2*i+1->i<=xs.length->mid i=xs.reverse:=by
  intro i h1 h2;apply zm;intro j;by_cases hj:j<xs.length
  ·rw[mget i j hj,WlQ xs j hj,zL,zL,gGe (show xs.length-1-j<xs.length by omega),gGe hj];split
   ·rfl
   ·have:xs.length-1-j=j:=by omega
    simp only[this];rfl
  ·rw[zU (by rw[mlen];omega),zU (by simp;omega)]
 have step:∀i,2*i+1<xs.length->((mid i).set i (xs.getD (xs.length-1-i) 0)).set (xs.length-1-i) (xs.getD i 0)=mid (i+1):=by
  intro i hi;apply zm;intro j;by_cases hj:j<xs.length
  ·rw[mget (i+1) j hj,zBD,zBD];simp only[zBM,mlen];by_cases e1:xs.length-1-i=j
   ·subst e1;rw[zB rfl,zB (by omega),zB (by omega)]
    congr 2;omega
   ·rw[zA e1];by_cases e2:i=j
    ·subst e2;rw[zB rfl,zB (by omega),zB (by omega)]
    ·rw[zA e2,mget i j hj];by_cases e3:j<i\/xs.length-i<=j
     ·rw[zB e3,zB (by omega)]
     ·rw[zA e3,zA (by omega)]
  ·rw[zU (by simp[mlen];omega),zU (by rw[mlen];omega)]
 refine arW ?_;rw[UE (by omega) (by omega)];refine VO (a:=.i .i64) (bb:=.i .i64) (λ(i j:Int) v=>∃n:Nat,i=(n:Int)/\j=(xs.length:Int)-1-n/\n<=xs.length/\Ext F U v/\RowR s 1 (WB (mid n)) v F) (λi _ _=>xs.length-i.toNat) ⟨0,rfl,by omega,by omega,Ext.refl _ _,by rw[m0];exact h⟩ ?_;rintro i j v ⟨n,rfl,rfl,hn,ev,hv⟩;refine ifD (λhlt=>?_) λhge=>?_
 ·have hlt':2*n+1<xs.length:=by omega
  have hja:(xs.length:Int)-1-n=((xs.length-1-n:Nat):Int):=by omega
  rw[hja];have g1:=mget n (xs.length-1-n) (by omega);have g2:=mget n n (by omega);rw[zA (by omega)]at g1 g2;rw[zL]at g1 g2;obtain⟨b,hsa⟩:∃b,s.a=some ⟨b,0,none⟩:=by
   rcases hv.2 with⟨q1,q2⟩|⟨b,cs,_,ha,_⟩
   ·omega
   ·exact⟨b,ha⟩
  have hcell:∀u,RowR s 1 (WB (mid n)) u F->∀(j:Nat) (x:Int),(mid n)[j]?=some x->cell u (Addr.add ⟨b,0,none⟩ ((j:Int).toNat*1))=some (.int .i64 x):=λu hu j x hx=>by
   obtain⟨b',o,ha,hc⟩:=hu.slR.cell (j:=j) (v:=.int .i64 x) (by simp[WB,hx]);rw[hsa]at ha;cases ha;rw[add_lit,show 0+(j:Int).toNat*1=0+j by omega];exact hc
  rw[hsa];refine⟨λu=>RowR s 1 (WB (mid n)) u F,hv,?_⟩;refine ix (by omega) (by omega) ⟨_,λu hu=>hcell u hu _ _ g1,?_⟩;refine ix (by omega) (by omega) ⟨_,λu hu=>hcell u hu _ _ g2,?_⟩;refine ix (by omega) (by omega) ?_;refine hv.st (j:=n) (by simp[WB,mlen];omega) (λb' hb'=>by rw[hsa]at hb';cases hb';rw[add_lit];simp) λv1 e1 h1=>?_;refine ix (by omega) (by omega) ?_;refine h1.st (j:=xs.length-1-n) (by simp[WB,mlen];omega) (λb' hb'=>by rw[hsa]at hb';cases hb';rw[add_lit];simp) λv2 e2 h2=>?_;refine arN (m:=n+1) (by omega) (by omega) (arN (m:=xs.length-1-n-1) (by omega) (by omega) ⟨⟨n+1,rfl,by omega,by omega,(ev.trans e1).trans e2,?_⟩,by omega⟩);rw[←step n hlt',zL,zL];have em:∀(l:List Int) (i:Nat) (x:Int),WB (l.set i x)=(WB l).set i (.int .i64 x):=λl i x=>by simp[WB,zDP]
  rw[em,em];exact h2
 ·rw[mend n (by omega) (by omega)]at hv;exact hR v ev hv
theorem WjW (h:LiR b l U G){sl:Sl}(hz:sl.len=0){R:Int->Hp->Prop}(hR:∀σ',Ext (· = b) U σ'->LiR b l σ' G->R 0 σ'):WZ.c (some ⟨b,0,none⟩) sl U R:=by
 refine WZ.o ?_;unfold WZ.v;have hL:=h;obtain⟨hF,hok,s,hb,hss,hc⟩:=h;have hsl:s.len=l.os.length:=by have:=hss.1;simp[WB]at this;omega
 have hmany:=hok.many;refine nilP (hb.rS rfl (arN (m:=l.os.length) (by simp only;omega) (by omega) (ifDF (by omega) (nilP (hb.rS rfl ?_)))));refine Xk.o ?_;unfold Xk.v;refine slc (lo:=0) (by simp only;omega) (by simp only;omega) (by simp only;omega) ?_;have hsub:=SlR.sub hss (lo:=0) (hi:=s.len) (mx:=s.len) (by omega) (by omega) (by omega);have ed:((WB l.os).drop (0*1)).take ((s.len-0)*1)=WB l.os:=by rw[hsl,zAX (by simp[WB])];simp
 rw[ed]at hsub;have key:∀(s':Sl),SlR s' 1 (WB l.os) U (λq=>G q/\q≠b)->s'.len<=s'.cap->NilP (some ⟨b,0,none⟩) λa22=>St1 (a22.add 0) (.slice s'.a s'.len s'.cap) U λv2=>R 0 v2:=λs' hs' hc'=>by
  refine nilP (hb.s1 (by simp[liV]) λv2 o2 hb2=>hR v2 o2.ext ?_);exact hL.st (l':=l) (s:=s') o2.ext hb2 hs' hc' hok
 refine⟨WB l.os,[],by simp[WB];omega,by simp[hz],hsub.rd,by cases sl.a<;>simp[Rd],by simp,?_,by simp only;omega,λhin=>?_,λhout=>absurd (by simp only[hz];omega) hout⟩
 ·simp only[hz];have:(s.len-0+0)*8<=256*8:=zAJ (by omega) (by omega);omega
 ·simp only[hz,zo];cases ha:(if s.len=0 then s.a else s.a.map (·.add (0*1)))
  ·rw[ha]at hsub;exact key ⟨none,s.len-0,s.len-0⟩ hsub (zC _)
  ·rw[ha]at hsub;exact key ⟨some _,s.len-0,s.len-0⟩ hsub (zC _)
theorem Wfb (h:LiR b l U G){sl:Sl}{xs:List Int}{X:Rg}(hs:SlR sl 1 (WB xs) U X)(hfit:l.os.length+xs.length<=256){R:Int->Hp->Prop}
 (hR:∀σ',Ext (· = b) U σ'->LiR b (addL xs l) σ' (Grow G U)->R 0 σ'):WZ.c (some ⟨b,0,none⟩) sl U R:=by
 by_cases hx:xs=[]
 ·subst hx;have ea:addL [] l=l:=by unfold addL;rw[zA (by simp only[zAK]at hfit ⊢;omega)];simp
  refine WjW h (by have:=hs.1;simp[WB]at this;omega) λσ' e hL=>hR σ' e ?_;rw[ea];exact(LiR.loc _ _).mono hL λq _ hq=>.inl hq
 ·exact WlP h hs hx hfit λσ' e hL=>hR σ' e ((LiR.loc _ _).mono hL λq _ hq=>hq.imp (λe=>by rw[e];exact h.1) id)
theorem WmN (h:CaY U F Y tb bud ls)(hc:tb[k]?=some c)(hl:ls[k]?=some l){sl:Sl}{xs:List Int}{X:Rg}(hs:SlR sl 1 (WB xs) U X)(hX:∀q,X q->¬F q)(hfit:l.os.length+xs.length<=256){R:Int->Hp->Prop}
 (hR:∀σ' Y',Ext F U σ'->Y'.p=Y.p->CaY σ' (Grow F U) Y' tb bud (ls.set k (addL xs.reverse l))->R 0 σ'):Yg.c (some ⟨Y.p,0,none⟩) (k:Int) sl U R:=by
 obtain⟨hcok,hk⟩:=h.cls hc;have hsl:sl.len=xs.length:=by have:=hs.1;simp[WB]at this;omega
 refine Yg.o ?_;unfold Yg.v;refine GP h hk λv Y' b e hp hb h'=>ifF rfl ?_;have hs1:=(SlR.loc _ _ _).keep hs e λq _ hq=>hX q hq;refine Ht hs1 VK (by omega) λs1 v1 hl1 e1 hr1=>?_;refine WfZ hr1 (by omega) λv2 e2 hr2=>?_;have e02:Ext0 v v2:=Ext.fresh e1 e2 λq hq=>hq;obtain⟨G,hL,hput⟩:=(h'.keep0 e02).upd (e.trans (Ext0.to e02)) hb hl;refine Wfb hL hr2.slR (by simp;omega) λv3 e3 hL3=>?_;obtain⟨e4,h4⟩:=hput v3 _ _ (e3.sub λq hq=>hq▸hL.1) (λq hq=>hq) hL3;exact hR v3 Y' e4 hp h4
theorem Qh {α:Type}{ls:List α}{k:Nat}{l:α}(h:ls[k]?=some l):ls.set k l=ls:=by
 apply zm;intro j;by_cases hj:j=k
 ·subst hj;rw[zK (gSi.1 h).1,h]
 ·rw[zd (Ne.symm hj)]
theorem WnS (h:CaY U F Y tb bud ls)(hc:tb[k]?=some c)(hl:ls[k]?=some l)(x:Int){R:Sl->Int->Hp->Prop}
 (hR:∀σ' Y' s e (Q:Rg),Ext F U σ'->Y'.p=Y.p->(l.os.length+1<=256->e=0)->(∀q,Q q->U.size<=q)->RowR s 1 (WB (putL c x l).1) σ' Q->CaY σ' (λq=>Grow F U q/\¬Q q) Y' tb bud (ls.set k (putL c x l).2)->R s e σ'):YI.c (some ⟨Y.p,0,none⟩) (k:Int) x U R:=by
 obtain⟨hcok,hk⟩:=h.cls hc;refine YI.o ?_;unfold YI.v;refine GP h hk λv Y' b e hp hb h'=>ifF rfl ?_;have hσv:=e.1;obtain⟨G,hG,hL,_,hput⟩:=h'.liS hb hl;have hblt:b<v.size:=by obtain⟨_,_,s,hbk,_⟩:=hL;exact hbk.lt
 have hbG:=hL.1;have hok:=hL.2.1;have hmany:=hok.many;have hput':∀(σ':Hp) (l':Li) (G':Rg),Ext G v σ'->(∀q,G' q->Grow G v q)->LiR b l' σ' G'->Ext F U σ'/\CaY σ' (λq=>Grow F U q/\q<v.size/\¬G q\/G' q) Y' tb bud (ls.set k l'):=λσ' l' G' e' hg hL'=>by
  obtain⟨e1,h1⟩:=hput σ' l' G' e' hg hL';exact⟨e.growT e1,h1⟩
 have hin:∀{G':Rg} {q:Nat},(∀q,G' q->Grow G v q)->(Grow F U q/\q<v.size/\¬G q\/G' q)->Grow F U q:=λhg hq=>by
  rcases hq with hq|hq
  ·exact hq.1
  ·rcases hg _ hq with h2|h2
   ·exact hG _ h2
   ·exact .inr (by omega)
 refine nw (cs:=[.int .i64 x]) λv1 hz1 e1 hb1=>?_;have hL1:=(LiR.loc _ _).keep0 hL e1;have hs1:SlR ⟨some ⟨v.size,0,none⟩,1,1⟩ 1 (WB [x]) v1 (· = v.size):=hb1.slR (o:=0) rfl (by simp[WB]) (λj hj=>by
  simp only[WB,zW,zDI,zV,zAK]at hj ⊢;rw[zJ])
 by_cases hfit:l.os.length+1<=256
 ·refine Wfb hL1 hs1 (by simpa using hfit) λv2 e2 hL2=>ifF rfl ?_;have e02:Ext G v v2:=(Ext0.to e1).trans (e2.sub λq hq=>hq▸hbG);have hg2:∀q,Grow G v1 q->Grow G v q:=λq hq=>hq.imp id λhx=>by omega
  obtain⟨eF2,h2⟩:=hput' v2 _ _ e02 hg2 hL2;have hal:(addL [x] l).os=l.os++[x]/\(addL [x] l).lim=l.lim/\(addL [x] l).low=l.low:=by unfold addL;rw[zA (by simp only[zV,zAK];omega)];exact⟨rfl,rfl,rfl⟩
  have hL2':=hL2;obtain⟨_,ok2,s2,hbk2,hs2,hcap2⟩:=hL2;have hs2l:s2.len=l.os.length+1:=by have:=hs2.1;simp[WB,hal.1]at this;omega
  refine nilP (hbk2.rS rfl (nilP (hbk2.rI rfl ?_)));rw[hal.2.1];refine ifD (λc1=>?_) λc1=>?_
  ·have c1':l.os.length+1<=l.lim:=by simp only at c1;omega
   have ep:putL c x l=([],addL [x] l):=by unfold putL;rw[zA (by omega),zB c1']
   refine hR v2 Y' _ 0 (λ_=>False) eF2 hp (λ_=>rfl) (λq hq=>hq.elim) (by rw[ep];exact RowR.nil _ _ _ _) ?_;rw[ep];exact h2.mono λq _ hq=>⟨hin hg2 hq,id⟩
  ·have c1':¬l.os.length+1<=l.lim:=by simp only at c1;omega
   have ep:putL c x l=oldL (min c.batch (l.os.length+1)) (upL c (addL [x] l)):=by unfold putL;rw[zA (by omega),zA c1']
   have hhd:=h2.hd;rw[hp]at hhd;refine nilP (hhd.rS rfl (Gf h2.tabS hc (d:=2) (by omega) ?_));simp only[zA (show ¬(2=0) by omega),zA (show ¬(2=1) by omega)];refine Jn.intro ?_;have rest:∀v3,Ext (· = b) v2 v3->LiR b (upL c (addL [x] l)) v3 (Grow G v1)->NilP (some ⟨b,0,none⟩) λa62=>LdS (a62.add 0) v3 λt64=>Xb.c (some ⟨b,0,none⟩) (if((t64.len:Nat):Int)<(c.batch:Int)then((t64.len:Nat):Int)else(c.batch:Int)) v3 λt67 v4=>R t67 0 v4:=by
    intro v3 e3 hL3;have hL3':=hL3;obtain⟨_,ok3,s3,hbk3,hs3,hcap3⟩:=hL3;have hup:(upL c (addL [x] l)).os=l.os++[x]:=by unfold upL;split<;>exact hal.1
    have hs3l:s3.len=l.os.length+1:=by have:=hs3.1;simp[WB,hup]at this;omega
    refine nilP (hbk3.rS rfl ?_);have em:(if((s3.len:Nat):Int)<(c.batch:Int)then((s3.len:Nat):Int)else(c.batch:Int))=((min c.batch (l.os.length+1):Nat):Int):=by rw[hs3l];split<;>omega
    rw[em];refine Hz hL3' (by rw[hup];simp;omega) λs z v4 e4 hz hr hL4=>?_;have e24:Ext (· = b) v2 v4:=e3.trans e4;have e04:Ext G v v4:=e02.trans (e24.sub λq hq=>hq▸hbG);have hs23:=e3.1;have hs02:=e02.1;obtain⟨eF4,h4⟩:=hput' v4 _ (λq=>q=b\/z<=q) e04 (λq hq=>hq.imp (λ(hx:q=b)=>by rw[hx];exact hbG) λ(hx:z<=q)=>by omega) hL4;refine hR v4 Y' s 0 (λq=>v3.size<=q/\q<z) eF4 hp (λ_=>rfl) (λq hq=>by omega) (by rw[ep];exact hr) ?_;rw[ep];refine h4.mono λq _ hq=>⟨?_,λhQ=>?_⟩
    ·rcases hq with hq|hq|hq
     ·exact hq.1
     ·subst hq;exact hG _ hbG
     ·exact .inr (by omega)
    ·rcases hq with hq|hq|hq<;>omega
   refine nilP (hbk2.rI rfl ?_);rw[hal.2.1];refine ifD (λc2=>?_) λc2=>?_
   ·have c2':l.lim<c.batch:=by omega
    have eu:upL c (addL [x] l) = {addL [x] l with lim:=l.lim+1}:=by unfold upL;rw[hal.2.1,zB c2']
    have oku:=Wk1 hcok ok2;refine nilP (hbk2.rI rfl ?_);rw[hal.2.1];have hl128:=hok.lim;refine arN (m:=l.lim+1) (by omega) (by omega) (nilP (hbk2.s1 (by simp[liV]) λv3 o3 hb3=>rest v3 o3.ext ?_));rw[eu]at oku ⊢;exact hL2'.st o3.ext hb3 hs2 hcap2 oku
   ·have eu:upL c (addL [x] l)=addL [x] l:=by unfold upL;rw[hal.2.1,zA (by omega)]
    exact rest v2 (Ext.refl _ _) (by rw[eu];exact hL2')
 ·refine Wj8 hL1 hs1 (by simpa using hfit) (by simp) (ifT rfl ?_);have ep:putL c x l=([],l):=by unfold putL;rw[zB (by omega)]
  refine hR v1 Y' _ 6 (λ_=>False) (e.trans (Ext0.to e1)) hp (λhx=>absurd hx hfit) (λq hq=>hq.elim) (by rw[ep];exact RowR.nil _ _ _ _) ?_;rw[ep,Qh hl];exact(h'.keep0 e1).mono λq _ hq=>⟨hq,id⟩
end Go.Ar
namespace Go.Ar
open Go Go.Vc Go.Proofs
open Go.Bu (Y3 QL Zf)
variable {U:Hp}{F:Rg}{p hs:Nat}{A:AR}{Y:Lay}{T:Nat->Hp->Rg->Prop}
theorem AHY.cenS (h:AHY U F Y A T){k q:Nat}{c:Cls}{ss:List SpA}(h1:Y.cps[k]?=some q)(h2:A.tb[k]?=some c)(h3:A.cen[k]?=some ss) :
 ∃G:Rg,(∀b,G b->F b)/\(∃ps,CeH U G q c ps ss)/\(∀j,∃H:Rg,(∀b,H b->F b)/\(∀b,H b->¬G b)/\T j U H)/\∀(σ':Hp) (ss':List SpA) (ps':List (Nat×Nat)) (G' H:Rg),
  Ext G U σ'->(∀b,G' b->G b\/U.size<=b)->CeH σ' G' q c ps' ss'->(∀b,(F b/\b<U.size/\¬G b\/G' b)->H b)->AHY σ' H Y {A with cen:=A.cen.set k ss'} T:=by
 obtain⟨G,hG,hi,hd,hput⟩:=h.step (.cen k);have hk:k<A.cen.length:=(gSi.1 h3).1;refine⟨G,hG,WnW h1 h2 h3 hi,λj=>hd (.tra j) (by intro e;cases e),λσ' ss' ps' G' H e hg hC hH=>?_⟩;refine hput σ' _ _ T G' H h.lay.setCen h.tl Wm7 e hg ?_ hH;simp only[AC];rw[h1,h2,zK hk];exact⟨ps',hC⟩
theorem WaZ (h:AHY U F Y A T)(k m:Int){R:Sl->Int->Hp->Prop}(hR:∀s σ',Ext F U σ'->RowR s 1 (ints (Yl A k m)) σ' (λb=>U.size<=b)->AHY σ' (Cut F U) Y (YE A k m) T->R s (QA A k m) σ') :
 WC.c (some ⟨Y.p,0,none⟩) k m U R:=by
 refine WC.o ?_;unfold WC.v;refine Uk h k (λhk=>?_) λx hx hlt=>?_
 ·have e1:QA A k m=1:=by unfold QA;rw[hk];rfl
  have e2:YE A k m=A:=by unfold YE;rw[e1];rfl
  have e3:Yl A k m=[]:=by unfold Yl;rw[e1];rfl
  have:=hR ⟨none,0,0⟩ U (Ext.refl _ _) (by rw[e3];exact RowR.nil _ _ _ _) (by rw[e2];exact h.cut);rw[e1]at this;exact ifT rfl this
 ·subst hx;have hk:A.ck (x:Int)=true:=by unfold AR.ck;simp;omega
  obtain⟨c,ss,q,t,r,hc,hss,hq,_,_,hok⟩:=h.at_ hlt;obtain⟨G,hG,⟨ps,hC⟩,_,hput⟩:=h.cenS hq hc hss;refine ifF rfl (nilP (h.hd.rS rfl (h.crowR hq ?_)));by_cases hm:m<0
  ·have e1:QA A x m=1:=by unfold QA;rw[hk,zB rfl,zB hm]
   have e2:YE A x m=A:=by unfold YE;rw[e1];rfl
   have e3:Yl A x m=[]:=by unfold Yl;rw[e1];rfl
   have:=hR ⟨none,0,0⟩ U (Ext.refl _ _) (by rw[e3];exact RowR.nil _ _ _ _) (by rw[e2];exact h.cut);rw[e1]at this;exact Wiy hC m hm this
  ·have e1:QA A x m=0:=by unfold QA;rw[hk,zB rfl,zA hm]
   have er:Vs A x m=Q7 c m.toNat ss:=by unfold Vs;simp only[iTn];rw[hc,hss]
   have e2:YE A x m = {A with cen:=A.cen.set x (Q7 c m.toNat ss).2}:=by unfold YE;rw[e1,zB rfl,er];rfl
   have e3:Yl A x m=(Q7 c m.toNat ss).1:=by unfold Yl;rw[e1,zB rfl,er]
   refine Wjv hC m (by omega) λs σ' e hrow hC'=>?_;have:=hR s σ' (e.sub hG) (by rw[e3];exact hrow) (by rw[e2];exact hput σ' _ _ (Cut G U) _ e (λb hb=>.inl hb.1) hC' (WiX hG));rw[e1]at this;exact this
theorem WnU {k:Nat}{f:TrA->TrA}:∀j,j≠Lb.tra k->AC {A with tra:=A.tra.modify k f} Y (traT {A with tra:=A.tra.modify k f} Y) j=AC A Y (traT A Y) j:=by
 intro j hj;cases j<;>first|rfl|skip
 rename_i k';have hne:k≠k':=λe=>hj (by rw[e]);simp only[AC,traT];simp[zCU,hne]
theorem LayOk.setTra {k:Nat}{f:TrA->TrA}(h:LayOk A Y):LayOk {A with tra:=A.tra.modify k f} Y:=⟨h.c,h.t,h.cen,by simpa using h.tra,h.tb1,h.tb2,h.n1,h.n2,h.n3,h.st,h.room,h.ok⟩
theorem AHY.traS (h:AHY U F Y A (traT A Y)){k q:Nat}{c:Cls}{t:TrA}(h1:Y.tps[k]?=some q)(h2:A.tb[k]?=some c)(h3:A.tra[k]?=some t) :
 ∃G:Rg,(∀b,G b->F b)/\TfH U G q c.batch A.room t/\∀(σ':Hp) (f:TrA->TrA) (G' H:Rg),
  Ext G U σ'->(∀b,G' b->G b\/U.size<=b)->TfH σ' G' q c.batch A.room (f t)->(∀b,(F b/\b<U.size/\¬G b\/G' b)->H b)->AHY σ' H Y {A with tra:=A.tra.modify k f} (traT {A with tra:=A.tra.modify k f} Y):=by
 obtain⟨G,hG,hi,hd,hput⟩:=h.step (.tra k);have hi':TfH U G q c.batch A.room t:=by
  simp only[AC,traT]at hi;rw[h1,h2,h3]at hi;exact hi
 refine⟨G,hG,hi',λσ' f G' H e hg hC hH=>?_⟩;refine hput σ' _ _ _ G' H h.lay.setTra (λj=>traT.loc j) WnU e hg ?_ hH;simp only[AC,traT];rw[h1,h2,List.getElem?_modify_eq,h3];exact hC
theorem Gp (h:AHY U F Y A (traT A Y))(k:Int){R:Sl->Int->Hp->Prop}(hR:∀s σ',Ext F U σ'->(∀b,InB s b->F b)->SlR s 1 (WB (YC A k)) σ' (InB s)->s.len<=s.cap->AHY σ' (λb=>F b/\¬InB s b) Y (ZB A k) (traT (ZB A k) Y)->R s (Z5 A k) σ') :
 Wz.c (some ⟨Y.p,0,none⟩) k U R:=by
 refine Wz.o ?_;unfold Wz.v;refine Uk h k (λhk=>?_) λx hx hlt=>?_
 ·have e1:Z5 A k=1:=by unfold Z5;rw[hk];rfl
  have e2:ZB A k=A:=by unfold ZB;rw[e1];rfl
  have e3:YC A k=[]:=by unfold YC;rw[e1];rfl
  have:=hR ⟨none,0,0⟩ U (Ext.refl _ _) (λb hb=>by obtain⟨a,h1,_⟩:=hb;cases h1) (by rw[e3];exact SlR.nil _ _ _ _) (zC _) (by rw[e2];exact h.mono λb _ hb=>⟨hb,λ⟨a,h1,_⟩=>by cases h1⟩);rw[e1]at this;exact ifT rfl this
 ·subst hx;have hk:A.ck (x:Int)=true:=by unfold AR.ck;simp;omega
  obtain⟨c,ss,q,t,r,hc,hss,hq,ht,hr,hok⟩:=h.at_ hlt;obtain⟨G,hG,hC,hput⟩:=h.traS hr hc ht;refine ifF rfl (nilP (h.hd.rS rfl (h.trowR hr ?_)));by_cases hb:t.bs=[]
  ·have e1:Z5 A x=4:=by unfold Z5;rw[hk,zB rfl];simp only[iTn];rw[ht];simp[hb]
   have e2:ZB A x=A:=by unfold ZB;rw[e1];rfl
   have e3:YC A x=[]:=by unfold YC;rw[e1];rfl
   have:=hR ⟨none,0,0⟩ U (Ext.refl _ _) (λb hb=>by obtain⟨a,h1,_⟩:=hb;cases h1) (by rw[e3];exact SlR.nil _ _ _ _) (zC _) (by rw[e2];exact h.mono λb _ hb=>⟨hb,λ⟨a,h1,_⟩=>by cases h1⟩);rw[e1]at this;exact Wd3 hC hb this
  ·have e1:Z5 A x=0:=by unfold Z5;rw[hk,zB rfl];simp only[iTn];rw[ht];simp[hb]
   have e2:ZB A x = {A with tra:=A.tra.modify x TrA.rem}:=by unfold ZB;rw[e1,zB rfl];rfl
   have e3:YC A x=t.bs.getLast?.getD []:=by unfold YC;rw[e1,zB rfl];simp only[iTn];rw[ht]
   refine WiF hC hb λs σ' e hin hrow hcap hC'=>?_;have hreg:∀b,(F b/\b<U.size/\¬G b\/G b/\¬InB s b)->F b/\¬InB s b:=λb hb=>by
    rcases hb with hb|hb
    ·exact⟨hb.1,λhi=>hb.2.2 (hin b hi)⟩
    ·exact⟨hG b hb.1,hb.2⟩
   have:=hR s σ' (e.sub hG) (λb hb=>hG b (hin b hb)) (by rw[e3];exact hrow) hcap (by rw[e2];exact hput σ' _ (λb=>G b/\¬InB s b) _ e (λb hb=>.inl hb.1) hC' hreg);rw[e1]at this;exact this
theorem WbL (h:AHY U F Y A (traT A Y))(k:Int){sl:Sl}{xs:List Int}{X:Rg}(hs:SlR sl 1 (WB xs) U X)(hi:∀x∈xs,I63 x){R:Bool->Int->Hp->Prop}(hR:∀σ',Ext F U σ'->AHY σ' (Grow F U) Y (Q6 A k xs) (traT (Q6 A k xs) Y)->R (Vh A k xs) (Hs A k xs) σ') :
 WH.c (some ⟨Y.p,0,none⟩) k sl U R:=by
 refine WH.o ?_;unfold WH.v;have hlen:sl.len=xs.length:=by have:=hs.1;simp[WB]at this;omega
 have no:∀e:Int,e≠0->Hs A k xs=e->R false e U:=λe he h1=>by
  have e3:Vh A k xs=false:=by unfold Vh;rw[zH (by omega)];rfl
  have e2:Q6 A k xs=A:=by unfold Q6;rw[e3];rfl
  have:=hR U (Ext.refl _ _) (by rw[e2];exact h.mono λb _ hb=>.inl hb);rw[h1,e3]at this;exact this
 refine Uk h k (λhk=>ifT rfl (no 1 (by decide) (by unfold Hs;rw[hk];rfl))) λx hx hlt=>?_;subst hx;have hk:A.ck (x:Int)=true:=by unfold AR.ck;simp;omega
 obtain⟨c,ss,q,t,r,hc,hss,hq,ht,hr,hok⟩:=h.at_ hlt;obtain⟨G1,ps,hG1,hCe⟩:=h.cen hq hc hss;obtain⟨G,hG,hC,hput⟩:=h.traS hr hc ht;have eE:Hs A x xs=if xs.length=c.batch then(if xs.all (λx=>isTk c ss x==some true)then 0 else 8)else 1:=by unfold Hs;rw[hk,zB rfl];simp only[iTn];rw[hc,hss]
 refine ifF rfl (nilP (h.hd.rS rfl (h.tabR (d:=2) hc (by omega) ?_)));simp only[zA (show ¬(2=0) by omega),zA (show ¬(2=1) by omega)];rw[bneN];refine iff_ (λhb=>?_) λhb=>?_
 ·have:¬xs.length=c.batch:=by rw[←hlen];simpa using hb
  exact no 1 (by decide) (by rw[eE,zA this])
 have hbl:xs.length=c.batch:=by rw[←hlen];simpa using hb
 rw[zB hbl]at eE;have h32:c.batch<=32:=hok.2.2.2.2.2.2.2;refine Zx (a:=.i .i64) (λ(i:Int) v=>∃j:Nat,i=(j:Int)/\j<=xs.length/\v=U/\∀y∈xs.take j,isTk c ss y=some true) (λi _=>xs.length-i.toNat) ⟨0,rfl,by omega,rfl,by simp⟩ ?_;rintro i v ⟨j,rfl,hj,rfl,hall⟩;refine ifD (λhlt2=>?_) λhge=>?_
 ·have hj':j<xs.length:=by omega
  have hx:xs[j]?=some xs[j]:=gGe hj';have htk:xs.take (j+1)=xs.take j++[xs[j]]:=by rw[zAG,hx];rfl
  have hmem:=zk hj';generalize xs[j]=y at *;have bad:isTk c ss y≠some true->R false 8 v:=λhn=>no 8 (by decide) (by
   rw[eE,zA];intro ha;rw[zu]at ha;exact hn (by simpa using ha y hmem))
  refine hs.ixI hx (nilP (h.hd.rS rfl (h.crowR hq (Was hCe _ (hi y hmem) (λb hb=>?_) λhb=>?_))))
  ·refine JnB.intro (ifF rfl ?_);cases b
   ·exact ifT rfl (bad (by rw[hb];simp))
   ·refine ifF rfl (arN (m:=j+1) (by omega) (by omega) ⟨⟨j+1,rfl,by omega,rfl,λz hz=>?_⟩,by omega⟩);rw[htk]at hz;rcases zS.1 hz with h1|h1
    ·exact hall z h1
    ·simp at h1;rw[h1];exact hb
  ·exact JnB.intro (ifT rfl (ifT rfl (bad (by rw[hb];simp))))
 ·have:j=xs.length:=by omega
  subst this;rw[zAT]at hall;have eE0:Hs A x xs=0:=by
   rw[eE,zB];rw[zu];intro y hy;simp[hall y hy]
  have eV:Vh A x xs=decide (t.bs.length<A.room):=by unfold Vh;rw[eE0];simp only[iTn];rw[ht];simp
  refine nilP (h.hd.rS rfl (h.trowR hr (Wio hC hs (by omega) (λhn=>absurd hbl hn) (λ_ hf=>?_) λ_ hf σ' e hC'=>?_)))
  ·rw[zH (by omega)]at eV;have e2:Q6 A x xs=A:=by unfold Q6;rw[eV];rfl
   have:=hR v (Ext.refl _ _) (by rw[e2];exact h.mono λb _ hb=>.inl hb);rw[eE0,eV]at this;exact this
  ·rw[zI (by omega)]at eV;have e2:Q6 A x xs = {A with tra:=A.tra.modify x λt=>{t with bs:=t.bs++[xs]}}:=by unfold Q6;rw[eV,zB rfl];rfl
   have:=hR σ' (e.sub hG) (by rw[e2];exact hput σ' (λt=>{t with bs:=t.bs++[xs]}) (Grow G v) _ e (λb hb=>hb) hC' (UP hG λb hb=>hb));rw[eE0,eV]at this;exact this
theorem CeH.stB {q:Nat}{c:Cls}{ps:List (Nat×Nat)}{ss:List SpA}{G:Rg}(h:CeH U G q c ps ss):∀s∈ss,s.st<=1024:=by
 intro s hs;obtain⟨i,hi⟩:=zM hs;have hl:=(gSi.1 hi).1;have hp:i<ps.length:=by rw[h.len];exact hl
 have:=(h.sp _ _ _ (gGe hp) hi).fit;omega
theorem Gk (h:AHY U F Y A T)(k:Int){sl:Sl}{xs:List Int}(hi:∀x∈xs,I63 x)(hl:xs.length<=1000000)(hcap:sl.len<=sl.cap)
 (hs:(∃X:Rg,SlR sl 1 (WB xs) U X/\∀b,b<U.size->X b->¬F b)\/∃j,∀H,T j U H->SlR sl 1 (WB xs) U H)
 {R:Int->Hp->Prop} (hR:∀σ',Ext F U σ'->AHY σ' (Grow F U) Y (Y1 A k xs) T->R (QU A k xs) σ') :
 WA.c (some ⟨Y.p,0,none⟩) k sl U R:=by
 refine WA.o ?_;unfold WA.v;have no:∀e:Int,e≠0->QU A k xs=e->R e U:=λe he h1=>by
  have e2:Y1 A k xs=A:=by unfold Y1;rw[zA (by omega)]
  have:=hR U (Ext.refl _ _) (by rw[e2];exact h.mono λb _ hb=>.inl hb);rw[h1]at this;exact this
 refine Uk h k (λhk=>ifT rfl (no 1 (by decide) (by unfold QU;rw[hk];rfl))) λx hx hlt=>?_;subst hx;have hk:A.ck (x:Int)=true:=by unfold AR.ck;simp;omega
 obtain⟨c,ss,q,t,r,hc,hss,hq,_,_,hok⟩:=h.at_ hlt;obtain⟨G,hG,⟨ps,hC⟩,hd,hput⟩:=h.cenS hq hc hss;have hX:∃X:Rg,SlR sl 1 (WB xs) U X/\∀b,X b->¬G b:=by
  rcases hs with⟨X,h1,h2⟩|⟨j,hj⟩
  ·exact⟨Cut X U,(SlR.loc _ _ _).cut h1,λb hb hg=>h2 b hb.2 hb.1 (hG b hg)⟩
  ·obtain⟨H,_,hn,hT⟩:=hd j;exact⟨H,hj H hT,hn⟩
 obtain⟨X,hsX,hXG⟩:=hX;have eE:QU A x xs=putE c ss xs:=by unfold QU;rw[hk,zB rfl];simp only[iTn];rw[hc,hss]
 refine ifF rfl (nilP (h.hd.rS rfl (h.crowR hq (WlT hC hsX hXG hi hl hcap (λhn=>?_) λh0 o σ1 e1 hrow hC1=>?_))))
 ·refine ifT (by simpa using hn) (no _ hn eE)
 ·refine ifF rfl ?_;have eS:Y1 A x xs=VN {A with cen:=A.cen.set x (sweep (xs.foldl (put1 c) ss))} ((Z6 (xs.foldl (put1 c) ss)).map λs=>(s,c.pages)):=by
   unfold Y1;rw[eE,zB h0];simp only[iTn];rw[hc,hss]
  have hA1:=hput σ1 _ _ (Cut G U) _ e1 (λb hb=>.inl hb.1) hC1 (WiX hG);rw[WgZ]at hrow;have hlr:((Z6 (xs.foldl (put1 c) ss)).map λs=>(s,c.pages)).length<=1000000/\∀r∈((Z6 (xs.foldl (put1 c) ss)).map λs=>(s,c.pages)),r.1<=1000000:=by
   have hfold:∀(ys:List Int) (ls:List SpA),((ys.foldl (put1 c) ls).map (·.st))=ls.map (·.st):=by
    intro ys
    induction ys with
    | nil=>intro ls;rfl
    | cons y ys ih=>
     intro ls;rw[zAB,ih];unfold put1;split
     ·rename_i j hj;split
      ·rename_i s hs2;split
       ·simp only[zDP];apply zm;intro z;rw[zBD];by_cases hz:j=z
        ·subst hz;rw[zB rfl];have:=(gSi.1 hs2).1;rw[zB (by simpa using this)];simp[hs2,SpA.put]
        ·rw[zA hz]
       ·rfl
      ·rfl
     ·rfl
   have hsw:∀s∈Z6 (xs.foldl (put1 c) ss),s∈ss.map (·.st):=by
    intro s hs2;rw[←hfold xs ss];unfold Z6 at hs2;simp only[zE,zG]at hs2 ⊢;obtain⟨z,hz,rfl⟩:=hs2;exact⟨z,hz.1,rfl⟩
   have hfew:=hC.few;refine⟨?_,λr hr=>?_⟩
   ·have:(Z6 (xs.foldl (put1 c) ss)).length<=(xs.foldl (put1 c) ss).length:=by
     unfold Z6;rw[zh];exact zAZ _ _
    have h2:(xs.foldl (put1 c) ss).length=ss.length:=by have:=congrArg List.length (hfold xs ss);simpa using this
    rw[zh];omega
   ·obtain⟨s,hs2,rfl⟩:=zE.1 hr;obtain⟨z,hz,rfl⟩:=zE.1 (hsw s hs2);have:=hC.stB z hz;simp only;omega
  refine Wd7 hA1 hrow.slR (λb _ hb hf=>by have:=hf.2;omega) hlr.1 hlr.2 λσ2 e2 hA2=>?_;have:=hR σ2 ((e1.sub hG).trans (e2.sub λb hb=>hb.1)) ?_
  ·rw[eE,h0]at this;exact this
  ·rw[eS];exact hA2.mono λb _ hb=>by
    rcases hb with hb|hb
    ·exact .inl hb.1
    ·exact .inr (zN e1.1 hb)
theorem Wke (l:List (Nat×Nat))(x:Int):mget (runI l) x=(l.find? λr=>(r.1:Int)==x).map λr=>(r.2:Int):=by
 induction l with
 | nil=>rfl
 | cons r l ih=>
  have:runI (r::l)=((r.1:Int),(r.2:Int))::runI l:=rfl;rw[this,Kl,zDF,ih];by_cases h:(r.1:Int)=x
  ·simp[h]
  ·have:((r.1:Int)==x)=false:=by simpa using h
   rw[this,zA h]
theorem WjZ (l:List (Nat×Nat))(x:Int):mdel (runI l) x=runI (l.filter λq=>!((q.1:Int)==x)):=by
 unfold mdel runI;rw[List.filter_map];rfl
theorem WkB (l:List (Nat×Nat))(x m:Nat):mset (runI l) (x:Int) (m:Int)=runI (takeAS.mset2 l x m):=by
 unfold mset takeAS.mset2 runI;have e:(l.map λr=>((r.1:Int),(r.2:Int))).any (λy=>y.1==(x:Int))=l.any λr=>r.1==x:=by
  rw[List.any_map]
  congr 1
  funext r
  exact beqN r.1 x
 rw[e];split
 ·rw[zAP,zAP];apply zy;intro r _;simp only[Function.comp_def];rw[beqN];split<;>rfl
 ·simp
theorem AHY.runsS (h:AHY U F Y A T):F Y.rn/\MapL U Y.rn .i64 (.i .i64) (runI A.runs)/\∀(σ':Hp) (rs:List (Nat×Nat)),QK U σ' Y.rn->MapL σ' Y.rn .i64 (.i .i64) (runI rs)->AHY σ' F Y {A with runs:=rs} T:=by
 obtain⟨G,hG,⟨gr,hm⟩,_,hput⟩:=h.step .runs;refine⟨hG _ gr,hm,λσ' rs ho h'=>?_⟩;exact hput σ' _ _ T G _ h.lay.setRuns h.tl WlS (ho.ext.sub λb hb=>by subst hb;exact gr) (λb hb=>.inl hb) ⟨gr,h'⟩ (Wcj hG λb hb=>hb)
theorem Wdm (h:AHY U F Y A T)(x:Int)(hf:∀r∈A.runs,r.1<=1000000){R:Int->Hp->Prop}(hR:∀σ',Ext F U σ'->AHY σ' (Grow F U) Y (Qz A x) T->R (KN A x) σ') :
 WQ.c (some ⟨Y.p,0,none⟩) x U R:=by
 refine WQ.o ?_;unfold WQ.v;obtain⟨gr,hm,hput⟩:=h.runsS;refine Vv h (ifF rfl (nilP (h.hd.rM rfl ⟨_,hm,?_⟩)));rw[Wke];cases hr:(A.runs.find? λr=>(r.1:Int)==x)with
 | none=>
  have e1:KN A x=8:=by unfold KN Wa0;rw[hr];rfl
  have e2:Qz A x=A:=by unfold Qz Wa0;rw[hr]
  have:=hR U (Ext.refl _ _) (by rw[e2];exact h.mono λb _ hb=>.inl hb);rw[e1]at this;exact ifT rfl this
 | some r=>
  have e1:KN A x=0:=by unfold KN Wa0;rw[hr];rfl
  have e2:Qz A x=VR {A with runs:=A.runs.filter λq=>!((q.1:Int)==x)} r:=by unfold Qz Wa0;rw[hr]
  have hrm:=zCZ hr;have hrx:(r.1:Int)=x:=by simpa using zCY hr
  refine ifF rfl (nilP (h.hd.rM rfl ⟨_,hm,λv1 ho1 _ hm1=>?_⟩));have o1:=ho1 _ rfl;have hm1':MapL v1 Y.rn .i64 (.i .i64) (mdel (runI A.runs) x):=hm1;rw[WjZ]at hm1';have hA1:=hput v1 _ o1 hm1';simp only[zc,zBH];refine nw (cs:=[.int .i64 x,.int .i64 (r.2:Int)]) λv2 hz2 e2' hb2=>?_;have hA2:=hA1.cut.keep0 e2';have hsl:SlR ⟨some ⟨v1.size,0,none⟩,1,1⟩ 2 (rV [r]) v2 (· = v1.size):=by
   refine⟨rfl,.inr ⟨_,0,_,rfl,rfl,hb2.q,λj hj=>?_⟩⟩;have:rV [r]=[.int .i64 (r.1:Int),.int .i64 (r.2:Int)]:=rfl;rw[this,hrx,zJ]
  refine Wd7 hA2 hsl (λb _ hb hc=>by have:=hc.2;omega) (by simp) (λq hq=>by simp at hq;subst hq;exact hf _ hrm) λv3 e3 hA3=>?_;have e13:Ext F U v3:=(o1.ext.sub λb hb=>by subst hb;exact gr).trans ((Ext0.to e2').trans (e3.sub λb hb=>hb.1));have:=hR v3 e13 (by
   rw[e2];exact hA3.mono λb _ hb=>by
    rcases hb with hb|hb
    ·exact .inl hb.1
    ·exact .inr (by have:=o1.1;omega))
  rw[e1]at this;exact this
theorem Qg (rs:List (Nat×Nat)):∀A:AR,(VN A rs).tb=A.tb/\(VN A rs).room=A.room/\(VN A rs).tra=A.tra/\(VN A rs).cen=A.cen/\(VN A rs).runs=A.runs/\(VN A rs).n=A.n:=by
 induction rs with
 | nil=>intro A;exact⟨rfl,rfl,rfl,rfl,rfl,rfl⟩
 | cons r rs ih=>intro A;exact ih (VR A r)
theorem Vq (A:AR)(k:Int)(xs:List Int):(Y1 A k xs).tb=A.tb/\(Y1 A k xs).room=A.room/\(Y1 A k xs).tra=A.tra/\(Y1 A k xs).runs=A.runs/\(Y1 A k xs).n=A.n:=by
 unfold Y1;split
 ·split
  ·exact⟨(Qg _ _).1,(Qg _ _).2.1,(Qg _ _).2.2.1,(Qg _ _).2.2.2.2.1,(Qg _ _).2.2.2.2.2⟩
  ·exact⟨rfl,rfl,rfl,rfl,rfl⟩
 ·exact⟨rfl,rfl,rfl,rfl,rfl⟩
theorem AHY.chT {T':Nat->Hp->Rg->Prop}(h:AHY U F Y A T)(hT:∀k,Lcl (T' k))(hi:∀k G,T k U G->T' k U G):AHY U F Y A T':=by
 refine⟨h.lay,hT,?_⟩;obtain⟨ρ,hs⟩:=h.sep;refine⟨ρ,λi=>?_⟩;have:=hs i;cases i<;>first|exact this|exact hi _ _ this
theorem Wga (h:AHY U F Y A T){k:Nat}(hk:k<A.tb.length){q:Nat}(hq:Y.cps[k]?=some q){K:Hp->Prop}(hK:∀σ',Ext F U σ'->AHY σ' (Grow F U) Y (QH A k) T->K σ') :
 WU.c (some ⟨q,0,none⟩) U λt34 v2=>Xc.c (some ⟨Y.p,0,none⟩) t34 v2 K:=by
 obtain⟨c,ss,q',t,r,hc,hss,hq',_,_,hok⟩:=h.at_ hk;rw[hq]at hq';cases hq';obtain⟨G,hG,⟨ps,hC⟩,hd,hput⟩:=h.cenS hq hc hss;refine Wfl hC λo σ1 e1 hrow hC1=>?_;have hA1:=hput σ1 _ _ (Cut G U) _ e1 (λb hb=>.inl hb.1) hC1 (WiX hG);rw[WgZ]at hrow;have eS:QH A k=VN {A with cen:=A.cen.set k (sweep ss)} ((Z6 ss).map λs=>(s,c.pages)):=by
  unfold QH;rw[hc,hss]
 have hfew:=hC.few;have hst:=hC.stB;refine Wd7 hA1 hrow.slR (λb _ hb hf=>by have:=hf.2;omega) ?_ (λr hr=>?_) λσ2 e2 hA2=>?_
 ·have:(Z6 ss).length<=ss.length:=by unfold Z6;rw[zh];exact zAZ _ _
  rw[zh];omega
 ·obtain⟨s,hs2,rfl⟩:=zE.1 hr;unfold Z6 at hs2;simp only[zE,zG]at hs2;obtain⟨z,hz,rfl⟩:=hs2;have:=hst z hz.1;simp only;omega
 ·refine hK σ2 ((e1.sub hG).trans (e2.sub λb hb=>hb.1)) ?_;rw[eS];exact hA2.mono λb _ hb=>by
   rcases hb with hb|hb
   ·exact .inl hb.1
   ·exact .inr (zN e1.1 hb)
theorem Wdn (A:AR)(k:Nat):(QH A k).tb=A.tb/\(QH A k).room=A.room/\(QH A k).tra=A.tra/\(QH A k).runs=A.runs/\(QH A k).n=A.n:=by
 unfold QH;split
 ·exact⟨(Qg _ _).1,(Qg _ _).2.1,(Qg _ _).2.2.1,(Qg _ _).2.2.2.2.1,(Qg _ _).2.2.2.2.2⟩
 ·exact⟨rfl,rfl,rfl,rfl,rfl⟩
theorem Vz (m:Nat)(A:AR):((List.range m).foldl QH A).tb=A.tb/\((List.range m).foldl QH A).room=A.room/\((List.range m).foldl QH A).tra=A.tra/\((List.range m).foldl QH A).runs=A.runs/\((List.range m).foldl QH A).n=A.n:=by
 induction m with
 | zero=>exact⟨rfl,rfl,rfl,rfl,rfl⟩
 | succ m ih=>
  rw[zr,zv];have:=Wdn ((List.range m).foldl QH A) m;exact⟨this.1.trans ih.1,this.2.1.trans ih.2.1,this.2.2.1.trans ih.2.2.1,this.2.2.2.1.trans ih.2.2.2.1,this.2.2.2.2.trans ih.2.2.2.2⟩
theorem Wi2 (h:AHY U F Y A T){crow:Sl}(hcr:crow=Y.crow){K:Hp->Prop}(hK:∀σ',Ext F U σ'->AHY σ' (Grow F U) Y (YB A) T->K σ') :
 Xo [(.i .i64)] (λI=>I 0 U) λJ (t28:Int) v1=>If (decide (t28<((crow.len:Nat):Int))) (Ix crow.a crow.len t28 1 λa30=>LdP a30 v1 λl=>WU.c l v1 λt34 v2=>
  Xc.c (some ⟨Y.p,0,none⟩) t34 v2 λv3=>Ar .i64 (t28+1) λt36=>J t36 v3) (K v1):=by
 subst hcr;have hl:=h.crowL;refine Zx (a:=.i .i64) (λ(t:Int) v=>∃i:Nat,t=(i:Int)/\i<=A.tb.length/\Ext F U v/\AHY v (Grow F U) Y ((List.range i).foldl QH A) T) (λt _=>A.tb.length-t.toNat) ⟨0,rfl,by omega,Ext.refl _ _,h.mono λb _ hb=>.inl hb⟩ ?_;rintro t v ⟨i,rfl,hi,e,hA⟩;refine ifD (λhlt=>?_) λhge=>?_
 ·have hi':i<A.tb.length:=by omega
  have hfr:=Vz i A;obtain⟨c,ss,q,t,r,hc,hss,hq,_,_,hok⟩:=h.at_ hi';refine hA.crowR hq (Wga hA.cut (by rw[hfr.1];exact hi') hq λv3 e3 hA3=>?_);refine arN (m:=i+1) (by omega) (by have:=h.lay.tb2;omega) ⟨⟨i+1,rfl,by omega,e.growT (e3.sub λb hb=>hb.1),?_⟩,by omega⟩;rw[zr,zv];exact hA3.mono λb _ hb=>by
   rcases hb with hb|hb
   ·exact hb.1
   ·exact .inr (zN e.1 hb)
 ·have:i=A.tb.length:=by omega
  subst this;exact hK v e hA
def TraI (A:AR):Prop:=∀t∈A.tra,∀xs∈t.bs,∀x∈xs,I63 x
theorem TrA.tick_sub (t:TrA):∀xs∈t.tick.bs,xs∈t.bs:=λxs h=>zCE h
theorem TrA.out_sub (t:TrA):∀xs∈t.out,xs∈t.bs:=λxs h=>zCP h
theorem KP {α:Type}{l:List α}{k:Nat}{t:α}{f:α->α}(h:l[k]?=some t):l.modify k f=l.set k (f t):=by
 apply zm;intro i;rw[zBD,zCU];by_cases hi:k=i
 ·subst hi;have:=(gSi.1 h).1;rw[zB rfl,zB this,h];simp
 ·simp[hi]
theorem UZ (A:AR)(k:Nat):(Ku A k).tb=A.tb/\(Ku A k).room=A.room/\(Ku A k).tra=(match A.tra[k]? with|some t=>A.tra.set k t.tick|none=>A.tra)/\(Ku A k).runs=A.runs/\(Ku A k).n=A.n:=by
 have key:∀(l:List (List Int)) (B:AR),(l.foldl (λA' xs=>Y1 A' k xs) B).tb=B.tb/\(l.foldl (λA' xs=>Y1 A' k xs) B).room=B.room/\(l.foldl (λA' xs=>Y1 A' k xs) B).tra=B.tra/\(l.foldl (λA' xs=>Y1 A' k xs) B).runs=B.runs/\(l.foldl (λA' xs=>Y1 A' k xs) B).n=B.n:=by
  intro l
  induction l with
  | nil=>intro B;exact⟨rfl,rfl,rfl,rfl,rfl⟩
  | cons x l ih=>
   intro B;have h1:=ih (Y1 B k x);have h2:=Vq B k x;exact⟨h1.1.trans h2.1,h1.2.1.trans h2.2.1,h1.2.2.1.trans h2.2.2.1,h1.2.2.2.1.trans h2.2.2.2.1,h1.2.2.2.2.trans h2.2.2.2.2⟩
 unfold Ku;cases A.tra[k]? with
 | none=>exact⟨rfl,rfl,rfl,rfl,rfl⟩
 | some t=>exact key _ _
theorem WfV {k:Nat}(h:TraI A):TraI (Ku A k):=by
 unfold TraI;rw[(UZ A k).2.2.1];cases hk:A.tra[k]? with
 | none=>exact h
 | some t=>
  intro t' ht';rcases zEL ht' with h1|h1
  ·exact h t' h1
  ·subst h1;exact λxs hxs=>h t (zD hk) xs (t.tick_sub xs hxs)
def Gr (A:AR)(Y:Lay)(k r:Nat)(c:Cls)(t:TrA)(out:Sl)(sls:List Sl)(j:Nat):Hp->Rg->Prop:=
 if j=k then λU G=>TfH U G r c.batch A.room t.tick/\SlR out 1 (sls.map slV) U G/\Bat sls t.out U G else traT A Y j
theorem Gr.loc {k r:Nat}{c:Cls}{t:TrA}{out:Sl}{sls:List Sl}(j:Nat):Lcl (Gr A Y k r c t out sls j):=by
 unfold Gr;split
 ·exact λU σ' F G ⟨h1,h2,h3⟩ hz hs=>⟨TfH.loc _ _ _ _ h1 hz hs,SlR.loc _ _ _ _ _ _ _ h2 hz hs,Bat.loc _ _ _ _ _ _ h3 hz hs⟩
 ·exact traT.loc j
theorem WmM {k r:Nat}{c:Cls}{t:TrA}{out:Sl}{sls:List Sl}{tr:List TrA}:∀j,j≠Lb.tra k->AC {A with tra:=tr} Y (Gr A Y k r c t out sls) j=AC A Y (traT A Y) j:=by
 intro j hj;cases j<;>first|rfl|skip
 rename_i k';have hne:¬k'=k:=λe=>hj (by rw[e]);simp only[AC,Gr];rw[zA hne]
theorem WgG (h:AHY U F Y A (traT A Y)){k r:Nat}(hk:k<A.tb.length)(hr:Y.tps[k]?=some r)(hI:TraI A){K:Hp->Prop}(hK:∀σ',Ext F U σ'->AHY σ' (Grow F U) Y (Ku A k) (traT (Ku A k) Y)->K σ') :
 Xi.c (some ⟨r,0,none⟩) U λt20 v2=>Xo [(.i .i64)] (λI1=>I1 0 v2) λJ1 (t22:Int) v3=>If (decide (t22<((t20.len:Nat):Int))) (Ix t20.a t20.len t22 1 λa24=>LdS a24 v3 λbatch=>
  WA.c (some ⟨Y.p,0,none⟩) (k:Int) batch v3 λt29 v4=>Ar .i64 (t22+1) λt30=>J1 t30 v4) (K v3):=by
 obtain⟨c,ss,q,t,r',hc,hss,hq,ht,hr',hok⟩:=h.at_ hk;rw[hr]at hr';cases hr';obtain⟨G,hG,hi,hd,hput⟩:=h.step (.tra k);have hC:TfH U G r c.batch A.room t:=by
  simp only[AC,traT]at hi;rw[hr,hc,ht]at hi;exact hi
 refine WlR hC λout v2 e2 hOut hC2=>?_;obtain⟨sls,hO1,hO2⟩:=hOut;have e2F:=e2.sub hG;have hOg:SlR out 1 (sls.map slV) v2 (Grow G U):=(SlR.loc _ _ _).mono hO1 λb _ hb=>.inl hb;have hBg:Bat sls t.out v2 (Grow G U):=(Bat.loc _ _).mono hO2 λb _ hb=>.inl hb;have hA2:AHY v2 (Grow F U) Y {A with tra:=A.tra.set k t.tick} (Gr A Y k r c t out sls):=by
  refine hput v2 _ _ _ (Grow G U) _ ?_ Gr.loc WmM e2 (λb hb=>hb) ?_ (UP hG λb hb=>hb)
  ·exact⟨h.lay.c,h.lay.t,h.lay.cen,by simpa using h.lay.tra,h.lay.tb1,h.lay.tb2,h.lay.n1,h.lay.n2,h.lay.n3,h.lay.st,h.lay.room,h.lay.ok⟩
  ·simp only[AC,Gr,zO];exact⟨hC2,hOg,hBg⟩
 have hol:out.len=t.out.length:=by
  have:=hO1.1;have:=hO2.1;simp at *;omega
 have hfew:t.out.length<=8:=by
  have h1:=hC.few;have h2:=hC.r1;have:t.out.length<=t.bs.length:=by unfold TrA.out;rw[zT];omega
  omega
 refine Zx (a:=.i .i64) (λ(i:Int) w=>∃j:Nat,i=(j:Int)/\j<=t.out.length/\Ext F U w/\AHY w (Grow F U) Y ((t.out.take j).foldl (λA' xs=>Y1 A' k xs) {A with tra:=A.tra.set k t.tick}) (Gr A Y k r c t out sls)) (λi _=>t.out.length-i.toNat) ⟨0,rfl,by omega,e2F,hA2⟩ ?_;rintro i w ⟨j,rfl,hj,ew,hAw⟩;refine ifD (λhlt=>?_) λhge=>?_
 ·have hj':j<t.out.length:=by omega
  have hx:t.out[j]?=some t.out[j]:=gGe hj';have htk:t.out.take (j+1)=t.out.take j++[t.out[j]]:=by rw[zAG,hx];rfl
  have hmem:=t.out_sub _ (zk hj');generalize t.out[j]=xs at *;obtain⟨G2,hG2,hT2⟩:=hAw.sep.get (.tra k);simp only[AC,Gr,zO]at hT2;have hsj:j<sls.length:=by rw[hT2.2.2.1];exact hj'
  have hs:sls[j]?=some sls[j]:=gGe hsj;refine hT2.2.1.ixS hs (Gk (xs:=xs) hAw k (hI t (zD ht) xs hmem) (by have:=hC.all xs hmem;have:=hC.b1;omega) (hT2.2.2.2 j _ xs hs hx).2 (.inr ⟨k,λH hTH=>?_⟩) λw2 e3 hA3=>?_)
  ·unfold Gr at hTH;rw[zB rfl]at hTH;exact(hTH.2.2.2 j _ xs hs hx).1
  ·refine arN (m:=j+1) (by omega) (by omega) ⟨⟨j+1,rfl,by omega,ew.growT e3,?_⟩,by omega⟩;rw[htk,zv];exact hA3.mono λb _ hb=>by
    rcases hb with hb|hb
    ·exact hb
    ·exact .inr (zN ew.1 hb)
 ·have:j=t.out.length:=by omega
  subst this;rw[zAT]at hAw;have hfr:=UZ A k;rw[ht]at hfr;have e1:Ku A k=t.out.foldl (λA' xs=>Y1 A' k xs) {A with tra:=A.tra.set k t.tick}:=by unfold Ku;rw[ht]
  rw[←e1]at hAw;refine hK w ew (hAw.chT (λj=>traT.loc j) λj G3 hT3=>?_);unfold Gr at hT3;unfold traT;rw[hfr.1,hfr.2.1,hfr.2.2.1];simp only;split at hT3
  ·rename_i hjk;subst hjk;rw[hr,hc,zK (by rw[h.lay.tra];exact hk)];exact hT3.1
  ·rename_i hjk;rw[zd (λe=>hjk e.symm)];exact hT3
theorem GY (m:Nat)(A:AR)(hI:TraI A):((List.range m).foldl Ku A).tb=A.tb/\((List.range m).foldl Ku A).tra.length=A.tra.length/\((List.range m).foldl Ku A).runs=A.runs/\((List.range m).foldl Ku A).n=A.n/\TraI ((List.range m).foldl Ku A):=by
 induction m with
 | zero=>exact⟨rfl,rfl,rfl,rfl,hI⟩
 | succ m ih=>
  rw[zr,zv];have:=UZ ((List.range m).foldl Ku A) m;refine⟨this.1.trans ih.1,?_,this.2.2.2.1.trans ih.2.2.1,this.2.2.2.2.trans ih.2.2.2.1,WfV ih.2.2.2.2⟩;show(Ku ((List.range m).foldl Ku A) m).tra.length=_;rw[this.2.2.1];split
  ·rw[zBM];exact ih.2.1
  ·exact ih.2.1
theorem WjN (h:AHY U F Y A (traT A Y))(hI:TraI A){R:Hp->Prop}(hR:∀σ',Ext F U σ'->AHY σ' (Grow F U) Y (UU A) (traT (UU A) Y)->R σ'):YX.c (some ⟨Y.p,0,none⟩) U R:=by
 refine YX.o ?_;unfold YX.v;refine Vv h (ifF rfl (nilP (h.hd.rS rfl ?_)));have hl:=h.trowL;refine Zx (a:=.i .i64) (λ(t:Int) v=>∃i:Nat,t=(i:Int)/\i<=A.tb.length/\Ext F U v/\AHY v (Grow F U) Y ((List.range i).foldl Ku A) (traT ((List.range i).foldl Ku A) Y)) (λt _=>A.tb.length-t.toNat) ⟨0,rfl,by omega,Ext.refl _ _,h.mono λb _ hb=>.inl hb⟩ ?_;rintro t v ⟨i,rfl,hi,e,hA⟩;refine ifD (λhlt=>?_) λhge=>?_
 ·have hi':i<A.tb.length:=by simp only at hlt;omega
  have hfr:=GY i A hI;obtain⟨c,ss,q,t,r,hc,hss,hq,_,hr,hok⟩:=h.at_ hi';refine hA.trowR hr (WgG hA.cut (by rw[hfr.1];exact hi') hr hfr.2.2.2.2 λv3 e3 hA3=>?_);refine arN (m:=i+1) (by omega) (by have:=h.lay.tb2;omega) ⟨⟨i+1,rfl,by omega,e.growT (e3.sub λb hb=>hb.1),?_⟩,by omega⟩;rw[zr,zv];exact hA3.mono λb _ hb=>by
   rcases hb with hb|hb
   ·exact hb.1
   ·exact .inr (zN e.1 hb)
 ·have:i=A.tb.length:=by simp only at hge;omega
  subst this;refine hR v e ?_;unfold UU;rw[h.lay.tra];exact hA
end Go.Ar
namespace Go.Bu
variable {n:Nat}{S:Nat->Bool}
theorem VV {m a k x:Nat}(h:ZF n S m a k=some x):∃j,j<k/\m<=2^j/\a<=2^j/\(Kf n S j).head?=some x/\∀i,i<j->m<=2^i->a<=2^i->Kf n S i=[]:=by
 have Wa7:∀k,ZF n S m a k=none->∀i,i<k->m<=2^i->a<=2^i->Kf n S i=[]:=by
  intro k
  induction k with
  | zero=>intro _ i hi;omega
  | succ k ih=>
   intro hn i hi h1 h2;rw[ZF]at hn;split at hn
   ·cases hn
   ·rename_i hn';by_cases e:i=k
    ·subst e;rw[zB ⟨h1,h2⟩]at hn;simpa using hn
    ·exact ih hn' i (by omega) h1 h2
 induction k with
 | zero=>simp[ZF]at h
 | succ k ih=>
  rw[ZF]at h;split at h
  ·rename_i y hy;cases h;obtain⟨j,h1,h2⟩:=ih hy;exact⟨j,by omega,h2⟩
  ·rename_i hn;split at h
   ·rename_i hc;exact⟨k,by omega,hc.1,hc.2,h,Wa7 k hn⟩
   ·cases h
theorem UY {m a:Nat}:∀{k},ZF n S m a k=none->∀i,i<k->m<=2^i->a<=2^i->Kf n S i=[]
 | 0,_,i,hi,_,_=>by omega
 | k+1,hn,i,hi,h1,h2=>by
  rw[ZF]at hn;split at hn
  ·cases hn
  ·rename_i hn';by_cases e:i=k
   ·subst e;rw[zB ⟨h1,h2⟩]at hn;simpa using hn
   ·exact UY hn' i (by omega) h1 h2
theorem take_in (hb:Bounded S n){m a x:Nat}(h:Zf n S m a=some x):x+m<=n/\∀y,x<=y->y<x+m->S y=true:=by
 obtain⟨j,_,hm,_,hh,_⟩:=VV h;have hmem:x∈Kf n S j:=List.mem_of_head? hh;obtain⟨q,rfl,hc⟩:=(QP hb).1 hmem;have:=ZL hb (ZA.1 hc).1;exact⟨by omega,λy h1 h2=>VZ hc (Qb.2 (by omega))⟩
end Go.Bu
namespace Go.Ar
open Go Go.Vc Go.Proofs
open Go.Bu (Y3 QL Zf)
variable {U:Hp}{F H:Rg}{p hs:Nat}{A:AR}{sp:Sp}{Y:Lay}{T:Nat->Hp->Rg->Prop}
structure W2 (U:Hp) (F H:Rg) (Y:Lay) (A:AR) (T:Nat->Hp->Rg->Prop) (sp:Sp):Prop where
 a:AHY U F Y A T
 s:SpH3 U H Y.hs sp
 d:∀b,F b->¬H b
 g:Gl U
 o:Off F
 o2:Off H
def Both (F H:Rg):Rg:=λb=>F b\/H b
theorem W2.arena (h:W2 U F H Y A T sp){σ':Hp}{A':AR}(e:Ext F U σ')(ha:AHY σ' F Y A' T):W2 σ' F H Y A' T sp:=
 ⟨ha,Lcl.keep SpH3.loc h.s e λb _ hb hf=>h.d b hf hb,h.d,h.g.keep e h.o,h.o,h.o2⟩
theorem W2.space (h:W2 U F H Y A T sp){σ':Hp}{sp':Sp}(e:Ext H U σ')(hs:SpH3 σ' H Y.hs sp'):W2 σ' F H Y A T sp':=
 ⟨Lcl.keep AHY.loc h.a e λb _ hb hf=>h.d b hb hf,hs,h.d,h.g.keep e h.o2,h.o,h.o2⟩
theorem W2.keep0 (h:W2 U F H Y A T sp){σ':Hp}(e:Ext0 U σ'):W2 σ' F H Y A T sp:=⟨h.a.keep0 e,h.s.keep0 e,h.d,h.g.keep0 e,h.o,h.o2⟩
theorem W2.cut (h:W2 U F H Y A T sp):W2 U (Cut F U) (Cut H U) Y A T sp:=⟨h.a.cut,Lcl.cut SpH3.loc h.s,λb hb hc=>h.d b hb.1 hc.1,h.g,h.o.sub λb hb=>hb.1,h.o2.sub λb hb=>hb.1⟩
theorem W2.arenaG (h:W2 U F H Y A T sp){σ':Hp}{A':AR}(e:Ext F U σ')(ha:AHY σ' (Grow F U) Y A' T):W2 σ' (Grow F U) (Cut H U) Y A' T sp:=
 ⟨ha,Lcl.keep SpH3.loc (Lcl.cut SpH3.loc h.s) e λb _ hb hf=>h.d b hf hb.1,λb hb hc=>by
  rcases hb with hb|hb
  ·exact h.d b hb hc.1
  ·have:=hc.2;omega,h.g.keep e h.o,h.o.grow h.g,h.o2.sub λb hb=>hb.1⟩
theorem W2.rSp (h:W2 U F H Y A T sp){K:Option Addr->Prop}(hK:K (some ⟨Y.hs,0,none⟩)):LdP (Addr.add ⟨Y.p,0,none⟩ 1) U K:=h.a.hd.rP rfl hK
theorem Wa9 (st:List Nat)(a m:Nat):UI st a (m+1)=addT (UI st a m) ((a+m:Nat):Int):=by
 unfold UI;rw[zr,zAQ,zv];rfl
theorem Wjp {a m:Int}(h:mapE sp a m≠0):mapS sp a m=sp:=by unfold mapS;rw[zA h]
theorem WaT {size:Nat}(h1:1<=size)(h:∀j,1<=j->j*size+size<=sp.st.length->mapE sp ((j*size:Nat):Int) (size:Int)≠0):growStart sp size=none:=by
 unfold growStart;rw[zBW];intro x hx;obtain⟨j,hj,rfl⟩:=zE.1 hx;rw[zb]at hj;have h2:(j+1)*size<=sp.st.length:=zN (zAD size hj) (zEN _ _);rw[zi,Nat.one_mul]at h2;by_cases h0:j=0
 ·subst h0;simp
 ·have:=h j (by omega) h2;have hbe:(mapE sp ((j*size:Nat):Int) (size:Int)==0)=false:=by simpa only[zAA]using this
  rw[hbe,zCO];simp
theorem WaU {size j:Nat}(h1:1<=size)(h0:1<=j)(hf:j*size+size<=sp.st.length)(hm:mapE sp ((j*size:Nat):Int) (size:Int)=0)(h:∀i,1<=i->i<j->mapE sp ((i*size:Nat):Int) (size:Int)≠0):growStart sp size=some (j*size):=by
 unfold growStart;have hj:j<sp.st.length/size:=by
  rw[Nat.lt_iff_add_one_le,Nat.le_div_iff_mul_le h1,zi,Nat.one_mul];exact hf
 have hsplit:List.range (sp.st.length/size)=List.range j++(j::(List.range (sp.st.length/size-j-1)).map (j+1 + ·)):=by
  apply zm;intro i;rw[List.getElem?_append,zCH];by_cases hi:i<j
  ·rw[zB hi,zBJ (by omega),zBJ hi]
  ·rw[zA hi];by_cases hij:i=j
   ·subst hij;rw[zBS,zGG,zBJ hj]
   ·rw[show i-j=(i-j-1)+1 by omega,zFY,zg];by_cases hl:i<sp.st.length/size
    ·rw[zBJ hl,zBJ (by omega)];simp only[zc]
     congr 1;omega
    ·rw[zU (by rw[zCH];omega),zU (by rw[zCH];omega)];rfl
 rw[hsplit,zAQ,List.find?_append];have hnone:((List.range j).map (· * size)).find? (λ(s:Nat)=>s != 0&&mapE sp s size==0)=none:=by
  rw[zBW];intro x hx;obtain⟨i,hi,rfl⟩:=zE.1 hx;rw[zb]at hi;by_cases h0:i=0
  ·subst h0;simp
  ·have:=h i (by omega) hi;have hbe:(mapE sp ((i*size:Nat):Int) (size:Int)==0)=false:=by simpa only[zAA]using this
   rw[hbe,zCO];simp
 rw[hnone,zW,zDF];have:(j*size != 0&&mapE sp ((j*size:Nat):Int) (size:Int)==0)=true:=by
  rw[hm];have hp:0<j*size:=Nat.mul_pos (by omega) (by omega);have hne:j*size≠0:=by omega
  simp[hne]
 rw[this];rfl
theorem WjE (h:W2 U F H Y A T sp){size:Nat}(h1:size=16\/size=32\/size=64){R:Bool->Hp->Prop}(h0:UG A sp size=none->∀σ',Ext (Both F H) U σ'->W2 σ' F H Y A T sp->R false σ')
 (hR:∀A' sp',UG A sp size=some (A',sp')->∀σ',Ext (Both F H) U σ'->W2 σ' F H Y A' T sp'->R true σ'):YZ.c (some ⟨Y.p,0,none⟩) (size:Int) U R:=by
 refine YZ.o ?_;unfold YZ.v;have hn2:sp.st.length<=1024:=by obtain⟨q,r,l,B,hh⟩:=h.s;exact hh.n2
 have es:∀{a b:Hp},Ext H a b->Ext (Both F H) a b:=λe=>e.sub λb hb=>.inr hb;have ea:∀{a b:Hp},Ext F a b->Ext (Both F H) a b:=λe=>e.sub λb hb=>.inl hb;have hmul:∀j,j*size+size=(j+1)*size:=λj=>by rw[zi,Nat.one_mul]
 refine Zx (a:=.i .i64) (λ(t:Int) v=>∃j:Nat,t=((j*size:Nat):Int)/\1<=j/\j*size<=1024+64/\Ext (Both F H) U v/\W2 v F H Y A T sp/\∀i,1<=i->i<j->i*size+size<=sp.st.length->mapE sp ((i*size:Nat):Int) (size:Int)≠0) (λt _=>2000-t.toNat)
  ⟨1,by omega,zC _,by omega,Ext.refl _ _,h,λi h1 h2=>by omega⟩ ?_
 rintro t v ⟨j,rfl,hj,hb,e,hW,hall⟩;refine arN (m:=j*size+size) (by omega) (by omega) (nilP (hW.rSp (We0 hW.s (ifD (λhlt=>?_) λhge=>?_))))
 ·have hf:j*size+size<=sp.st.length:=by omega
  refine nilP (hW.rSp (Wnv hW.s hW.g hW.o2 _ _ λv2 e2 hS2=>?_));refine iff_ (λhc=>?_) λhc=>?_
  ·have hne:mapE sp ((j*size:Nat):Int) (size:Int)≠0:=by simpa using hc
   rw[Wjp hne]at hS2;refine arN (m:=(j+1)*size) (by rw[←hmul];omega) (by rw[←hmul];omega) ⟨⟨j+1,rfl,by omega,by rw[←hmul];omega,e.trans (es e2),hW.space e2 hS2,λi hi1 hi2 hif=>?_⟩,by rw[←hmul];omega⟩;by_cases hij:i=j
   ·subst hij;exact hne
   ·exact hall i hi1 (by omega) hif
  ·have hm0:mapE sp ((j*size:Nat):Int) (size:Int)=0:=by simpa using hc
   have hW2:=hW.space e2 hS2;have hfit:∀i,i<j->i*size+size<=sp.st.length:=λi hi=>by
    have:(i+1)*size<=j*size:=zAD _ hi;rw[hmul];omega
   have hgs:=WaU (sp:=sp) (by omega) hj hf hm0 λi hi1 hi2=>hall i hi1 hi2 (hfit i hi2);have hga:UG A sp size=some ({A with st:=UI A.st (j*size/16) (size/16),S:=QL A.n A.S ((j*size:Nat):Int) size},mapS sp ((j*size:Nat):Int) size):=by unfold UG;rw[hgs]
   have hd16:(j*size)%16=0:=by
    rcases h1 with rfl|rfl|rfl
    ·omega
    ·omega
    ·omega
   refine nz (by decide) (arN (m:=j*size/16) (by rw[Xm (by omega)];simp) (by omega) ?_);refine Zx (a:=.i .i64) (λ(t:Int) w=>∃i:Nat,t=((j*size/16+i:Nat):Int)/\i<=size/16/\Ext (Both F H) U w/\W2 w F H Y {A with st:=UI A.st (j*size/16) i} T (mapS sp ((j*size:Nat):Int) size)) (λt _=>200-t.toNat)
    ⟨0,by omega,by omega,e.trans (es e2),hW2⟩ ?_
   rintro t w ⟨i,rfl,hi,ew,hWw⟩;refine arN (m:=j*size+size) (by omega) (by omega) (nz (by decide) (arN (m:=(j*size+size)/16) (by rw[Xm (by omega)];simp) (by omega) (ifD (λhlt2=>?_) λhge2=>?_)))
   ·refine nilP (hWw.a.hd.rP rfl (hWw.a.AddH _ λw2 t2 e3 hA3=>?_));refine arN (m:=j*size/16+(i+1)) (by omega) (by omega) ⟨⟨i+1,rfl,by omega,ew.trans (ea e3),?_⟩,by omega⟩;rw[Wa9];exact hWw.arena e3 hA3
   ·have hii:i=size/16:=by omega
    subst hii;refine nilP (hWw.a.hd.rP rfl (hWw.a.Give _ _ λw2 t2 e3 hA3=>?_));exact hR _ _ hga w2 (ew.trans (ea e3)) (hWw.arena e3 hA3)
 ·have hgs:=WaT (sp:=sp) (size:=size) (by omega) λi hi1 hif=>by
   by_cases hij:i<j
   ·exact hall i hi1 hij hif
   ·have:j*size<=i*size:=zAD _ (by omega);omega
  have hga:UG A sp size=none:=by unfold UG;rw[hgs]
  exact h0 hga v e hW
theorem Wgi {m a:Nat}(h1:1<=m)(h2:m<=64)(ha:a=1\/a=2\/a=4\/a=8\/a=16):Go.Bu.takeArg (m:Int) (a:Int)=true:=by
 have hp:Go.Bu.isPow (a:Int)=true:=by rcases ha with rfl|rfl|rfl|rfl|rfl<;>decide
 unfold Go.Bu.takeArg;rw[hp];simp only[zCX,zF,zP];omega
theorem W2.take (h:W2 U F H Y A T sp){m a:Nat}(hok:Go.Bu.takeArg (m:Int) (a:Int)=true){R:Int->Int->Hp->Prop}(h0:Zf A.n A.S m a=none->∀σ',Ext F U σ'->W2 σ' F H Y A T sp->R 0 6 σ')
 (h1:∀x,Zf A.n A.S m a=some x->x+m<=A.n->∀σ',Ext F U σ'->W2 σ' F H Y {A with S:=Go.Bu.take A.S x (x+m)} T sp->R (x:Int) 0 σ'):XU.c (some ⟨Y.fr,0,none⟩) (m:Int) (a:Int) U R:=by
 have hbnd:Go.Bu.Bounded A.S A.n:=by obtain⟨sb,ms,hB,_⟩:=h.a.free;exact hB.bnd
 refine h.a.TakeB _ _ λσ' e hA=>?_;have hW:=h.arena e hA;cases ht:Zf A.n A.S m a with
 | none=>
  have e1:Go.Bu.takeE A.n A.S (m:Int) (a:Int)=6:=by unfold Go.Bu.takeE;rw[hok,zB rfl];simp only[iTn];rw[ht]
  have e2:Go.Bu.takeV A.n A.S (m:Int) (a:Int)=0:=by unfold Go.Bu.takeV;rw[hok,zB rfl];simp only[iTn];rw[ht]
  have e3:Go.Bu.takeS A.n A.S (m:Int) (a:Int)=A.S:=by unfold Go.Bu.takeS;rw[hok,zB rfl];simp only[iTn];rw[ht]
  rw[e1,e2];rw[e3]at hW;exact h0 ht σ' e hW
 | some x=>
  have e1:Go.Bu.takeE A.n A.S (m:Int) (a:Int)=0:=by unfold Go.Bu.takeE;rw[hok,zB rfl];simp only[iTn];rw[ht]
  have e2:Go.Bu.takeV A.n A.S (m:Int) (a:Int)=x:=by unfold Go.Bu.takeV;rw[hok,zB rfl];simp only[iTn];rw[ht]
  have e3:Go.Bu.takeS A.n A.S (m:Int) (a:Int)=Go.Bu.take A.S x (x+m):=by unfold Go.Bu.takeS;rw[hok,zB rfl];simp only[iTn];rw[ht]
  rw[e1,e2];rw[e3]at hW;exact h1 x ht (Go.Bu.take_in hbnd ht).1 σ' e hW
theorem Wlp {size:Nat}{A':AR}{sp':Sp}(h:UG A sp size=some (A',sp')):A'.n=A.n:=by
 unfold UG at h;split at h
 ·cases h
 ·cases h;rfl
def Fits (U:Hp)(F H F' H':Rg):Prop:=(∀b,F' b->Grow F U b)/\∀b,H' b->H b
theorem Wlk (h:W2 U F H Y A T sp){m a no:Nat}(h1:1<=m)(h2:m<=64)(ha:a=1\/a=2\/a=4\/a=8\/a=16)(hn1:1<=no)(hn2:no<=1000){R:Int->Int->Hp->Prop}
 (h0:(getA A sp m a no).1=none->∀σ',Ext (Both F H) U σ'->W2 σ' F H Y (getA A sp m a no).2.1 T (getA A sp m a no).2.2->R 0 6 σ')
 (hR:∀x,(getA A sp m a no).1=some x->x+m<=A.n->∀σ' F' H',Fits U F H F' H'->Ext (Both F H) U σ'->W2 σ' F' H' Y (getA A sp m a no).2.1 T (getA A sp m a no).2.2->R (x:Int) 0 σ') :
 YK.c (some ⟨Y.p,0,none⟩) (m:Int) (a:Int) (no:Int) U R:=by
 refine YK.o ?_;unfold YK.v;have hok:=Wgi h1 h2 ha;have es:∀{a b:Hp},Ext H a b->Ext (Both F H) a b:=λe=>e.sub λb hb=>.inr hb;have ea:∀{a b:Hp},Ext F a b->Ext (Both F H) a b:=λe=>e.sub λb hb=>.inl hb;have fin:∀(v:Hp) (x:Nat) (A1:AR) (sp1:Sp),Ext (Both F H) U v->x+m<=A.n->W2 v F H Y {A1 with S:=Go.Bu.take A1.S x (x+m)} T sp1->getA A sp m a no=(some x,useA A1 x m no,sp1) →
  NilP (some ⟨Y.p,0,none⟩) λa50=>LdP (a50.add 3) v λt52=>XF.c t52 (x:Int) (m:Int) v λt55 v2=>NilP (some ⟨Y.p,0,none⟩) λa57=>LdP (a57.add 4) v2 λt59=>X7.c t59 (x:Int) (m:Int) (no:Int) v2 λt63 v3=>R (x:Int) 0 v3:=by
  intro v x A1 sp1 e hxm hW hg;have hxl:x<=1000000:=by have:=h.a.lay.n2;omega
  refine nilP (hW.a.hd.rP rfl (hW.a.Use _ _ λv2 t2 e2 hA2=>?_));have hW2:=hW.arena e2 hA2;refine nilP (hW2.a.hd.rP rfl (hW2.a.Set x m hxl hn1 hn2 λv3 t3 e3 hA3=>?_));have hW3:=hW2.arenaG e3 hA3;refine hR x (by rw[hg]) hxm v3 (Grow F v2) (Cut H v2) ⟨λb hb=>?_,λb hb=>hb.1⟩ ((e.trans (ea e2)).trans (ea e3)) (by rw[hg];exact hW3);rcases hb with hb|hb
  ·exact .inl hb
  ·exact .inr (zN (e.trans (ea e2)).1 hb)
 refine nilP (h.a.hd.rP rfl (h.take hok (λht v e hW=>?_) λx ht hxn v e hW=>?_))
 ·refine Jn.intro (ifT rfl ?_);have hmx:(if(a:Int)>(m:Int)then(a:Int)else(m:Int))=((max m a:Nat):Int):=by
   by_cases hgt:(a:Int)>(m:Int)
   ·rw[zB hgt];omega
   ·rw[zA hgt];omega
  rw[hmx];refine Zx (a:=.i .i64) (λ(t:Int) w=>w=v/\(t=16\/t=32/\16<max m a\/t=64/\32<max m a)) (λt _=>100-t.toNat) ⟨rfl,.inl rfl⟩ ?_;rintro(t:Int) w ⟨rfl,hcase⟩;have ha16:a<=16:=by omega
  refine ifD (λhlt=>?_) λhge=>?_
  ·have:t=16\/t=32:=by omega
   rcases this with rfl|rfl
   ·exact ar (by omega) (by omega) ⟨⟨rfl,by omega⟩,by decide⟩
   ·exact ar (by omega) (by omega) ⟨⟨rfl,by omega⟩,by decide⟩
  ·have hup:t=((Q1 (max m a):Nat):Int):=by
    unfold Q1;by_cases c1:max m a<=16
    ·rw[zB c1];omega
    ·rw[zA c1];by_cases c2:max m a<=32
     ·rw[zB c2];omega
     ·rw[zA c2];omega
   subst hup;have hsz:Q1 (max m a)=16\/Q1 (max m a)=32\/Q1 (max m a)=64:=by omega
   refine WjE hW hsz (λhg σ' e' hW'=>?_) λA' sp' hg σ' e' hW'=>?_
   ·have hga:getA A sp m a no=(none,A,sp):=by unfold getA;rw[ht];simp only;rw[hg]
    exact ifT rfl (h0 (by rw[hga]) σ' ((ea e).trans e') (by rw[hga];exact hW'))
   ·refine ifF rfl (nilP (hW'.a.hd.rP rfl (hW'.take hok (λht2 v2 e2 hW2=>?_) λx ht2 hxn v2 e2 hW2=>?_)))
    ·have hga:getA A sp m a no=(none,A',sp'):=by unfold getA;rw[ht];simp only;rw[hg];simp only;rw[ht2]
     exact ifT rfl (h0 (by rw[hga]) v2 (((ea e).trans e').trans (ea e2)) (by rw[hga];exact hW2))
    ·have hga:getA A sp m a no=(some x,useA A' x m no,sp'):=by unfold getA;rw[ht];simp only;rw[hg];simp only;rw[ht2]
     exact ifF rfl (fin v2 x A' sp' (((ea e).trans e').trans (ea e2)) (by rw[←Wlp hg];exact hxn) hW2 hga)
 ·have hga:getA A sp m a no=(some x,useA A x m no,sp):=by unfold getA;rw[ht]
  refine Jn.intro (ifF rfl (ifF rfl (fin v x A sp (ea e) hxn hW hga)))
theorem Fits.refl:Fits U F H F H:=⟨λb hb=>.inl hb,λb hb=>hb⟩
theorem WkH (h:W2 U F H Y A T sp)(k:Int){R:Int->Hp->Prop}(hR:∀σ' F' H',Fits U F H F' H'->Ext (Both F H) U σ'->W2 σ' F' H' Y (growS A sp k).1 T (growS A sp k).2->R (KH A sp k) σ') :
 Ya.c (some ⟨Y.p,0,none⟩) k U R:=by
 refine Ya.o ?_;unfold Ya.v;refine Uk h.a k (λhk=>?_) λx hx hlt=>?_
 ·have e1:KH A sp k=1:=by unfold KH;rw[hk];rfl
  have e2:growS A sp k=(A,sp):=by unfold growS;rw[hk];rfl
  have:=hR U F H Fits.refl (Ext.refl _ _) (by rw[e2];exact h);rw[e1]at this;exact ifT rfl this
 ·subst hx;have hk:A.ck (x:Int)=true:=by unfold AR.ck;simp;omega
  obtain⟨c,ss,q,t,r,hc,hss,hq,_,_,hok⟩:=h.a.at_ hlt;have ht2:=h.a.lay.tb2;obtain⟨_,_,_,hp1,hp4,_⟩:=hok;refine ifF rfl (nilP (h.a.hd.rS rfl (h.a.tabR (d:=1) hc (by omega) ?_)));simp only[zA (show ¬(1=0) by omega),zO];refine arN (m:=x+1) (by omega) (by omega) ?_;have eE:KH A sp x=match (getA A sp c.pages 1 (x+1)).1 with
   | some y=>Gs c ss y
   | none=>6:=by unfold KH;rw[hk,zB rfl];simp only[iTn];rw[hc,hss];rfl
  have eS:growS A sp x=match getA A sp c.pages 1 (x+1)with
   | (some y,A',sp')=>(if Gs c ss y=0 then{A' with cen:=A'.cen.set x (addS c ss y)}else A',sp')
   | (none,A',sp')=>(A',sp'):=by unfold growS;rw[hk,zB rfl];simp only[iTn];rw[hc,hss];rfl
  refine Wlk (a:=1) h hp1 (by omega) (.inl rfl) (by omega) (by omega) (λhg σ' e hW=>?_) λy hg hyn σ' F' H' hfit e hW=>?_
  ·have:=hR σ' F H Fits.refl e;rw[eE,eS,hg]at this;generalize getA A sp c.pages 1 (x+1)=g at *;obtain⟨g1,g2,g3⟩:=g;simp only at hg;subst hg;exact ifT rfl (this hW)
  ·have hfr:(getA A sp c.pages 1 (x+1)).2.1.tb=A.tb/\(getA A sp c.pages 1 (x+1)).2.1.cen=A.cen:=by
    unfold getA;split
    ·exact⟨rfl,rfl⟩
    ·split
     ·exact⟨rfl,rfl⟩
     ·rename_i A1 sp1 hga;have:A1.tb=A.tb/\A1.cen=A.cen:=by
       unfold UG at hga;split at hga
       ·cases hga
       ·cases hga;exact⟨rfl,rfl⟩
      split
      ·exact this
      ·exact this
   have hRx:=λσ' F' H'=>hR σ' F' H';rw[eE,eS]at hRx;generalize getA A sp c.pages 1 (x+1)=g at *;obtain⟨g1,A',sp'⟩:=g;simp only at hg hW hfr hRx;subst hg;simp only at hRx;have hWc:=hW;obtain⟨G,hG,⟨ps,hC⟩,_,hput⟩:=hW.a.cenS hq (by rw[hfr.1];exact hc) (by rw[hfr.2];exact hss);have hn2:=h.a.lay.n2;refine ifF rfl (nilP (hW.a.hd.rS rfl (hW.a.crowR hq (Wmq hC (by omega) (λh9 v e2=>?_) λh0 v ps' e2 hC2=>?_))))
   ·have:=hRx v F' H' hfit (e.trans0 e2) (by rw[h9];exact hW.keep0 e2);rw[h9]at this;exact this
   ·have hA2:=hput v _ _ (Grow G σ') _ e2 (λb hb=>hb) hC2 (UP hG λb hb=>hb);have hW2:=hW.arenaG (e2.sub hG) hA2;have:=hRx v (Grow F' σ') (Cut H' σ') ⟨λb hb=>?_,λb hb=>hfit.2 b hb.1⟩ (e.newT (e2.sub hG) λb hb=>?_) (by rw[h0];exact hW2)
    ·rw[h0]at this;exact this
    ·rcases hb with hb|hb
     ·exact hfit.1 b hb
     ·exact .inr (zN e.1 hb)
    ·rcases hfit.1 b hb with h1|h1
     ·exact .inl (.inl h1)
     ·exact .inr h1
theorem HJ (A:AR)(sp:Sp)(m a no:Nat):(getA A sp m a no).2.1.tb=A.tb/\(getA A sp m a no).2.1.cen=A.cen/\(getA A sp m a no).2.1.tra=A.tra/\(getA A sp m a no).2.1.room=A.room/\(getA A sp m a no).2.1.runs=A.runs/\(getA A sp m a no).2.1.n=A.n:=by
 unfold getA;split
 ·exact⟨rfl,rfl,rfl,rfl,rfl,rfl⟩
 ·split
  ·exact⟨rfl,rfl,rfl,rfl,rfl,rfl⟩
  ·rename_i A1 sp1 hga;have:A1.tb=A.tb/\A1.cen=A.cen/\A1.tra=A.tra/\A1.room=A.room/\A1.runs=A.runs/\A1.n=A.n:=by
    unfold UG at hga;split at hga
    ·cases hga
    ·cases hga;exact⟨rfl,rfl,rfl,rfl,rfl,rfl⟩
   split
   ·exact this
   ·exact this
theorem Wn9:∀a:Nat,a<17->1<=a->((bits .and .i64 (a:Int) ((a:Int)-1) != 0) = !(a==1||(a==2||(a==4||(a==8||a==16))))):=by decide
theorem Wce (h:W2 U F H Y A T sp)(m a:Int){R:Int->Int->Hp->Prop}(hR:∀σ' F' H',Fits U F H F' H'->Ext (Both F H) U σ'->W2 σ' F' H' Y (takeAS A sp m a).1 T (takeAS A sp m a).2->R ((Z4 A sp m a:Nat):Int) (Qv A sp m a) σ') :
 WS.c (some ⟨Y.p,0,none⟩) m a U R:=by
 refine WS.o ?_;unfold WS.v;have bad:Kd m a=false->R 0 1 U:=λhk=>by
  have e1:Qv A sp m a=1:=by unfold Qv;rw[hk];rfl
  have e2:takeAS A sp m a=(A,sp):=by unfold takeAS;rw[hk];rfl
  have e3:Z4 A sp m a=0:=by unfold Z4;rw[hk];rfl
  have:=hR U F H Fits.refl (Ext.refl _ _) (by rw[e2];exact h);rw[e1,e3]at this;exact this
 have badR:¬(1<=m/\m<=64/\(a=1\/a=2\/a=4\/a=8\/a=16))->R 0 1 U:=λhn=>bad (by
  rw[←zCF];intro hp;unfold Kd at hp;simp at hp;omega)
 refine Vv h.a (ifF rfl (JnB.intro (ifD (λc1=>JnB.intro (ifT rfl (JnB.intro (ifT rfl (JnB.intro (ifT rfl (ifT rfl (badR (by omega))))))))) λc1=>?_)));refine JnB.intro (ifD (λc2=>JnB.intro (ifT rfl (JnB.intro (ifT rfl (ifT rfl (badR (by omega))))))) λc2=>?_);refine JnB.intro (ifD (λc3=>JnB.intro (ifT rfl (ifT rfl (badR (by omega))))) λc3=>?_);refine JnB.intro (ifD (λc4=>ifT rfl (badR (by omega))) λc4=>ar (by omega) (by omega) ?_);obtain⟨y,rfl⟩:=ze (show 0<=m by omega);obtain⟨z,rfl⟩:=ze (show 0<=a by omega);rw[Wn9 z (by omega) (by omega)];refine iff_ (λc5=>?_) λc5=>?_
 ·refine badR (λhh=>?_);simp at c5;omega
 ·have hz:z=1\/z=2\/z=4\/z=8\/z=16:=by
   simp at c5;omega
  have hk:Kd (y:Int) (z:Int)=true:=by
   unfold Kd;simp;omega
  have eE:Qv A sp y z=if(getA A sp y z 41).1.isSome then 0 else 6:=by unfold Qv;rw[hk,zB rfl];rfl
  have eV:Z4 A sp y z=(getA A sp y z 41).1.getD 0:=by unfold Z4;rw[hk,zB rfl];rfl
  have eS:takeAS A sp y z=match getA A sp y z 41 with
   | (some x,A',sp')=>({A' with runs:=takeAS.mset2 A'.runs x y},sp')
   | (none,A',sp')=>(A',sp'):=by unfold takeAS;rw[hk,zB rfl];rfl
  refine Wlk (no:=41) h (by omega) (by omega) hz (by omega) (by omega) (λhg σ' e hW=>?_) λx hg hyn σ' F' H' hfit e hW=>?_
  ·have:=hR σ' F H Fits.refl e;rw[eE,eS,eV,hg]at this;generalize getA A sp y z 41=g at *;obtain⟨g1,g2,g3⟩:=g;simp only at hg;subst hg;exact ifT rfl (this hW)
  ·have hRx:=λσ' F' H'=>hR σ' F' H';rw[eE,eS,eV]at hRx;generalize getA A sp y z 41=g at *;obtain⟨g1,A',sp'⟩:=g;simp only at hg hW hRx;subst hg;simp only at hRx;obtain⟨gr,hm,hput⟩:=hW.a.runsS;refine ifF rfl (nilP (hW.a.hd.rM rfl ⟨_,_,rfl,hm,λv ho hm'=>?_⟩));have hm2:MapL v Y.rn .i64 (.i .i64) (mset (runI A'.runs) (x:Int) (y:Int)):=hm';rw[WkB]at hm2;have hA2:=hput v _ ho hm2;have e2:Ext F' σ' v:=ho.ext.sub λb hb=>by subst hb;exact gr
   have hW2:=hW.arena e2 hA2;exact hRx v F' H' hfit (e.newT e2 λb hb=>by
    rcases hfit.1 b hb with h1|h1
    ·exact .inl (.inl h1)
    ·exact .inr h1) hW2
theorem WjV (h:W2 U F H Y A T sp){R:Int->Hp->Prop}(hR:∀σ',Ext (Both F H) U σ'->W2 σ' (Cut F U) (Cut H U) Y (trimS A sp).1 T (trimS A sp).2->R ((WfG A:Nat):Int) σ') :
 Ye.c (some ⟨Y.p,0,none⟩) U R:=by
 refine Ye.o ?_;unfold Ye.v;have es:∀{a b:Hp},Ext (Cut H U) a b->Ext (Both F H) a b:=λe=>e.sub λb hb=>.inr hb.1;have ea:∀{a b:Hp},Ext (Cut F U) a b->Ext (Both F H) a b:=λe=>e.sub λb hb=>.inl hb.1;obtain⟨G,hG,q,hT,_⟩:=h.a.trk;refine Vv h.a (ifF rfl (nilP (h.a.hd.rP rfl (Wkr hT λs v1 e1 hrow=>?_))));have hn2:=h.a.lay.n2;have hstl:=h.a.lay.st;have hlen:=hrow.lenN;have hthl:(Kc A.st 0).length<=64:=by
  unfold Kc;refine zN (zAZ _ _) ?_;rw[zCH];omega
 have hthm:∀k∈Kc A.st 0,k<=64:=λk hk=>by
  unfold Kc at hk;have:=(zG.1 hk).1;rw[zb]at this;omega
 have hsl:=(SlR.loc _ _ _).cut hrow.slR;refine Zx (a:=.i .i64) (λ(t:Int) w=>∃i:Nat,t=(i:Int)/\i<=(Kc A.st 0).length/\Ext (Both F H) U w/\W2 w (Cut F U) (Cut H U) Y (((Kc A.st 0).take i).foldl Ve (A,sp)).1 T (((Kc A.st 0).take i).foldl Ve (A,sp)).2/\SlR s 1 (ints (Kc A.st 0)) w (λb=>U.size<=b)) (λt _=>(Kc A.st 0).length-t.toNat)
  ⟨0,rfl,by omega,Ext0.to e1,h.cut.keep0 e1,hrow.slR⟩ ?_
 rintro t w ⟨i,rfl,hi,e,hW,hs⟩;refine ifD (λhlt=>?_) λhge=>?_
 ·have hi':i<(Kc A.st 0).length:=by omega
  have hx:(Kc A.st 0)[i]?=some (Kc A.st 0)[i]:=gGe hi';have htk:(Kc A.st 0).take (i+1)=(Kc A.st 0).take i++[(Kc A.st 0)[i]]:=by rw[zAG,hx];rfl
  have hk:=hthm _ (zk hi');generalize (Kc A.st 0)[i]=k at *;refine hs.ixN hx (nilP (hW.a.hd.rP rfl (hW.a.RemH _ λw2 t2 e2 hA2=>?_)));have hW2:=hW.arena e2 hA2;refine nilP (hW2.a.hd.rP rfl (arN (m:=k*16) (by omega) (by omega) (hW2.a.TakeRun _ _ λw3 t3 e3 hA3=>?_)));have hW3:=hW2.arena e3 hA3;refine nilP (hW3.rSp (arN (m:=k*16) (by omega) (by omega) (Wjo hW3.s hW3.g hW3.o2 _ _ λw4 e4 hS4=>?_)));have hW4:=hW3.space e4 hS4;have hs4:SlR s 1 (ints (Kc A.st 0)) w4 (λb=>U.size<=b):=(SlR.loc _ _ _).keep ((SlR.loc _ _ _).keep ((SlR.loc _ _ _).keep hs e2 λb _ hb hc=>by have:=hc.2;omega) e3 λb _ hb hc=>by have:=hc.2;omega) e4 λb _ hb hc=>by have:=hc.2;omega
  refine arN (m:=i+1) (by omega) (by omega) ⟨⟨i+1,rfl,by omega,((e.trans (ea e2)).trans (ea e3)).trans (es e4),?_,hs4⟩,by omega⟩;rw[htk,zv];exact hW4
 ·have:i=(Kc A.st 0).length:=by omega
  subst this;rw[zAT]at hW;rw[hlen];exact hR w e hW
end Go.Ar
namespace Go.Proofs
open Go.Vc
set_option maxRecDepth 100000
def WP.hint2:Hn:=.seq (.o 1) (.seq (.o 1) (.block (.loop [(1,.one (.i .i64)),(2,.one (.i .i64)),(3,.one (.i .i64)),(10,.one .b),(11,.one .b)] (.block (.seq (.o 4) (.seq (.seq (.o 2) (.cond (.seq (.o 5) (.leaf)) (.leaf))) .leaf))))))
def WP.vc2 (data:Sl)(a:Int)(b:Int)(limit:Int)(cmp:Fv)(U:Hp)(R:Hp->Prop):Prop:=
 Xo [(.i .i64),(.i .i64),(.i .i64),.b,.b] (λI=>I a b limit true true U) λJ (a1:Int) (b1:Int) (limit1:Int) (wasBalanced:Bool) (wasPartitioned:Bool) v=>
 Ar .i64 (b1-a1) λlength=>
 If (decide (length<=12)) (Wr.c data a1 b1 cmp v λv1=>
  R v1)
  False
theorem WP.of_vc2 {data:Sl}{a:Int}{b:Int}{limit:Int}{cmp:Fv}{U:Hp}{R:Hp->Prop}(hv:WP.vc2 data a b limit cmp U R):WP.c data a b limit cmp U R:=
 Wa Tryz.func235 (x:=WP.hint2) (args:=[.slice data.a data.len data.cap,.int .i64 a,.int .i64 b,.int .i64 limit,.func (.func cmp.f) cmp.first cmp.captured]) (rs:=[]) (R:=R) (R0 hv)
end Go.Proofs
namespace Go.Ar
open Go Go.Vc Go.Proofs
variable {U:Hp}{Q:Rg}{key:Nat->Nat}
def insK (key:Nat->Nat)(l:List Nat)(h:Nat):List Nat:=l.takeWhile (λg=>decide (key g<key h))++h::l.dropWhile (λg=>decide (key g<key h))
def UJ (key:Nat->Nat)(l:List Nat):List Nat:=l.foldl (insK key) []
theorem WaB (l:List Nat)(h:Nat):(insK key l h).Perm (h::l):=by
 unfold insK;refine List.perm_middle.trans ?_;rw[zGH]
theorem WdA {l:List Nat}{h:Nat}(hs:l.Pairwise (λa b=>key a<key b))(hne:∀g∈l,key g≠key h):(insK key l h).Pairwise (λa b=>key a<key b):=by
 induction l with
 | nil=>simp[insK]
 | cons g l ih=>
  rw[zAY]at hs;unfold insK;by_cases hg:key g<key h
  ·rw[List.takeWhile_cons_of_pos (by simpa using hg),List.dropWhile_cons_of_pos (by simpa using hg),zAF,zAY];refine⟨λb hb=>?_,ih hs.2 λx hx=>hne x (zAS _ hx)⟩;have:=(WaB l h).mem_iff.1 hb;rcases zR.1 this with h1|h1
   ·subst h1;exact hg
   ·exact hs.1 b h1
  ·have hgt:key h<key g:=by have:=hne g (zBA);omega
   rw[zGI (by simpa using hg),List.dropWhile_cons_of_neg (by simpa using hg),zBX,zAY];refine⟨λb hb=>?_,zAY.2 hs⟩;rcases zR.1 hb with h1|h1
   ·subst h1;exact hgt
   ·have:=hs.1 b h1;omega
theorem Wip {s:List Nat}{h j:Nat}(hs:s.Pairwise (λa b=>key a<key b))(hj:j<=s.length)(h1:∀g∈s.drop j,key h<key g)(h2:∀g,j≠0->s[j-1]?=some g->key g<key h):insK key s h=s.take j++h::s.drop j:=by
 have ht:∀g∈s.take j,key g<key h:=by
  intro g hg;obtain⟨i,hi⟩:=zM hg;have hil:=(gSi.1 hi).1;rw[zT]at hil;rw[zX,zB (by omega)]at hi;have hj1:s[j-1]?=some (s[j-1]'(by omega)):=gGe _;have hlast:=h2 _ (by omega) hj1;by_cases hij:i=j-1
  ·subst hij;rw[hj1]at hi;cases hi;exact hlast
  ·have:=zAI.1 hs i (j-1) (by omega) (by omega) (by omega);have hig:s[i]'(by omega)=g:=by
    have:=gGe (l:=s) (i:=i) (by omega);rw[this]at hi;exact Option.some.inj hi
   rw[hig]at this;omega
 have e:insK key (s.take j++s.drop j) h=s.take j++h::s.drop j:=by
  unfold insK;rw[List.takeWhile_append_of_pos (by intro g hg;simpa using ht g hg),List.dropWhile_append_of_pos (by intro g hg;simpa using ht g hg)];cases hd:s.drop j with
  | nil=>simp
  | cons g d=>
   have:=h1 g (by rw[hd];exact zBA);rw[zGI (by simp;omega),List.dropWhile_cons_of_neg (by simp;omega),zAC]
 rw[zBG]at e;exact e
theorem Kt (l:List Nat):(UJ key l).Perm l:=by
 have:∀(m acc:List Nat),(m.foldl (insK key) acc).Perm (m++acc):=by
  intro m
  induction m with
  | nil=>intro acc;exact List.Perm.refl _
  | cons h m ih=>
   intro acc;rw[zAB];refine(ih _).trans ?_;refine((WaB acc h).append_left m).trans ?_;exact List.perm_middle
 have:=this l []
 rwa [zAC]at this
theorem Wby (l:List Nat){i h:Nat}(hh:l[i]?=some h):UJ key (l.take (i+1))=insK key (UJ key (l.take i)) h:=by
 unfold UJ;rw[zAG,hh,zFW,zv];rfl
theorem H8 {l:List Nat}(hn:l.Pairwise (λa b=>key a≠key b)):∀i,(UJ key (l.take i)).Pairwise (λa b=>key a<key b)
 | 0=>by simp[UJ]
 | i+1=>by
  have ih:=H8 hn i;cases hh:l[i]? with
  | none=>
   have:l.take (i+1)=l.take i:=by rw[zAG,hh];simp
   rw[this];exact ih
  | some h=>
   rw[Wby l hh];refine WdA ih λg hg=>?_;have:=(Kt (l.take i)).mem_iff.1 hg;obtain⟨a,ha⟩:=zM this;have hal:=(gSi.1 ha).1;rw[zT]at hal;rw[zX,zB (by omega)]at ha;have hil:=(gSi.1 hh).1;have:=zAI.1 hn a i (by omega) hil (by omega);rw[(gSi.1 ha).2,(gSi.1 hh).2]at this;exact this
theorem WjO (l:List Nat)(i x:Nat):(ints l).set i (.int .i64 (x:Int))=ints (l.set i x):=by simp[ints,zDP]
theorem _root_.Go.Vc.RowR.ixH {s:Sl}{l:List Nat}(h:RowR s 1 (ints l) U Q){i x:Nat}(hx:l[i]?=some x){K:Int->Prop}(hK:K (x:Int)):Ix s.a s.len (i:Int) 1 λa=>LdH (· = U) (.i .i64) a K:=by
 have hi:=(gSi.1 hx).1;obtain⟨b,o,ha,hc⟩:=h.slR.cell (WeY hx);have hl:=h.lenN;rw[ha];refine ix (by omega) (by omega) ?_;refine⟨(x:Int),λm hm=>?_,hK⟩;rw[hm,add_lit,show o+(i:Int).toNat*1=o+i by omega];exact hc
theorem _root_.Go.Vc.RowR.ixSt {s:Sl}{l:List Nat}(h:RowR s 1 (ints l) U Q){i x:Nat}(hi:i<l.length){K:Hp->Prop}(hK:∀σ',Ext Q U σ'->RowR s 1 (ints (l.set i x)) σ' Q->K σ'):Ix s.a s.len (i:Int) 1 λa=>St1 a (.int .i64 (x:Int)) U K:=by
 have hl:=h.lenN;rcases h.2 with⟨h0,_⟩|⟨b,cs,hq,ha,hb,hle,hcl,ht⟩
 ·omega
 rw[ha];refine ix (by omega) (by omega) ?_;refine h.st (j:=i) (by rw[Qy];exact hi) (λb' hb'=>?_) λσ' e hr=>hK σ' e (by rw[←WjO];exact hr);rw[ha]at hb';cases hb';rw[add_lit];congr 1;omega
def CmpN (f:Fv)(key:Nat->Nat)(l:List Nat)(Q:Rg)(U:Hp):Prop:=∀x∈l,∀y∈l,∀(σ':Hp) (R:Int->Hp->Prop),Ext Q U σ'->(∀(d:Int) σ'',Ext0 σ' σ''->(d<0↔key x<key y)->R d σ'') →
 V1 Tryz.prog f [.int .i64 (x:Int),.int .i64 (y:Int)] [.one (.i .i64)] σ' R
theorem WlY (P D:List Nat)(g h:Nat):((P++g::h::D).set (P.length+1) g).set P.length h=P++h::g::D:=by
 rw[zEZ _ _ (by omega),show P.length+1-P.length=1 by omega,zEZ _ _ (zC _),zBS];rfl
set_option maxRecDepth 4000 in
theorem Wdb {s:Sl}{l:List Nat}{f:Fv}(h:RowR s 1 (ints l) U Q)(hl:l.length<=1000)(hn:l.Pairwise (λa b=>key a≠key b))(hc:CmpN f key l Q U){R:Hp->Prop}
 (hR:∀σ',Ext Q U σ'->RowR s 1 (ints (UJ key l)) σ' Q->R σ'):Wr.c s 0 (l.length:Int) f U R:=by
 refine Wr.o ?_;unfold Wr.v;rcases zEF l.length with h0|hpos
 ·have hl0:l=[]:=zFI.1 h0;subst hl0;refine ar (by omega) (by omega) (Zx (a:=.i .i64) (λ(t:Int) v=>t=1/\v=U) (λ_ _=>0) ⟨rfl,rfl⟩ ?_);rintro t v ⟨rfl,rfl⟩;refine ifDF (by simp) (hR v (Ext.refl _ _) h)
 refine arN (m:=1) (by omega) (by omega) (Zx (a:=.i .i64) (λ(t:Int) v=>∃i:Nat,t=(i:Int)/\1<=i/\i<=l.length/\Ext Q U v/\RowR s 1 (ints (UJ key (l.take i)++l.drop i)) v Q) (λt _=>l.length-t.toNat) ⟨1,rfl,zC _,hpos,Ext.refl _ _,?_⟩ ?_)
 ·have:UJ key (l.take 1)=l.take 1:=by
   cases l with
   | nil=>rfl
   | cons x l=>rfl
  rw[this,zBG];exact h
 rintro t v ⟨i,rfl,hi1,hi,e,hr⟩;refine ifD (λhlt=>?_) λhge=>?_
 ·have hi':i<l.length:=by omega
  have hx:l[i]?=some l[i]:=gGe hi';have hdrop:l.drop i=l[i]::l.drop (i+1):=zBY hi';have hxm:=zk hi';rw[hdrop]at hr;generalize l[i]=x at *;have hsl:(UJ key (l.take i)).length=i:=by rw[(Kt _).length_eq,zT];omega
  have hss:=H8 hn i;have hsm:∀g∈UJ key (l.take i),g∈l/\key g≠key x:=by
   intro g hg;have:=(Kt (l.take i)).mem_iff.1 hg;refine⟨zCP this,?_⟩;obtain⟨a,ha⟩:=zM this;have hal:=(gSi.1 ha).1;rw[zT]at hal;rw[zX,zB (by omega)]at ha;have:=zAI.1 hn a i (by omega) hi' (by omega);rw[(gSi.1 ha).2,(gSi.1 hx).2]at this;exact this
  have hst:=Wby (key:=key) l hx;generalize UJ key (l.take i)=S0 at *;refine Zx (a:=.i .i64) (λ(t:Int) w=>∃j:Nat,t=(j:Int)/\j<=i/\Ext Q U w/\RowR s 1 (ints (S0.take j++x::(S0.drop j++l.drop (i+1)))) w Q/\∀g∈S0.drop j,key x<key g) (λt _=>t.toNat)
   ⟨i,rfl,zC _,e,?_,λg hg=>by rw[zGJ (by omega)]at hg;simp at hg⟩ ?_
  ·rw[zAX (by omega),zGJ (by omega),zBX];exact hr
  rintro t w ⟨j,rfl,hj,ew,hrw,hgt⟩;have fin:(∀g,j≠0->S0[j-1]?=some g->key g<key x)->Ar .i64 ((i:Int)+1) λi2=>(∃i':Nat,i2=(i':Int)/\1<=i'/\i'<=l.length/\Ext Q U w/\RowR s 1 (ints (UJ key (l.take i')++l.drop i')) w Q)/\l.length-i2.toNat<l.length-(i:Int).toNat:=by
   intro h2;refine arN (m:=i+1) (by omega) (by omega) ⟨⟨i+1,rfl,by omega,by omega,ew,?_⟩,by omega⟩;rw[hst,Wip hss (by omega) hgt h2,zt,zAF];exact hrw
  refine Jn.intro ⟨(· = w),rfl,ifD (λc1=>?_) λc1=>ifF rfl (fin λg hj0=>by omega)⟩;have hj1:j-1<S0.length:=by omega
  have hg:S0[j-1]?=some S0[j-1]:=gGe hj1;have htk:S0.take j=S0.take (j-1)++[S0[j-1]]:=by
   have:=zAG (l:=S0) (i:=j-1);rw[show j-1+1=j by omega,hg]at this;exact this
  have hdr:S0.drop (j-1)=S0[j-1]::S0.drop j:=by
   have:=zBY (l:=S0) hj1;rw[show j-1+1=j by omega]at this;exact this
  have hgm:=hsm _ (zk hj1);generalize S0[j-1]=g at *;have hcur:S0.take j++x::(S0.drop j++l.drop (i+1))=S0.take (j-1)++g::x::(S0.drop j++l.drop (i+1)):=by rw[htk];simp
  have hPl:(S0.take (j-1)).length=j-1:=by rw[zT];omega
  rw[hcur]at hrw;have hgx:(S0.take (j-1)++g::x::(S0.drop j++l.drop (i+1)))[j]?=some x:=by
   rw[zn (by omega),hPl,show j-(j-1)=1 by omega];rfl
  have hgg:(S0.take (j-1)++g::x::(S0.drop j++l.drop (i+1)))[j-1]?=some g:=by
   rw[zn (by omega),hPl,zBS];rfl
  refine hrw.ixH hgx (arN (m:=j-1) (by omega) (by omega) (hrw.ixH hgg (hc x hxm g hgm.1 w _ ew λd w2 e2 hd=>?_)));have hr2:=(RowR.loc _ _ _).keep0 hrw e2;have ew2:=ew.trans (Ext0.to e2);by_cases hlt2:key x<key g
  ·refine ifT (zI (hd.2 hlt2)) ⟨(· = w2),rfl,arN (m:=j-1) (by omega) (by omega) (arN (m:=j-1) (by omega) (by omega) (hr2.ixH hgg (hr2.ixH hgx ?_)))⟩;refine hr2.ixSt (i:=j) (by simp;omega) λw3 e3 hr3=>hr3.ixSt (i:=j-1) (by simp;omega) λw4 e4 hr4=>?_;have hsw:=WlY (S0.take (j-1)) (S0.drop j++l.drop (i+1)) g x;rw[hPl,show j-1+1=j by omega]at hsw;rw[hsw]at hr4;refine arN (m:=j-1) (by omega) (by omega) ⟨⟨j-1,rfl,by omega,(ew2.trans e3).trans e4,?_,λz hz=>?_⟩,by omega⟩
   ·rw[hdr];exact hr4
   ·rw[hdr]at hz;rcases zR.1 hz with h1|h1
    ·subst h1;exact hlt2
    ·exact hgt z h1
  ·refine ifF (zH λhh=>hlt2 (hd.1 hh)) ?_;have hgk:key g<key x:=by have:=hgm.2;omega
   refine arN (m:=i+1) (by omega) (by omega) ⟨⟨i+1,rfl,by omega,by omega,ew2,?_⟩,by omega⟩;rw[hst,Wip hss (j:=j) (by omega) hgt λz _ hz=>by rw[hg]at hz;cases hz;exact hgk];rw[zt,zAF,hcur];exact hr2
 ·have:i=l.length:=by omega
  subst this;rw[zAT,List.drop_length,zAC]at hr;exact hR v e hr
theorem ar8 {e:Int}{K:Int->Prop}(h0:0<=e)(h1:e<256)(hK:K e):Ar .u8 e K:=by
 have hw:IntKind.u8.wrap e=e:=by
  unfold IntKind.wrap;simp[IntKind.bits,IntKind.signed];omega
 unfold Ar;rw[hw];exact hK
set_option maxRecDepth 100000 in
theorem Wnf {n:Nat}(hn:n<=12){R:Int->Hp->Prop}(hR:∀t,R t U):ZE.c (n:Int) U R:=by
 refine ZE.o ?_;unfold ZE.v;refine Zq.o ?_;unfold Zq.v;refine Jn.intro (ifDF (by omega) (Jn.intro (ifDF (by omega) (Jn.intro (ifDF (by omega) ?_)))));refine ar8 (by omega) (by omega) ?_;have hc:n=0\/n=1\/n=2\/n=3\/n=4\/n=5\/n=6\/n=7\/n=8\/n=9\/n=10\/n=11\/n=12:=by omega
 rcases hc with rfl|rfl|rfl|rfl|rfl|rfl|rfl|rfl|rfl|rfl|rfl|rfl|rfl<;>exact⟨_,by omega,rfl,hR _⟩
theorem Wlw {s:Sl}{l:List Nat}{f:Fv}(h:RowR s 1 (ints l) U Q)(hl:l.length<=12)(hn:l.Pairwise (λa b=>key a≠key b))(hc:CmpN f key l Q U){R:Hp->Prop}
 (hR:∀σ',Ext Q U σ'->RowR s 1 (ints (UJ key l)) σ' Q->R σ'):WO.c s f U R:=by
 refine WO.o ?_;unfold WO.v;have hlen:=h.lenN;rw[hlen];have hw:IntKind.u64.wrap (l.length:Int)=(l.length:Int):=by
  unfold IntKind.wrap;simp[IntKind.bits,IntKind.signed];omega
 unfold Ar;rw[hw];refine Wnf hl λt=>WP.of_vc2 ?_;unfold WP.vc2;refine Woh (a:=.i .i64) (bb:=.i .i64) (c:=.i .i64) (d:=.b) (e:=.b) (λ(x:Int) (y:Int) _ _ _ v=>x=0/\y=(l.length:Int)/\v=U) (λ_ _ _ _ _ _=>0) ⟨rfl,rfl,rfl⟩ ?_;rintro x y z u w v ⟨rfl,rfl,rfl⟩;refine ar (by omega) (by omega) (ifDT (by omega) ?_);exact Wdb h (by omega) hn hc hR
end Go.Ar
namespace Go.Ar
open Go Go.Vc Go.Proofs
variable {U:Hp}{F:Rg}{p q:Nat}{st:List Nat}
def keyT (st:List Nat)(h:Nat):Nat:=KG st h*100000+used st h*1000+(999-h)
def Vw (st:List Nat):List Nat:=(List.range (st.length/16)).filter λh=>0<cntR st (16*h) (16*h+16) 2
theorem HR (st:List Nat)(h:Nat):used st h<=16:=by
 unfold used cntR;refine zN zEY ?_;rw[zT];omega
theorem GO (st:List Nat)(h:Nat):KG st h<=2:=by
 unfold KG;split
 ·omega
 ·split<;>omega
theorem Wid {g h:Nat}(hg:g<=64)(hh:h<=64):bef st g h=decide (keyT st g<keyT st h):=by
 have h1:=HR st g;have h2:=HR st h;have h3:=GO st g;have h4:=GO st h;unfold bef keyT;rw[zBF];simp only[zAR,zF,zP,zY];omega
theorem Us {α:Type}{P Q:α->Bool}:∀{l:List α},(∀x∈l,P x=Q x)->l.takeWhile P=l.takeWhile Q
 | [],_=>rfl
 | x::l,h=>by
  rw[zEJ,zEJ,h x zBA,Us λy hy=>h y (zAS _ hy)]
theorem Ut {α:Type}{P Q:α->Bool}:∀{l:List α},(∀x∈l,P x=Q x)->l.dropWhile P=l.dropWhile Q
 | [],_=>rfl
 | x::l,h=>by
  rw[zGC,zGC,h x zBA,Ut λy hy=>h y (zAS _ hy)]
theorem VQ (hl:st.length<=1024):∀h∈Vw st,16*h+16<=st.length/\h<=64:=by
 intro h hh;unfold Vw at hh;have:=(zG.1 hh).1;rw[zb]at this;omega
theorem Uc (hl:st.length<=1024):ordT st=UJ (keyT st) (Vw st):=by
 have key:∀(l acc:List Nat),(∀x∈l,x<=64)->(∀x∈acc,x<=64)->l.foldl (insH st) acc=l.foldl (insK (keyT st)) acc:=by
  intro l
  induction l with
  | nil=>intro acc _ _;rfl
  | cons h l ih=>
   intro acc h1 h2;have hh:=h1 h zBA;have e:insH st acc h=insK (keyT st) acc h:=by
    unfold insH insK;rw[Us λg hg=>Wid (h2 g hg) hh,Ut λg hg=>Wid (h2 g hg) hh]
   rw[zAB,zAB,e];refine ih _ (λx hx=>h1 x (zAS _ hx)) λx hx=>?_;rcases zR.1 ((WaB acc h).mem_iff.1 hx)with h3|h3
   ·rw[h3];exact hh
   ·exact h2 x h3
 exact key _ [] (λx hx=>(VQ hl x hx).2) (by simp)
theorem Weq (hl:st.length<=1024):(Vw st).Pairwise λa b=>keyT st a≠keyT st b:=by
 have hn:(Vw st).Pairwise (· ≠ ·):=List.Pairwise.sublist zCK List.nodup_range;refine List.Pairwise.imp_of_mem (λ{a b} ha hb hne=>?_) hn;have h1:=(VQ hl a ha).2;have h2:=(VQ hl b hb).2;have:=HR st a;have:=HR st b;unfold keyT;omega
theorem Wim:∀{n m p:Nat},n<=m->(∀j,j<n->st[p+j]?=some 2)->(n=m\/st[p+n]?≠some 2)->runL st p m=n
 | 0,m,p,_,_,he=>by
  unfold runL;rcases he with h|h
  ·rw[←h];simp
  ·cases m with
   | zero=>simp
   | succ m=>
    cases hd:st[p]? with
    | none=>
     have:=List.getElem?_eq_none_iff.1 hd;rw[zGJ this];simp
    | some x=>
     have hl:=(gSi.1 hd).1;rw[zBY hl,zCR,zGI]
     ·rfl
     ·have hx:=(gSi.1 hd).2;rw[hx];intro h2;rw[zo,hd]at h;exact h (by simpa using h2)
 | n+1,m,p,hm,ha,he=>by
  have h0:=ha 0 (by omega);rw[zo]at h0;have hl:=(gSi.1 h0).1;have hx:=(gSi.1 h0).2;have ih:=Wim (n:=n) (m:=m-1) (p:=p+1) (by omega) (λj hj=>by rw[show p+1+j=p+(j+1) by omega];exact ha _ (by omega)) (by
   rcases he with h|h
   ·left;omega
   ·right;rw[show p+1+n=p+(n+1) by omega];exact h)
  unfold runL at *;obtain⟨k,rfl⟩:∃k,m=k+1:=⟨m-1,by omega⟩;rw[zBY hl,zCR,List.takeWhile_cons_of_pos (by rw[hx];rfl),zV];rw[zFJ]at ih;rw[ih]
theorem Wa5 (e:Nat):∀(f f' x:Nat),e-x<f->e-x<f'->QV st e f x=QV st e f' x:=by
 intro f
 induction f with
 | zero=>intro f' x h;omega
 | succ f ih=>
  intro f' x h1 h2;obtain⟨g,rfl⟩:∃g,f'=g+1:=⟨f'-1,by omega⟩;unfold QV;by_cases hc:e<=x
  ·rw[zB hc,zB hc]
  ·rw[zA hc,zA hc];split
   ·exact ih g _ (by omega) (by omega)
   ·rw[ih g (x+runL st x (e-x)+1) (by omega) (by omega)]
theorem Wie {want:Int}{x:Nat}(h:want<=(x:Int)):∀l,cutW want x l=[]
 | []=>rfl
 | r::l=>by unfold cutW;rw[zB h]
theorem Wmm {want:Int}{x:Nat}(h:¬want<=(x:Int))(r:Nat×Nat)(l:List (Nat×Nat)):cutW want x (r::l)=r::cutW want (x+r.2) l:=by
 show(if want<=(x:Int)then[]else r::cutW want (x+r.2) l)=_
 rw[zA h]
theorem WfQ {e x f:Nat}(hx:x<e)(hf:e-x<f):QV st e f x=if runL st x (e-x)=0 then QV st e f (x+1)else(x,runL st x (e-x))::QV st e f (x+runL st x (e-x)+1):=by
 obtain⟨g,rfl⟩:∃g,f=g+1:=⟨f-1,by omega⟩;rw[QV,zA (by omega)];split
 ·exact Wa5 e _ _ _ (by omega) (by omega)
 ·rw[Wa5 e g (g+1) _ (by omega) (by omega)]
theorem Wg2 {e x f:Nat}(hx:e<=x):QV st e f x=[]:=by
 cases f with
 | zero=>rfl
 | succ f=>rw[QV,zB hx]
theorem Wj2 (h:TrH U p q st){n2:Nat}(hb:Blk U n2 [.pointer (some ⟨p,0,none⟩)]){Q:Rg}(hq:¬Q p/\¬Q q/\¬Q n2)(hl:st.length<=1024){l:List Nat}(hm:∀x∈l,16*x+16<=st.length) :
 CmpN ⟨186,#[],#[.pointer (some ⟨n2,0,none⟩)]⟩ (keyT st) l Q U:=by
 intro x hx y hy σ' R e hR;refine Gq (all := #[.int .i64 (x:Int),.int .i64 (y:Int),.pointer (some ⟨n2,0,none⟩)]) (by kernel_rfl) (by simp) ?_;show XD.c (x:Int) (y:Int) ⟨n2,0,none⟩ σ' R;refine XD.o ?_;unfold XD.v;have h':=h.keep e hq.1 hq.2.1;have hb':=e.blk hb hq.2.2;have hxl:=hm x hx;have hyl:=hm y hy;have h1:=HR st x;have h2:=HR st y;have h3:=GO st x;have h4:=GO st y;refine⟨(· = σ'),rfl,⟨_,λm hm=>by rw[hm,hb'.cell];rfl,⟨_,λm hm=>by rw[hm,hb'.cell];rfl,?_⟩⟩⟩;refine Wgh h' hxl λc1=>⟨rfl,Wgh h' hyl λc2=>⟨rfl,WdL h' hxl (WdL h' hyl (ar (by omega) (by omega) ?_))⟩⟩;refine iff_ (λhc=>?_) λhc=>?_
 ·have hne:((KG st x:Nat):Int)-((KG st y:Nat):Int)≠0:=by simpa using hc
  refine hR _ σ' (Ext.refl _ _) ?_;unfold keyT;omega
 ·have heq:((KG st x:Nat):Int)-((KG st y:Nat):Int)=0:=by simpa using hc
  refine h'.cnt (v:=1) hxl (h'.cnt (v:=1) hyl ?_);have hu1:cntR st (16*x) (16*x+16) 1=used st x:=rfl;have hu2:cntR st (16*y) (16*y+16) 1=used st y:=rfl;rw[hu1,hu2];refine ar (by omega) (by omega) (iff_ (λhc2=>?_) λhc2=>?_)
  ·have hne:((used st x:Nat):Int)-((used st y:Nat):Int)≠0:=by simpa using hc2
   refine hR _ σ' (Ext.refl _ _) ?_;unfold keyT;omega
  ·have heq2:((used st x:Nat):Int)-((used st y:Nat):Int)=0:=by simpa using hc2
   refine ar (by omega) (by omega) (hR _ σ' (Ext.refl _ _) ?_);unfold keyT;omega
theorem Wlo (l:List (Nat×Nat))(r:Nat×Nat):rV (l++[r])=rV l++[.int .i64 (r.1:Int),.int .i64 (r.2:Int)]:=by simp[rV]
theorem VG (n:Nat)(P:Nat->Bool):(List.range (n+1)).filter P=(List.range n).filter P++(if P n then[n]else[]):=by
 rw[zr,zFA]
 congr 1
 cases h:P n<;>simp[h]
set_option maxRecDepth 4000 in
theorem Wl9 (h:TrH U p q st)(want:Int)(h12:(Vw st).length<=12){R:Sl->Int->Hp->Prop}(h0:want<0->∀σ',Ext0 U σ'->R ⟨none,0,0⟩ 1 σ')
 (h1:¬want<0->∀s σ',Ext0 U σ'->RowR s 2 (rV (Ha st want)) σ' (λb=>U.size<=b)->R s 0 σ'):Yn.c (some ⟨p,0,none⟩) want U R:=by
 refine Yn.o ?_;unfold Yn.v;have n2:=h.n2;refine nw (cs:=[.pointer (some ⟨p,0,none⟩)]) λu hz e hb=>hb.rP0 rfl (U6 (h.keep0 e) (ifF rfl (ifD (λhw=>h0 hw u e) λhw=>?_)));have hu:=h.keep0 e;refine hb.rP0 rfl (Wgz hu ?_);refine VO (a:=.s) (bb:=.i .i64) (λ(order:Sl) (t:Int) v=>∃k:Nat,t=(k:Int)/\k<=st.length/16/\Ext0 u v/\RowR order 1 (ints ((List.range k).filter λh=>0<cntR st (16*h) (16*h+16) 2)) v (λb=>u.size<=b)) (λ_ t _=>st.length/16-t.toNat)
  ⟨0,rfl,by omega,Ext.refl _ _,RowR.nil _ _ _ _⟩ ?_
 rintro order t v ⟨k,rfl,hk,ev,hrow⟩;have hv:=hu.keep0 ev;have hbv:=ev.blk hb id;refine ifD (λhlt=>?_) λhge=>?_
 ·have hk':16*k+16<=st.length:=by omega
  have hlen:=hrow.lenN;have hfl:((List.range k).filter λh=>0<cntR st (16*h) (16*h+16) 2).length<=k:=zN (zAZ _ _) (by rw[zCH];omega);refine hbv.rP0 rfl (Wgh hv hk' λc=>hv.cnt (v:=2) hk' (ifD (λhc=>?_) λhc=>?_))
  ·have hpos:0<cntR st (16*k) (16*k+16) 2:=by omega
   refine hrow.push (vs:=[.int .i64 (k:Int)]) (λb hb=>zN ev.1 hb) rfl rfl (by simp[one1]) (by omega) (by omega) λs' v' hl' e' hr'=>?_;refine arN (m:=k+1) (by omega) (by omega) ⟨⟨k+1,rfl,by omega,Ext.fresh ev e' λi hi=>hi,?_⟩,by omega⟩;rw[VG,zB (by simpa using hpos),KU];exact hr'
  ·refine arN (m:=k+1) (by omega) (by omega) ⟨⟨k+1,rfl,by omega,ev,?_⟩,by omega⟩;rw[VG,zA (by simp;omega),zAC];exact hrow
 have hkk:k=st.length/16:=by omega
 subst hkk;have hplt:=h.lt;have hcmp:=Wj2 hv hbv (Q:=λb=>u.size<=b) ⟨by omega,by omega,by omega⟩ n2 (l:=Vw st) λx hx=>(VQ n2 x hx).1;refine Wlw hrow h12 (Weq n2) hcmp λw ew hrw=>?_;have hrw:RowR order 1 (ints (UJ (keyT st) (Vw st))) w (λb=>u.size<=b):=hrw;rw[←Uc n2]at hrw;have e0w:Ext0 u w:=Ext.fresh ev ew λi hi=>hi;have hT:=hu.keep0 e0w;have hbw:=e0w.blk hb id;have hol:=hrw.lenN;have hmem:∀x∈ordT st,16*x+16<=st.length:=λx hx=>by
  rw[Uc n2]at hx;exact(VQ n2 x ((Kt _).mem_iff.1 hx)).1
 have hlen12:(ordT st).length<=12:=by rw[Uc n2,(Kt _).length_eq];exact h12
 have hslo:=(SlR.loc _ _ _).cut hrw.slR;refine Wn5 (a:=.s) (bb:=.i .i64) (c:=.i .i64) (λ(out:Sl) (planned:Int) (t:Int) v=>∃(k:Nat) (D:List (Nat×Nat)) (m:Nat),t=(k:Int)/\k<=(ordT st).length/\planned=(m:Int)/\m<=16*k/\D.length<=16*k/\Ext0 w v/\RowR out 2 (rV D) v (λb=>w.size<=b)/\D++cutW want m (((ordT st).drop k).flatMap (KJ st))=Ha st want) (λ_ _ t _=>(ordT st).length-t.toNat)
  ⟨0,[],0,rfl,by omega,rfl,by omega,by simp,Ext.refl _ _,RowR.nil _ _ _ _,by simp[Ha]⟩ ?_
 rintro out planned t v ⟨k,D,m,rfl,hk,rfl,hm,hD,ev2,hro,hpl⟩;have hTv:=hT.keep0 ev2;have hbv2:=ev2.blk hbw id;refine ifD (λhlt=>?_) λhge=>?_
 ·have hk':k<(ordT st).length:=by omega
  have hx:(ordT st)[k]?=some (ordT st)[k]:=gGe hk';have hxm:=hmem _ (zk hk');have hdr:(ordT st).drop k=(ordT st)[k]::(ordT st).drop (k+1):=zBY hk';rw[hdr,zBR]at hpl;generalize (ordT st)[k]=x at *;have hsl2:=(SlR.loc _ _ _).keep0 hslo ev2;refine hsl2.ixN hx ?_;refine Wn5 (a:=.s) (bb:=.i .i64) (c:=.i .i64) (λ(out:Sl) (planned:Int) (t:Int) z=>∃(i:Nat) (D:List (Nat×Nat)) (m:Nat),t=(i:Int)/\i<=17/\planned=(m:Int)/\m<=16*k+i/\m<=16*k+16/\D.length<=16*k+i/\D.length<=16*k+16/\Ext0 w z/\RowR out 2 (rV D) z (λb=>w.size<=b)/\D++cutW want m (QV st (16*x+16) 17 (16*x+i)++((ordT st).drop (k+1)).flatMap (KJ st))=Ha st want) (λ_ _ t _=>20-t.toNat)
   ⟨0,D,m,rfl,by omega,rfl,by omega,by omega,by omega,by omega,ev2,hro,by simpa[KJ]using hpl⟩ ?_
  rintro out2 planned2 t2 z ⟨i,D2,m2,rfl,hi,rfl,hm1,hm2,hD1,hD2,ez,hrz,hpz⟩;have hTz:=hT.keep0 ez;have hbz:=ez.blk hbw id;have hlz:out2.len=D2.length:=by have:=hrz.1;rw[WeE]at this;omega
  refine ifD (λhlt3=>?_) λhge3=>?_
  ·have hi':i<16:=by omega
   refine ifD (λhdone=>?_) λhgo=>?_
   ·rw[Wie (by omega),zAC]at hpz;rw[hpz]at hrz;exact h1 hw out2 z ((Ext.trans e e0w).trans ez) ((RowR.loc _ _ _).mono hrz λb _ hb=>by have:=(Ext.trans e e0w).1;omega)
   ·refine Zx (a:=.i .i64) (λ(t:Int) y=>y=z/\∃n:Nat,t=(n:Int)/\i+n<=16/\∀j,j<n->st[16*x+i+j]?=some 2) (λt _=>20-t.toNat) ⟨rfl,0,rfl,by omega,λj hj=>by omega⟩ ?_;rintro t3 y ⟨rfl,n,rfl,hn,hall⟩;have stop:(i+n=16\/st[16*x+i+n]?≠some 2)->If (decide ((n:Int)>0)) (Ar .i64 ((x:Int)*16) λt73=>Ar .i64 (t73+(i:Int)) λt75=>Nw (.cells #[.int .i64 t75,.int .i64 (n:Int)] 212 (0,0)) y λn78 v13=>
     App out2 2 16 212 [.int .i64 0,.int .i64 0] ⟨some n78,1,1⟩ v13 λout2' v14=>Ar .i64 ((m2:Int)+(n:Int)) λplanned2=>Ar .i64 ((i:Int)+(n:Int)) λi1=>Ar .i64 (i1+1) λi2=>
     (∃(i:Nat) (D:List (Nat×Nat)) (m:Nat),i2=(i:Int)/\i<=17/\planned2=(m:Int)/\m<=16*k+i/\m<=16*k+16/\D.length<=16*k+i/\D.length<=16*k+16/\Ext0 w v14/\RowR out2' 2 (rV D) v14 (λb=>w.size<=b)/\D++cutW want m (QV st (16*x+16) 17 (16*x+i)++((ordT st).drop (k+1)).flatMap (KJ st))=Ha st want)/\20-i2.toNat<20-(i:Int).toNat)
     (Ar .i64 ((i:Int)+1) λi3=>(∃(i:Nat) (D:List (Nat×Nat)) (m:Nat),i3=(i:Int)/\i<=17/\(m2:Int)=(m:Int)/\m<=16*k+i/\m<=16*k+16/\D.length<=16*k+i/\D.length<=16*k+16/\Ext0 w y/\RowR out2 2 (rV D) y (λb=>w.size<=b)/\D++cutW want m (QV st (16*x+16) 17 (16*x+i)++((ordT st).drop (k+1)).flatMap (KJ st))=Ha st want)/\20-i3.toNat<20-(i:Int).toNat):=by
     intro hst;have hrl:runL st (16*x+i) (16*x+16-(16*x+i))=n:=Wim (by omega) hall (by
      rcases hst with h|h
      ·left;omega
      ·right;exact h)
     rw[WfQ (by omega) (by omega),hrl]at hpz;refine ifD (λhpos=>?_) λhz0=>?_
     ·rw[zA (by omega),zAF,Wmm (by omega)]at hpz;refine arN (m:=x*16) (by omega) (by omega) (arN (m:=16*x+i) (by omega) (by omega) ?_);refine hrz.push (vs:=[.int .i64 ((16*x+i:Nat):Int),.int .i64 (n:Int)]) (λb hb=>zN ez.1 hb) rfl rfl (by simp[one1]) (by omega) (by omega) λs' v' hl' e' hr'=>?_;refine arN (m:=m2+n) (by omega) (by omega) (arN (m:=i+n) (by omega) (by omega) (arN (m:=i+n+1) (by omega) (by omega) ⟨⟨i+n+1,D2++[(16*x+i,n)],m2+n,rfl,by omega,rfl,by omega,by omega,by simp;omega,?_,Ext.fresh ez e' λi hi=>hi,?_,?_⟩,by omega⟩))
      ·simp;have:D2.length<16*k+16:=by omega
       omega
      ·rw[Wlo];exact hr'
      ·rw[←hpz,zt,show 16*x+(i+n+1)=16*x+i+n+1 by omega];rfl
     ·rw[zB (by omega)]at hpz;exact arN (m:=i+1) (by omega) (by omega) ⟨⟨i+1,D2,m2,rfl,by omega,rfl,by omega,by omega,by omega,by omega,ez,hrz,hpz⟩,by omega⟩
    refine arN (m:=i+n) (by omega) (by omega) (JnB.intro (ifD (λhc4=>?_) λhc4=>ifF rfl (stop (.inl (by omega)))));refine hbz.rP0 rfl (Wgh hTz hxm λc=>arN (m:=i+n) (by omega) (by omega) ?_);have hidx:16*x+i+n<st.length:=by omega
    have hsx:st[16*x+i+n]?=some st[16*x+i+n]:=gGe hidx;have hpart:=hTz.part (s:=⟨some ⟨q,16*x,none⟩,16,c⟩) (n:=16) rfl rfl hxm;refine hpart.ixN (i:=i+n) (x:=st[16*x+i+n]) ?_ ?_
    ·rw[zX,zB (by omega),zj,show 16*x+(i+n)=16*x+i+n by omega];exact hsx
    have e2:(((st[16*x+i+n]:Nat):Int)==2)=(st[16*x+i+n]==2):=beqN _ 2;rw[e2];refine iff_ (λhc5=>?_) λhc5=>?_
    ·have h2:st[16*x+i+n]=2:=by simpa using hc5
     refine arN (m:=n+1) (by omega) (by omega) ⟨⟨rfl,n+1,rfl,by omega,λj hj=>?_⟩,by omega⟩;by_cases hjn:j=n
     ·subst hjn;rw[hsx,h2]
     ·exact hall j (by omega)
    ·have h2:st[16*x+i+n]≠2:=by simpa using hc5
     refine stop (.inr ?_);rw[hsx];intro e5;exact h2 (Option.some.inj e5)
  ·rw[Wg2 (by omega),zBX]at hpz;exact arN (m:=k+1) (by omega) (by omega) ⟨⟨k+1,D2,m2,rfl,by omega,rfl,by omega,by omega,ez,hrz,hpz⟩,by omega⟩
 ·have:k=(ordT st).length:=by omega
  subst this;rw[List.drop_length,List.flatMap_nil]at hpl;have:cutW want m []=[]:=rfl;rw[this,zAC]at hpl;rw[hpl]at hro;exact h1 hw out v ((Ext.trans e e0w).trans ev2) ((RowR.loc _ _ _).mono hro λb _ hb=>by have:=(Ext.trans e e0w).1;omega)
end Go.Ar
namespace Go.Ar
open Go Go.Vc Go.Proofs
open Go.Bu (Y3 QL Zf)
variable {U:Hp}{F H:Rg}{p hs:Nat}{A:AR}{sp:Sp}{Y:Lay}{T:Nat->Hp->Rg->Prop}
theorem WeH {want:Int}:∀(x:Nat) (l:List (Nat×Nat)),(cutW want x l).length<=l.length/\∀r∈cutW want x l,r∈l
 | _,[]=>⟨zC _,λr h=>h⟩
 | x,r::l=>by
  have ih:=WeH (want:=want) (x+r.2) l;show(if want<=(x:Int)then[]else r::cutW want (x+r.2) l).length<=_/\∀q∈(if want<=(x:Int)then[]else r::cutW want (x+r.2) l),_
  split
  ·exact⟨Nat.zero_le _,λq h=>by simp at h⟩
  ·refine⟨by simp only[zV];omega,λq hq=>?_⟩;rcases zR.1 hq with h|h
   ·subst h;exact zBA
   ·exact zAS _ (ih.2 q h)
theorem VU {st:List Nat}{e:Nat}:∀(f x:Nat),(QV st e f x).length<=f/\∀r∈QV st e f x,r.1+r.2<=e
 | 0,x=>⟨zC _,λr h=>by simp[QV]at h⟩
 | f+1,x=>by
  have h1:=VU (st:=st) (e:=e) f (x+1);have h2:=VU (st:=st) (e:=e) f (x+runL st x (e-x)+1);have hrl:runL st x (e-x)<=e-x:=by
   unfold runL;refine zN (List.takeWhile_sublist _).length_le ?_;rw[zT];omega
  unfold QV;split
  ·exact⟨Nat.zero_le _,λr h=>by simp at h⟩
  ·split
   ·exact⟨by have:=h1.1;omega,h1.2⟩
   ·refine⟨by simp only[zV];have:=h2.1;omega,λr hr=>?_⟩;rcases zR.1 hr with h|h
    ·subst h;simp only;omega
    ·exact h2.2 r h
theorem WdQ {st:List Nat}(hl:st.length<=1024)(want:Int):(Ha st want).length<=2000/\∀r∈Ha st want,r.1+r.2<=st.length:=by
 have hp:∀x∈ordT st,16*x+16<=st.length:=λx hx=>by
  rw[Uc hl]at hx;exact(VQ hl x ((Kt _).mem_iff.1 hx)).1
 have hlo:(ordT st).length<=64:=by
  rw[Uc hl,(Kt _).length_eq];refine zN (zAZ _ _) ?_;rw[zCH];omega
 have hfl:∀l:List Nat,(l.flatMap (KJ st)).length<=17*l.length:=by
  intro l
  induction l with
  | nil=>simp
  | cons x l ih=>
   rw[zBR,zQ,zV];have:=(VU (st:=st) (e:=16*x+16) 17 (16*x)).1;have e:KJ st x=QV st (16*x+16) 17 (16*x):=rfl;rw[e];omega
 have hc:=WeH (want:=want) 0 ((ordT st).flatMap (KJ st));refine⟨?_,λr hr=>?_⟩
 ·have:=hfl (ordT st);have:=hc.1;unfold Ha;omega
 ·have:=hc.2 r hr;rw[zDB]at this;obtain⟨x,hx,hr2⟩:=this;have h1:=(VU (st:=st) (e:=16*x+16) 17 (16*x)).2 r hr2;have h2:=hp x hx;omega
def relE (want:Int):Int:=if want<0 then 1 else 0
theorem Wep (h:W2 U F H Y A T sp)(want:Int)(h12:(Vw (YB A).st).length<=12){R:Int->Int->Hp->Prop}(hR:∀σ' F' H',Fits U F H F' H'->Ext (Both F H) U σ'->W2 σ' F' H' Y (relS A sp want).1 T (relS A sp want).2->R ((relV A want:Nat):Int) (relE want) σ') :
 Xl.c (some ⟨Y.p,0,none⟩) want U R:=by
 refine Xl.o ?_;unfold Xl.v;refine Vv h.a (ifF rfl (ifD (λhw=>?_) λhw=>nilP (h.a.hd.rS rfl (Wi2 h.a rfl λv e hA=>?_))))
 ·have e1:relS A sp want=(A,sp):=by unfold relS;rw[zB hw]
  have e2:relV A want=0:=by unfold relV;rw[zB hw]
  have e3:relE want=1:=by unfold relE;rw[zB hw]
  have:=hR U F H Fits.refl (Ext.refl _ _) (by rw[e1];exact h);rw[e2,e3]at this;exact this
 have e1:relS A sp want=(Ha (YB A).st want).foldl rel1 (YB A,sp):=by unfold relS;rw[zA hw];rfl
 have e2:relV A want=((Ha (YB A).st want).map (·.2)).sum:=by unfold relV;rw[zA hw];rfl
 have e3:relE want=0:=by unfold relE;rw[zA hw]
 rw[e1,e2,e3]at hR;have hW:=h.arenaG e hA;have hstl:(YB A).st.length<=1024:=by have:=hA.lay.st;have:=hA.lay.n2;omega
 obtain⟨_,_,q,hT,_⟩:=hW.a.trk;refine nilP (hW.a.hd.rP rfl (Wl9 hT want h12 (λhlt=>absurd hlt hw) λ_ s v1 ev1 hrow=>?_));have hb:=WdQ hstl want;generalize Ha (YB A).st want=P at *;have hlen:s.len=P.length:=by have:=hrow.1;rw[WeE]at this;omega
 have hW1:=hW.cut.keep0 ev1;refine ifF rfl (nilP (hW1.a.hd.rP rfl (nilP (hW1.rSp ?_))));refine nw (cs:=[.func (.func 131) #[.pointer (some ⟨Y.tr,0,none⟩)] #[],.func (.func 132) #[.pointer (some ⟨Y.hs,0,none⟩)] #[]]) λv2 hz2 ev2 hb2=>?_;have hW2:=hW1.keep0 ev2;have esz1:=ev1.1;have es:∀{a b:Hp},Ext (Cut (Cut H U) v) a b->Ext (Both F H) a b:=λe=>e.sub λb hb=>.inr hb.1.1;have ea:∀{a b:Hp},Ext (Cut (Grow F U) v) a b->Ext (Both (Grow F U) H) a b:=λe=>e.sub λb hb=>.inl hb.1;have es':∀{a b:Hp},Ext (Cut (Cut H U) v) a b->Ext (Both (Grow F U) H) a b:=λe=>e.sub λb hb=>.inr hb.1.1;have nF:∀b,v.size<=b->¬Cut (Grow F U) v b:=λb hb hc=>by have:=hc.2;omega
 have nH:∀b,v.size<=b->¬Cut (Cut H U) v b:=λb hb hc=>by have:=hc.2;omega
 have hs2:SlR s 2 (rV P) v2 (λb=>v.size<=b):=(SlR.loc _ _ _).keep0 hrow.slR ev2;refine VO (a:=.i .i64) (bb:=.i .i64) (λ(rel:Int) (t:Int) w=>∃i:Nat,t=(i:Int)/\i<=P.length/\rel=(((P.take i).map (·.2)).sum:Nat)/\((P.take i).map (·.2)).sum<=1024*i/\Ext (Both (Grow F U) H) v w/\W2 w (Cut (Grow F U) v) (Cut (Cut H U) v) Y ((P.take i).foldl rel1 (YB A,sp)).1 T ((P.take i).foldl rel1 (YB A,sp)).2/\SlR s 2 (rV P) w (λb=>v.size<=b)/\Blk w v1.size [.func (.func 131) #[.pointer (some ⟨Y.tr,0,none⟩)] #[],.func (.func 132) #[.pointer (some ⟨Y.hs,0,none⟩)] #[]]) (λ_ t _=>P.length-t.toNat)
  ⟨0,rfl,by omega,rfl,by simp,(Ext0.to ev1).trans0 ev2,hW2,hs2,hb2⟩ ?_
 rintro rel t w ⟨i,rfl,hi,rfl,hsum,ew,hWw,hsw,hbw⟩;refine ifD (λhlt=>?_) λhge=>?_
 ·have hi':i<P.length:=by omega
  have hx:P[i]?=some P[i]:=gGe hi';have htk:P.take (i+1)=P.take i++[P[i]]:=by rw[zAG,hx];rfl
  have hbr:=hb.2 _ (zk hi');generalize P[i]=r at *;refine Wno hsw hx ?_;refine nw (cs:=[.int .i64 0,.int .i64 0]) λv4 hz4 e4 hb4=>hb4.s1 (by simp) λv5 o5 b5=>b5.s1 (by simp) λv6 o6 b6=>?_;have e46:Ext0 w v6:=Ext.fresh (Ext.fresh e4 o5.ext λi hi=>by omega) o6.ext λi hi=>by omega
  have b6':Blk v6 w.size [.int .i64 (r.1:Int),.int .i64 (r.2:Int)]:=b6;have hW6:=hWw.keep0 e46;have hbw6:=e46.blk hbw id;have hsw6:=(SlR.loc _ _ _).keep0 hsw e46;have hwz:v.size<=w.size:=ew.1;have hv1z:v.size<=v1.size:=ev1.1;refine Zx (a:=.i .i64) (λ(t:Int) z=>∃j:Nat,t=(j:Int)/\j<=2/\Ext (Both (Grow F U) H) v z/\W2 z (Cut (Grow F U) v) (Cut (Cut H U) v) Y (if j=0 then((P.take i).foldl rel1 (YB A,sp)).1 else(rel1 ((P.take i).foldl rel1 (YB A,sp)) r).1) T (if j<=1 then((P.take i).foldl rel1 (YB A,sp)).2 else(rel1 ((P.take i).foldl rel1 (YB A,sp)) r).2)/\SlR s 2 (rV P) z (λb=>v.size<=b)/\Blk z v1.size [.func (.func 131) #[.pointer (some ⟨Y.tr,0,none⟩)] #[],.func (.func 132) #[.pointer (some ⟨Y.hs,0,none⟩)] #[]]/\Blk z w.size [.int .i64 (r.1:Int),.int .i64 (r.2:Int)]) (λt _=>2-t.toNat)
   ⟨0,rfl,by omega,ew.trans0 e46,hW6,hsw6,hbw6,b6'⟩ ?_
  rintro t z ⟨j,rfl,hj,ez,hWz,hsz,hbz,bz⟩;refine ifD (λhlt2=>?_) λhge2=>?_
  ·have hj2:j=0\/j=1:=by omega
   rcases hj2 with rfl|rfl
   ·refine ix (by omega) (by omega) ?_;refine⟨⟨131,#[.pointer (some ⟨Y.tr,0,none⟩)],#[]⟩,by rw[add_lit,hbz.cell];rfl,bz.rI rfl (bz.rI rfl ?_)⟩;refine Gq (all := #[.pointer (some ⟨Y.tr,0,none⟩),.int .i64 (r.1:Int),.int .i64 (r.2:Int)]) (by kernel_rfl) (by simp) ?_;rw[zB rfl,zB (by omega)]at hWz;show W5.c (some ⟨Y.tr,0,none⟩) (r.1:Int) (r.2:Int) z _;refine hWz.a.Rel _ _ λz2 t2 e5 hA5=>?_;refine arN (m:=1) (by omega) (by omega) ⟨⟨1,rfl,by omega,ez.trans (ea e5),?_,(SlR.loc _ _ _).keep hsz e5 λb _ hb=>nF b hb,e5.blk hbz (nF _ hv1z),e5.blk bz (nF _ hwz)⟩,by omega⟩;rw[zA (by omega),zB (by omega)];exact hWz.arena e5 hA5
   ·refine ix (by omega) (by omega) ?_;refine⟨⟨132,#[.pointer (some ⟨Y.hs,0,none⟩)],#[]⟩,by rw[add_lit,hbz.cell];rfl,bz.rI rfl (bz.rI rfl ?_)⟩;refine Gq (all := #[.pointer (some ⟨Y.hs,0,none⟩),.int .i64 (r.1:Int),.int .i64 (r.2:Int)]) (by kernel_rfl) (by simp) ?_;rw[zA (by omega),zB (by omega)]at hWz;show XA.c (some ⟨Y.hs,0,none⟩) (r.1:Int) (r.2:Int) z _;refine Wf7 hWz.s hWz.g hWz.o2 _ _ λz2 e5 hS5=>?_;refine arN (m:=2) (by omega) (by omega) ⟨⟨2,rfl,by omega,ez.trans (es' e5),?_,(SlR.loc _ _ _).keep hsz e5 λb _ hb=>nH b hb,e5.blk hbz (nH _ hv1z),e5.blk bz (nH _ hwz)⟩,by omega⟩;rw[zA (by omega),zA (by omega)];exact hWz.space e5 hS5
  ·have hjj:j=2:=by omega
   subst hjj;rw[zA (by omega),zA (by omega)]at hWz;have hsum':((P.take (i+1)).map (·.2)).sum=((P.take i).map (·.2)).sum+r.2:=by rw[htk];simp
   refine bz.rI rfl (arN (m:=((P.take i).map (·.2)).sum+r.2) (by omega) (by omega) (arN (m:=i+1) (by omega) (by omega) ⟨⟨i+1,rfl,by omega,by rw[hsum'],by rw[hsum'];omega,ez,?_,hsz,hbz⟩,by omega⟩));rw[htk,zv];exact hWz
 ·have:i=P.length:=by omega
  subst this;rw[zAT]at hWw ⊢;refine hR w (Cut (Grow F U) v) (Cut (Cut H U) v) ⟨λb hb=>hb.1,λb hb=>hb.1.1⟩ ((e.sub λb hb=>.inl hb).newT ew λb hb=>?_) hWw;rcases hb with(hb|hb)|hb
  ·exact .inl (.inl hb)
  ·exact .inr hb
  ·exact .inl (.inr hb)
def part {α:Type}(f:Cls->α->Nat)(tb:List Cls)(l:List α)(i:Nat):Nat:=(((tb.zip l).take i).map λx=>f x.1 x.2).sum
end Go.Ar
namespace Go.Ar
open Go Go.Vc Go.Proofs
variable {U:Hp}
theorem Wbe:∀(xs:List (Int×Int×Int)),Wbo xs=true↔∀(i:Nat) a b,xs[i]?=some a->xs[i+1]?=some b->a.1<b.1
 | []=>by simp[Wbo]
 | [x]=>by simp[Wbo]
 | x::y::l=>by
  have ih:=Wbe (y::l);show(decide (x.1<y.1)&&Wbo (y::l))=true↔_;rw[zF,ih,zP];constructor
  ·rintro⟨h1,h2⟩ i a b ha hb;cases i with
   | zero=>simp at ha hb;subst ha;subst hb;exact h1
   | succ i=>exact h2 i a b (by simpa using ha) (by simpa using hb)
  ·intro h;exact⟨h 0 x y rfl rfl,λi a b ha hb=>h (i+1) a b (by simpa using ha) (by simpa using hb)⟩
theorem Z7 (xs:List (Int×Int×Int)):Qo xs=true↔1<=xs.length/\xs.length<=40/\(∀(i:Nat) t,xs[i]?=some t->Uq t.1 t.2.1 t.2.2=true)/\∀(i:Nat) a b,xs[i]?=some a->xs[i+1]?=some b->a.1<b.1:=by
 unfold Qo;simp only[zF,zP,Wbe,zu];constructor
 ·rintro⟨h1,h2,h3,h4⟩;exact⟨h1,h2,λi t ht=>h3 t (zD ht),h4⟩
 ·rintro⟨h1,h2,h3,h4⟩;exact⟨h1,h2,λt ht=>by obtain⟨i,hi⟩:=zM ht;exact h3 i t hi,h4⟩
theorem GF {s:Sl}{xs:List (Int×Int×Int)}(ha:Acts U s xs){R:Bool->Hp->Prop}(hR:∀σ',Ext0 U σ'->R (Qo xs) σ'):Zz.c s U R:=by
 refine Zz.o ?_;unfold Zz.v;have no:∀σ',Ext0 U σ'->¬(1<=xs.length/\xs.length<=40/\(∀(i:Nat) t,xs[i]?=some t->Uq t.1 t.2.1 t.2.2=true)/\∀(i:Nat) a b,xs[i]?=some a->xs[i+1]?=some b->a.1<b.1)->R false σ':=λσ' e hn=>by
  have:=hR σ' e;have hf:Qo xs=false:=by rw[←zCF,Z7];exact hn
  rw[hf]at this;exact this
 have hlen:=ha.1;refine JnB.intro (ifD (λc1=>ifT rfl (no U (Ext.refl _ _) λh=>by omega)) λc1=>?_);refine ifD (λc2=>no U (Ext.refl _ _) λh=>by omega) λc2=>?_;refine Zx (a:=.i .i64) (λ(t:Int) v=>∃i:Nat,t=(i:Int)/\i<=xs.length/\Ext0 U v/\(∀(j:Nat) t,j<i->xs[j]?=some t->Uq t.1 t.2.1 t.2.2=true)/\∀(j:Nat) a b,j+1<i->xs[j]?=some a->xs[j+1]?=some b->a.1<b.1) (λt _=>xs.length-t.toNat)
  ⟨0,rfl,by omega,Ext.refl _ _,λj t h=>by omega,λj a b h=>by omega⟩ ?_
 rintro t v ⟨i,rfl,hi,e,h1,h2⟩;have hav:=ZX ha e;refine ifD (λhlt=>?_) λhge=>?_
 ·have hi':i<xs.length:=by omega
  have hx:xs[i]?=some xs[i]:=gGe hi';generalize xs[i]=r at hx;obtain⟨x,y,z⟩:=r;refine WbJ hav hx ?_;refine nw (cs:=[.int .i64 0,.int .i64 0,.int .i64 0]) λv2 hz2 e2 b2=>b2.s1 (by simp) λv3 o3 b3=>b3.s1 (by simp) λv4 o4 b4=>b4.s1 (by simp) λv5 o5 b5=>?_;have e5:Ext0 v v5:=Ext.fresh (Ext.fresh (Ext.fresh e2 o3.ext λi hi=>by omega) o4.ext λi hi=>by omega) o5.ext λi hi=>by omega
  refine Jn.intro ⟨(· = v5),rfl,⟨x,λm hm=>by rw[hm,add_lit,b5.cell];rfl,⟨y,λm hm=>by rw[hm,add_lit,b5.cell];rfl,⟨z,λm hm=>by rw[hm,add_lit,b5.cell];rfl,?_⟩⟩⟩⟩;refine Wk7 x y z λv7 e7=>?_;have e07:=(Ext.trans e e5).trans e7;have bad:(Uq x y z=false\/∃a,0<i/\xs[i-1]?=some a/\x<=a.1)->R false v7:=λhb=>no v7 e07 λhv=>by
   rcases hb with hb|⟨a,hp,hb1,hb2⟩
   ·have:=hv.2.2.1 i _ hx;simp only at this;rw[hb]at this;cases this
   ·have:=hv.2.2.2 (i-1) a (x,y,z) hb1 (by rw[show i-1+1=i by omega];exact hx);simp only at this;omega
  cases hc:Uq x y z
  ·exact ifT rfl (ifT rfl (bad (.inl hc)))
  ·have next:(∀a,0<i->xs[i-1]?=some a->a.1<x)->Ar .i64 ((i:Int)+1) λt38=>(∃i:Nat,t38=(i:Int)/\i<=xs.length/\Ext0 U v7/\(∀(j:Nat) t,j<i->xs[j]?=some t->Uq t.1 t.2.1 t.2.2=true)/\∀(j:Nat) a b,j+1<i->xs[j]?=some a->xs[j+1]?=some b->a.1<b.1)/\xs.length-t38.toNat<xs.length-(i:Int).toNat:=by
    intro hp;refine arN (m:=i+1) (by omega) (by omega) ⟨⟨i+1,rfl,by omega,e07,λj t hj ht=>?_,λj a b hj hja hjb=>?_⟩,by omega⟩
    ·by_cases hji:j=i
     ·subst hji;rw[hx]at ht;cases ht;exact hc
     ·exact h1 j t (by omega) ht
    ·by_cases hji:j+1=i
     ·subst hji;rw[hx]at hjb;cases hjb;exact hp a (by omega) hja
     ·exact h2 j a b (by omega) hja hjb
   refine ifF rfl (ifD (λhp=>?_) λhp=>ifF rfl (next λa hp2=>by omega))
   have hxp:xs[i-1]?=some (xs[i-1]'(by omega)):=gGe _;generalize xs[i-1]'(by omega)=r at hxp;obtain⟨x',y',z'⟩:=r;have hav7:=ZX ha e07;obtain⟨b,o,g1,g2,g3,g4,g5⟩:=hav7.2 (i-1) x' y' z' hxp;have b7:=e7.blk b5 id;refine arN (m:=i-1) (by omega) (by omega) ?_;rw[g1];refine ix (by omega) (by omega) ?_;have g3':cell v7 ⟨b,o+(((i-1:Nat):Int)).toNat*3+0,none⟩=some (.int .i64 x'):=by simpa using g3
   have fin:If (decide (x<=x')) (R false v7) (Ar .i64 ((i:Int)+1) λt38=>(∃i:Nat,t38=(i:Int)/\i<=xs.length/\Ext0 U v7/\(∀(j:Nat) t,j<i->xs[j]?=some t->Uq t.1 t.2.1 t.2.2=true)/\∀(j:Nat) a b,j+1<i->xs[j]?=some a->xs[j+1]?=some b->a.1<b.1)/\xs.length-t38.toNat<xs.length-(i:Int).toNat):=by
    refine ifD (λhle=>bad (.inr ⟨_,by omega,hxp,hle⟩)) λhgt=>next λa _ ha2=>?_
    rw[hxp]at ha2;cases ha2;simp only;omega
   rw[add_lit b o];exact⟨b7.rI rfl (ldI0 g3' fin),ldI0 g3' (b7.rI rfl fin)⟩
 ·have:i=xs.length:=by omega
  subst this;have hv:Qo xs=true:=(Z7 xs).2 ⟨by omega,by omega,λi t ht=>h1 i t (gSi.1 ht).1 ht,λi a b hja hjb=>h2 i a b (gSi.1 hjb).1 hja hjb⟩;have:=hR v e;rw[hv]at this;exact this
end Go.Ar
namespace Go.Ar
open Go Go.Vc Go.Proofs
open Go.Bu (Y3 QL Zf)
variable {U:Hp}{F H:Rg}{p hs:Nat}{A:AR}{sp:Sp}{Y:Lay}{T:Nat->Hp->Rg->Prop}
open Classical in
theorem _root_.Go.Vc.Sep.put {L:Type}{C C':L->Hp->Rg->Prop}{U:Hp}{F G:Rg}(hC:∀i,Lcl (C i))(h:Sep C U F)(i:L)(hd:∀b,G b->¬F b)(hj:∀j,j≠i->C' j=C j)(hi:C' i U G)(hL:Lcl (C' i)):Sep C' U λb=>F b\/G b:=by
 obtain⟨ρ,h⟩:=h;refine⟨λb=>if G b then i else ρ b,λj=>?_⟩
 by_cases hji:j=i
 ·subst hji;exact hL.mono hi λb _ hb=>⟨.inr hb,zB hb⟩
 ·rw[hj j hji];refine(hC j).mono (h j) λb _ hf=>⟨.inl hf.1,?_⟩;show(if G b then i else ρ b)=j
  rw[zA λhg=>hd b hg hf.1];exact hf.2
def ACh (A:AR)(Y:Lay)(T:Nat->Hp->Rg->Prop)(cs:List Value):Lb->Hp->Rg->Prop
 | .hd=>BlkR Y.p cs
 | i=>AC A Y T i
theorem ACh.loc {cs:List Value}(hT:∀k,Lcl (T k)):∀i,Lcl (ACh A Y T cs i)
 | .hd=>BlkR.loc _ _
 | .tab=>AC.loc (A:=A) (Y:=Y) hT .tab
 | .free=>AC.loc (A:=A) (Y:=Y) hT .free
 | .trk=>AC.loc (A:=A) (Y:=Y) hT .trk
 | .own=>AC.loc (A:=A) (Y:=Y) hT .own
 | .crow=>AC.loc (A:=A) (Y:=Y) hT .crow
 | .trow=>AC.loc (A:=A) (Y:=Y) hT .trow
 | .runs=>AC.loc (A:=A) (Y:=Y) hT .runs
 | .cen k=>AC.loc (A:=A) (Y:=Y) hT (.cen k)
 | .tra k=>AC.loc (A:=A) (Y:=Y) hT (.tra k)
theorem WnT:ACh A Y T (hdV Y)=AC A Y T:=by
 funext i;cases i<;>rfl
theorem WeX {cs:List Value}(hT:∀k,Lcl (T k))(h:Sep (ACh A Y T cs) U F)(hlen:A.cen.length<=Y.cps.length)(hl:Y.cps.length<=40){vb cp ty:Nat}(hb:Blk U vb [.pointer (some ⟨cp,0,none⟩)])(hvb:¬F vb){K:Sl->Hp->Prop}
 (hK:∀s' σ',Ext F U σ'->Sep (ACh A {Y with crow:=s',cps:=Y.cps++[cp]} T cs) σ' (Grow F U)->K s' σ'):App Y.crow 1 8 ty [.pointer none] ⟨some ⟨vb,0,none⟩,1,1⟩ U K:=by
 obtain⟨G,hG,hi,_,hput⟩:=h.stepD (ACh.loc hT) .crow;have hi:RowR Y.crow 1 (ptrV Y.cps) U G:=hi;have hlc:Y.crow.len=Y.cps.length:=by have:=hi.1;simp[ptrV]at this;omega
 refine hi.app (ys:=[.pointer (some ⟨cp,0,none⟩)]) rfl rfl ?_ (by simp[one1]) (by simp only;omega) (by simp only;omega) zBI λs' σ' hl' e hr=>hK s' σ' (e.sub hG) ?_
 ·intro j u hu;rw[add_lit,zJ,hb.cell];exact hu
 refine(Sep.loc (ACh.loc hT)).mono (hput σ' (ACh A {Y with crow:=s',cps:=Y.cps++[cp]} T cs) (Grow G U) (λj hj=>?_) e (λb hb=>hb) ?_ (ACh.loc hT _)) λb _ hb=>UP hG (λb hb=>hb) b hb
 ·cases j<;>first|rfl|exact absurd rfl hj|skip
  rename_i k;show CenR (Y.cps++[cp])[k]? A.tb[k]? A.cen[k]?=CenR Y.cps[k]? A.tb[k]? A.cen[k]?;rcases zAH k Y.cps.length with h1|h1
  ·rw[zf h1]
  ·have:A.cen[k]?=none:=zU (by omega);rw[this]
   funext U F
   unfold CenR;cases(Y.cps++[cp])[k]?<;>cases Y.cps[k]?<;>cases A.tb[k]?<;>rfl
 ·show RowR s' 1 (ptrV (Y.cps++[cp])) σ' (Grow G U);have:ptrV (Y.cps++[cp])=ptrV Y.cps++[.pointer (some ⟨cp,0,none⟩)]:=by simp[ptrV]
  rw[this];exact hr
theorem WhU (hlen:A.tra.length<=Y.tps.length)(tp:Nat)(s':Sl):traT A {Y with trow:=s',tps:=Y.tps++[tp]}=traT A Y:=by
 funext k
 unfold traT;simp only;rcases zAH k Y.tps.length with h1|h1
 ·rw[zf h1]
 ·have:A.tra[k]?=none:=zU (by omega);rw[this]
  funext U F
  unfold TraR;cases(Y.tps++[tp])[k]?<;>cases Y.tps[k]?<;>cases A.tb[k]?<;>rfl
theorem WeF {cs:List Value}(h:Sep (ACh A Y (traT A Y) cs) U F)(hlen:A.tra.length<=Y.tps.length)(hl:Y.tps.length<=40){vb tp ty:Nat}(hb:Blk U vb [.pointer (some ⟨tp,0,none⟩)])(hvb:¬F vb){K:Sl->Hp->Prop}
 (hK:∀s' σ',Ext F U σ'->Sep (ACh A {Y with trow:=s',tps:=Y.tps++[tp]} (traT A {Y with trow:=s',tps:=Y.tps++[tp]}) cs) σ' (Grow F U)->K s' σ'):App Y.trow 1 8 ty [.pointer none] ⟨some ⟨vb,0,none⟩,1,1⟩ U K:=by
 have hT:∀k,Lcl (traT A Y k):=λk=>traT.loc k;obtain⟨G,hG,hi,_,hput⟩:=h.stepD (ACh.loc hT) .trow;have hi:RowR Y.trow 1 (ptrV Y.tps) U G:=hi;have hlc:Y.trow.len=Y.tps.length:=by have:=hi.1;simp[ptrV]at this;omega
 refine hi.app (ys:=[.pointer (some ⟨tp,0,none⟩)]) rfl rfl ?_ (by simp[one1]) (by simp only;omega) (by simp only;omega) zBI λs' σ' hl' e hr=>hK s' σ' (e.sub hG) ?_
 ·intro j u hu;rw[add_lit,zJ,hb.cell];exact hu
 rw[WhU hlen];refine(Sep.loc (ACh.loc hT)).mono (hput σ' (ACh A {Y with trow:=s',tps:=Y.tps++[tp]} (traT A Y) cs) (Grow G U) (λj hj=>?_) e (λb hb=>hb) ?_ (ACh.loc hT _)) λb _ hb=>UP hG (λb hb=>hb) b hb
 ·cases j<;>first|rfl|exact absurd rfl hj
 ·show RowR s' 1 (ptrV (Y.tps++[tp])) σ' (Grow G U);have:ptrV (Y.tps++[tp])=ptrV Y.tps++[.pointer (some ⟨tp,0,none⟩)]:=by simp[ptrV]
  rw[this];exact hr
theorem Wnj {cs:List Value}(hT:∀k,Lcl (T k))(h:Sep (ACh A Y T cs) U F){i:Nat}{v:Value}(hi:i<cs.length){K:Hp->Prop}(hK:∀σ',Ext F U σ'->Sep (ACh A Y T (cs.set i v)) σ' F->K σ'):St1 (Addr.add ⟨Y.p,0,none⟩ i) v U K:=by
 obtain⟨G,hG,hp,_,hput⟩:=h.stepD (ACh.loc hT) .hd;have hp:BlkR Y.p cs U G:=hp;refine hp.2.s1 (by omega) λσ' o b=>hK σ' (o.ext.sub λb hb=>by subst hb;exact hG _ hp.1) ?_;rw[zJ]at b;refine(Sep.loc (ACh.loc hT)).mono (hput σ' (ACh A Y T (cs.set i v)) G (λj hj=>?_) (o.ext.sub λb hb=>by subst hb;exact hp.1) (λb hb=>.inl hb) ⟨hp.1,b⟩ (ACh.loc hT _)) λb _ hb=>Wcj hG (λb hb=>hb) b hb;cases j<;>first|rfl|exact absurd rfl hj
theorem hdCh {cs:List Value}(h:Sep (ACh A Y T cs) U F):Blk U Y.p cs/\F Y.p:=by
 obtain⟨G,hG,hp,hb⟩:=h.get .hd;exact⟨hb,hG _ hp⟩
theorem Wmd {cs:List Value}{i cp tp:Nat}{c:Cls}{ss:List SpA}{t:TrA}{ps:List (Nat×Nat)}{Gc Gt:Rg}(h:Sep (ACh A Y (traT A Y) cs) U F)(hlc:A.cen.length=i)(hlt:A.tra.length=i)(hcp:Y.cps[i]?=some cp)(htp:Y.tps[i]?=some tp)(hc:A.tb[i]?=some c)
 (hC:CeH U Gc cp c ps ss) (hTf:TfH U Gt tp c.batch A.room t) (d1:∀b,Gc b->¬F b) (d2:∀b,Gt b->¬F b) (d3:∀b,Gc b->¬Gt b) :
 Sep (ACh {A with cen:=A.cen++[ss],tra:=A.tra++[t]} Y (traT {A with cen:=A.cen++[ss],tra:=A.tra++[t]} Y) cs) U λb=>(F b\/Gc b)\/Gt b:=by
 have hT:∀k,Lcl (traT A Y k):=λk=>traT.loc k;have h1:Sep (ACh {A with cen:=A.cen++[ss]} Y (traT A Y) cs) U λb=>F b\/Gc b:=by
  refine h.put (ACh.loc hT) (.cen i) d1 (λj hj=>?_) ?_ (ACh.loc hT _)
  ·cases j<;>first|rfl|skip
   rename_i k;have hne:k≠i:=λe=>hj (by rw[e]);show CenR Y.cps[k]? A.tb[k]? (A.cen++[ss])[k]?=CenR Y.cps[k]? A.tb[k]? A.cen[k]?;rcases zAH k i with h2|h2
   ·rw[zf (by omega)]
   ·have h3:(A.cen++[ss])[k]?=none:=zU (by rw[zQ,zGK];omega);have h4:A.cen[k]?=none:=zU (by omega);rw[h3,h4]
  ·show CenR Y.cps[i]? A.tb[i]? (A.cen++[ss])[i]? U Gc;rw[hcp,hc,zn (by omega),hlc,zBS];exact⟨ps,hC⟩
 refine h1.put (ACh.loc hT) (.tra i) (λb hb hf=>?_) (λj hj=>?_) ?_ (ACh.loc (λk=>traT.loc k) _)
 ·rcases hf with hf|hf
  ·exact d2 b hb hf
  ·exact d3 b hf hb
 ·cases j<;>first|rfl|skip
  rename_i k;have hne:k≠i:=λe=>hj (by rw[e]);show TraR Y.tps[k]? A.tb[k]? A.room (A.tra++[t])[k]?=TraR Y.tps[k]? A.tb[k]? A.room A.tra[k]?;rcases zAH k i with h2|h2
  ·rw[zf (by omega)]
  ·have h3:(A.tra++[t])[k]?=none:=zU (by rw[zQ,zGK];omega);have h4:A.tra[k]?=none:=zU (by omega);rw[h3,h4]
 ·show TraR Y.tps[i]? A.tb[i]? A.room (A.tra++[t])[i]? U Gt;rw[htp,hc,zn (by omega),hlt,zBS];exact hTf
open Classical in
noncomputable def Prt {L:Type}(C:L->Hp->Rg->Prop)(S:L->Prop)(i:L):Hp->Rg->Prop:=if S i then C i else WjS
theorem Prt.loc {L:Type}{C:L->Hp->Rg->Prop}{S:L->Prop}(hC:∀i,Lcl (C i))(i:L):Lcl (Prt C S i):=by
 unfold Prt;split
 ·exact hC i
 ·exact WjS.loc
theorem Prt.put {L:Type}{C:L->Hp->Rg->Prop}{S:L->Prop}{F G:Rg}(hC:∀i,Lcl (C i))(h:Sep (Prt C S) U F)(i:L)(hd:∀b,G b->¬F b)(hi:C i U G):Sep (Prt C λj=>S j\/j=i) U λb=>F b\/G b:=by
 refine h.put (Prt.loc hC) i hd (λj hj=>?_) ?_ (Prt.loc hC i)
 ·unfold Prt;by_cases hS:S j
  ·rw[zB (.inl hS),zB hS]
  ·rw[zA (λh=>hS (h.resolve_right hj)),zA hS]
 ·unfold Prt;rw[zB (.inr rfl)];exact hi
theorem Prt.all {L:Type}{C:L->Hp->Rg->Prop}{S:L->Prop}{F:Rg}(h:Sep (Prt C S) U F)(hS:∀i,S i):Sep C U F:=by
 have:Prt C S=C:=by
  funext i;unfold Prt;rw[zB (hS i)]
 rw[this]at h;exact h
theorem Prt.one {L:Type}{C:L->Hp->Rg->Prop}(S:L->Prop)(l:L)(h:∀i,S i->C i U λ_=>False):Sep (Prt C S) U λ_=>False:=by
 refine⟨λ_=>l,λi=>?_⟩;have:(λ(b:Nat)=>False/\l=i)=λ_=>False:=by funext b;simp
 rw[this];unfold Prt;by_cases hS:S i
 ·rw[zB hS];exact h i hS
 ·rw[zA hS];trivial
theorem WeM {tb:List Cls}:∀v∈tabV tb,one1 v=true:=by
 intro v hv;simp only[tabV,zDB]at hv;obtain⟨c,_,hc⟩:=hv;simp at hc;rcases hc with rfl|rfl|rfl<;>rfl
theorem Hm {s:Sl}{xs:List (Int×Int×Int)}(ha:Acts U s xs)(hv:Qo xs=true){i:Nat}{c:Cls}(hc:(xs.map Z9)[i]?=some c):xs[i]?=some ((c.size:Int),(c.pages:Int),(c.batch:Int))/\c.ok:=by
 rw[zg,zBV]at hc;obtain⟨⟨x,y,z⟩,ht,rfl⟩:=hc;obtain⟨c,hok,he,hx,hy,hz⟩:=GH (((Z7 xs).1 hv).2.2.1 i _ ht);simp only at hx hy hz;rw[he,ht,hx,hy,hz];exact⟨rfl,hok⟩
theorem V6 {s:Sl}{xs:List (Int×Int×Int)}(ha:Acts U s xs)(hv:Qo xs=true){R:Sl->Hp->Prop}(hR:∀s' σ',Ext0 U σ'->SlR s' 3 (tabV (xs.map Z9)) σ' (λb=>U.size<=b)->R s' σ'):Wc.c s U R:=by
 refine Wc.o ?_;unfold Wc.v;have hva:=(Z7 xs).1 hv;have hlen:=ha.1;have hl0:0<(xs.map Z9).length:=by rw[zh];omega
 have h0:(xs.map Z9)[0]?=some (xs.map Z9)[0]:=gGe hl0;obtain⟨bb,oo,hsa,_⟩:=ha.2 0 _ _ _ (Hm ha hv h0).1;refine ifF (by rw[hsa];rfl) (nw (cs:=[]) λv hvz e1 hb1=>?_);have hav:=ZX ha e1;refine(RowR.nil v (λb=>U.size<=b) 3 (some ⟨U.size,0,none⟩)).app (ys:=tabV (xs.map Z9)) rfl (by rw[Vr,zh];omega) ?_ WeM (by simp only;omega) (by simp only;omega) (by omega) λs' h' hl' e' ho'=>hR s' h' (Ext.fresh e1 e' λi hi=>hi) ?_
 ·rw[hsa];intro j u hu;have hjl:=(gSi.1 hu).1;rw[Vr,zh]at hjl;have hi:j/3<(xs.map Z9).length:=by rw[zh];omega
  have hc:(xs.map Z9)[j/3]?=some (xs.map Z9)[j/3]:=gGe hi;generalize (xs.map Z9)[j/3]=c at hc;have hg:=GI hc;obtain⟨b,o,g1,_,g3,g4,g5⟩:=hav.2 (j/3) _ _ _ (Hm ha hv hc).1;rw[hsa]at g1;cases g1;rw[add_lit];rcases(by omega:j=3*(j/3)\/j=3*(j/3)+1\/j=3*(j/3)+2)with hj|hj|hj
  ·rw[hj]at hu;rw[hg.1]at hu;cases hu;rw[show oo+j=oo+j/3*3 by omega];exact g3
  ·rw[hj]at hu;rw[hg.2.1]at hu;cases hu;rw[show oo+j=oo+j/3*3+1 by omega];exact g4
  ·rw[hj]at hu;rw[hg.2.2]at hu;cases hu;rw[show oo+j=oo+j/3*3+2 by omega];exact g5
 ·rw[zBX]at ho';refine(SlR.loc _ _ _).mono ho'.slR λb _ hg=>?_;rcases hg with h|h
  ·exact h
  ·omega
def newA (n room:Nat)(tb:List Cls):AR:={n:=n,room:=room,tb:=tb,S:=Go.Bu.emptyS,st:=List.replicate n 0,ow:=λ_=>0,cen:=List.replicate tb.length [],tra:=List.replicate tb.length ⟨0,[]⟩,runs:=[]}
def newP (n room:Nat)(tb:List Cls)(i:Nat):AR:={newA n room tb with cen:=List.replicate i [],tra:=List.replicate i ⟨0,[]⟩}
def newE (xs:List (Int×Int×Int))(n:Nat)(room:Int):Int:=if Qo xs then(if 32<=n/\n%16=0/\0<=room/\room<=8 then 0 else 1)else 2
def S0:Lb->Prop
 | .crow | .trow | .cen _ | .tra _=>True
 | _=>False
theorem WeU {i cp tp:Nat}{c:Cls}{ss:List SpA}{t:TrA}{ps:List (Nat×Nat)}{Gc Gt:Rg}{crow trow:Sl}(hpos:Y.cps.length=i/\Y.tps.length=i)
 (h:Sep (ACh A {Y with crow:=crow,trow:=trow,cps:=Y.cps++[cp],tps:=Y.tps++[tp]} (traT A {Y with crow:=crow,trow:=trow,cps:=Y.cps++[cp],tps:=Y.tps++[tp]}) (hdV Y)) U F)
 (hlc:A.cen.length=i) (hlt:A.tra.length=i) (hc:A.tb[i]?=some c) (hC:CeH U Gc cp c ps ss) (hTf:TfH U Gt tp c.batch A.room t) (d1:∀b,Gc b->¬F b) (d2:∀b,Gt b->¬F b) (d3:∀b,Gc b->¬Gt b) {K:Hp->Prop}
 (hK:∀σ' Y',Ext F U σ'->Y'.p=Y.p->Y'.hs=Y.hs->Y'.cps.length=i+1->Y'.tps.length=i+1->Sep (ACh {A with cen:=A.cen++[ss],tra:=A.tra++[t]} Y' (traT {A with cen:=A.cen++[ss],tra:=A.tra++[t]} Y') (hdV Y')) σ' (λb=>(F b\/Gc b)\/Gt b)->K σ') :
 NilP (some ⟨Y.p,0,none⟩) λa93=>St1 (a93.add 5) (.slice crow.a crow.len crow.cap) U λv25=>NilP (some ⟨Y.p,0,none⟩) λa95=>St1 (a95.add 6) (.slice trow.a trow.len trow.cap) v25 K:=by
 have hT:∀k,Lcl (traT A {Y with crow:=crow,trow:=trow,cps:=Y.cps++[cp],tps:=Y.tps++[tp]} k):=λk=>traT.loc k;refine nilP (Wnj (Y:={Y with crow:=crow,trow:=trow,cps:=Y.cps++[cp],tps:=Y.tps++[tp]}) hT h (i:=5) (by simp[hdV]) λv1 e1 h1=>nilP (Wnj (Y:={Y with crow:=crow,trow:=trow,cps:=Y.cps++[cp],tps:=Y.tps++[tp]}) hT h1 (i:=6) (by simp[hdV]) λv2 e2 h2=>?_));have hC2:=(CeH.loc (c:=c) (ps:=ps) (ss:=ss) (p:=cp)).keep ((CeH.loc (c:=c) (ps:=ps) (ss:=ss) (p:=cp)).keep hC e1 λb _ hb hf=>d1 b hb hf) e2 λb _ hb hf=>d1 b hb hf;have hT2:=(TfH.loc (p:=tp) (batch:=c.batch) (room:=A.room) (t:=t)).keep ((TfH.loc (p:=tp) (batch:=c.batch) (room:=A.room) (t:=t)).keep hTf e1 λb _ hb hf=>d2 b hb hf) e2 λb _ hb hf=>d2 b hb hf;have h3:=Wmd (cp:=cp) (tp:=tp) h2 hlc hlt (by simp only;rw[zn (by omega),hpos.1,zBS];rfl) (by simp only;rw[zn (by omega),hpos.2,zBS];rfl) hc hC2 hT2 d1 d2 d3;exact hK v2 {Y with crow:=crow,trow:=trow,cps:=Y.cps++[cp],tps:=Y.tps++[tp]} (e1.trans e2) rfl rfl (by simp[hpos.1]) (by simp[hpos.2]) h3
theorem chs {cs:List Value}{σ':Hp}(hT:∀k,Lcl (T k))(h:Sep (ACh A Y T cs) U F)(e:Ext0 U σ'):Sep (ACh A Y T cs) σ' F:=(Sep.loc (ACh.loc hT)).keep0 h e
theorem WnK {cs:List Value}(hT:∀k,Lcl (T k))(h:Sep (ACh A Y T cs) U F):Sep (ACh A Y T cs) U (Cut F U):=(Sep.loc (ACh.loc hT)).cut h
theorem Whu (n room:Nat)(tb:List Cls)(i:Nat):({newP n room tb i with cen:=(newP n room tb i).cen++[[]],tra:=(newP n room tb i).tra++[⟨0,[]⟩]}:AR)=newP n room tb (i+1):=by
 unfold newP;simp only[←zFR]
theorem WkY (n room:Nat)(tb:List Cls):newP n room tb tb.length=newA n room tb:=rfl
theorem Woa {i cp tp:Nat}{c:Cls}{ss:List SpA}{t:TrA}{ps:List (Nat×Nat)}{Gc Gt:Rg}{z:Nat}(hF:∀b,F b->z<=b/\b<U.size)(hpos:Y.cps.length=i/\Y.tps.length=i)(hi:i<40)
 (h:Sep (ACh A Y (traT A Y) (hdV Y)) U F) (hlc:A.cen.length=i) (hlt:A.tra.length=i) (hc:A.tb[i]?=some c) (hC:CeH U Gc cp c ps ss) (hTf:TfH U Gt tp c.batch A.room t) (d1:∀b,Gc b->¬F b/\z<=b/\b<U.size) (d2:∀b,Gt b->¬F b/\z<=b/\b<U.size) (d3:∀b,Gc b->¬Gt b) {J4:Hp->Prop}
 (hK:∀σ' Y',Ext F U σ'->Y'.p=Y.p->Y'.hs=Y.hs->Y'.cps.length=i+1->Y'.tps.length=i+1->Sep (ACh {A with cen:=A.cen++[ss],tra:=A.tra++[t]} Y' (traT {A with cen:=A.cen++[ss],tra:=A.tra++[t]} Y') (hdV Y')) σ' (λb=>z<=b)->J4 σ') :
 Held U λS=>NilP (some ⟨Y.p,0,none⟩) λa80=>LdH S .s (a80.add 5) λ(t82:Sl)=>NilP (some ⟨Y.p,0,none⟩) λa87=>LdH S .s (a87.add 6) λ(t89:Sl)=>
  (Nw (.cells #[.pointer (some ⟨cp,0,none⟩)] 152 (0,0)) U λn84 v21=>And (S v21) <|
   (App t82 1 8 152 [.pointer none] ⟨some n84,1,1⟩ v21 λt85 v22=>And (S v22)<|Nw (.cells #[.pointer (some ⟨tp,0,none⟩)] 154 (0,0)) v22 λn91 v23=>And (S v23)<|App t89 1 8 154 [.pointer none] ⟨some n91,1,1⟩ v23 λt92 v24=>And (S v24) <|
   NilP (some ⟨Y.p,0,none⟩) λa93=>St1 (a93.add 5) (.slice t85.a t85.len t85.cap) v24 λv25=>NilP (some ⟨Y.p,0,none⟩) λa95=>St1 (a95.add 6) (.slice t92.a t92.len t92.cap) v25 λv26=>J4 v26) ∧
   (Nw (.cells #[.pointer (some ⟨tp,0,none⟩)] 154 (0,0)) v21 λn911 v27=>And (S v27)<|App t82 1 8 152 [.pointer none] ⟨some n84,1,1⟩ v27 λt851 v28=>And (S v28)<|App t89 1 8 154 [.pointer none] ⟨some n911,1,1⟩ v28 λt921 v29=>And (S v29) <|
   NilP (some ⟨Y.p,0,none⟩) λa931=>St1 (a931.add 5) (.slice t851.a t851.len t851.cap) v29 λv30=>NilP (some ⟨Y.p,0,none⟩) λa951=>St1 (a951.add 6) (.slice t921.a t921.len t921.cap) v30 λv31=>J4 v31)) ∧
  (Nw (.cells #[.pointer (some ⟨tp,0,none⟩)] 154 (0,0)) U λn912 v32=>And (S v32)<|Nw (.cells #[.pointer (some ⟨cp,0,none⟩)] 152 (0,0)) v32 λn841 v33=>And (S v33) <|
  App t82 1 8 152 [.pointer none] ⟨some n841,1,1⟩ v33 λt852 v34=>And (S v34)<|App t89 1 8 154 [.pointer none] ⟨some n912,1,1⟩ v34 λt922 v35=>And (S v35) <|
  NilP (some ⟨Y.p,0,none⟩) λa932=>St1 (a932.add 5) (.slice t852.a t852.len t852.cap) v35 λv36=>NilP (some ⟨Y.p,0,none⟩) λa952=>St1 (a952.add 6) (.slice t922.a t922.len t922.cap) v36 λv37=>J4 v37):=by
 have hT:∀k,Lcl (traT A Y k):=λk=>traT.loc k;have hlC:=CeH.loc (c:=c) (ps:=ps) (ss:=ss) (p:=cp);have hlT:=TfH.loc (p:=tp) (batch:=c.batch) (room:=A.room) (t:=t);refine⟨λm=>Blk m Y.p (hdV Y),(hdCh h).1,nilP ⟨Y.crow,λm hm=>by rw[add_lit,hm.cell];rfl,nilP ⟨Y.trow,λm hm=>by rw[add_lit,hm.cell];rfl,?_⟩⟩⟩;have app2:∀(w:Hp) (F1:Rg) (b1 b2:Nat),Ext0 U w->(∀b,F1 b->F b)->Sep (ACh A Y (traT A Y) (hdV Y)) w F1->Blk w b1 [.pointer (some ⟨cp,0,none⟩)]->Blk w b2 [.pointer (some ⟨tp,0,none⟩)]->U.size<=b1->U.size<=b2 →
  App Y.crow 1 8 152 [.pointer none] ⟨some ⟨b1,0,none⟩,1,1⟩ w λt85 v28=>And (Blk v28 Y.p (hdV Y))<|App Y.trow 1 8 154 [.pointer none] ⟨some ⟨b2,0,none⟩,1,1⟩ v28 λt92 v29=>And (Blk v29 Y.p (hdV Y)) <|
   NilP (some ⟨Y.p,0,none⟩) λa93=>St1 (a93.add 5) (.slice t85.a t85.len t85.cap) v29 λv30=>NilP (some ⟨Y.p,0,none⟩) λa95=>St1 (a95.add 6) (.slice t92.a t92.len t92.cap) v30 λv31=>J4 v31:=by
  intro w F1 b1 b2 ew hF1 hw hb1 hb2 hz1 hz2;have hFw:∀b,F1 b->z<=b/\b<U.size:=λb hb=>hF b (hF1 b hb);have hsw:=ew.1;refine WeX hT hw (by omega) (by omega) hb1 (λhf=>by have:=hFw _ hf;omega) λs1 v28 e28 h28=>?_;have h28b:=(hdCh h28).1;have h28':Sep (ACh A {Y with crow:=s1,cps:=Y.cps++[cp]} (traT A {Y with crow:=s1,cps:=Y.cps++[cp]}) (hdV Y)) v28 (Grow F1 w):=h28;refine⟨h28b,?_⟩;have c28:Sep (ACh A {Y with crow:=s1,cps:=Y.cps++[cp]} (traT A {Y with crow:=s1,cps:=Y.cps++[cp]}) (hdV Y)) v28 (λb=>F1 b\/w.size<=b):=h28';have hb2':=e28.blk hb2 λhf=>by have:=hFw _ hf;omega
  have hb2lt:=hb2.lt;refine WeF c28 (by simp only;omega) (by simp only;omega) hb2' (λhf=>by
   rcases hf with hf|hf
   ·have:=hFw _ hf;omega
   ·omega) λs2 v29 e29 h29=>?_
  refine⟨(hdCh h29).1,?_⟩;have sub29:∀b,(F1 b\/w.size<=b)->F b\/U.size<=b:=λb hb=>by
   rcases hb with hb|hb
   ·exact .inl (hF1 b hb)
   ·exact .inr (by omega)
  have eAll:Ext F U v29:=((Ext0.to ew).trans (e28.sub hF1)).newT e29 sub29;have hC29:=hlC.keep hC eAll λb _ hb hf=>(d1 b hb).1 hf;have hT29:=hlT.keep hTf eAll λb _ hb hf=>(d2 b hb).1 hf;have hs28:=e28.1;refine WeU (F:=Grow (λb=>F1 b\/w.size<=b) v28) hpos h29 hlc hlt hc hC29 hT29 (λb hb hf=>?_) (λb hb hf=>?_) d3 λw2 Y' e2 p1 p2 p3 p4 h2=>?_
  ·have:=d1 b hb;rcases hf with(hf|hf)|hf
   ·exact this.1 (hF1 b hf)
   ·omega
   ·omega
  ·have:=d2 b hb;rcases hf with(hf|hf)|hf
   ·exact this.1 (hF1 b hf)
   ·omega
   ·omega
  ·refine hK w2 Y' (eAll.newT e2 λb hb=>?_) p1 p2 p3 p4 ((Sep.loc (ACh.loc (λk=>traT.loc k))).mono h2 λb _ hb=>?_)
   ·rcases hb with(hb|hb)|hb
    ·exact .inl (hF1 b hb)
    ·exact .inr (by omega)
    ·exact .inr (by omega)
   ·have hz0:z<=U.size:=by have:=(d1 _ hC.fp);omega
    rcases hb with(((hb|hb)|hb)|hb)|hb
    ·exact(hFw b hb).1
    ·omega
    ·omega
    ·exact(d1 b hb).2.1
    ·exact(d2 b hb).2.1
 have S0:∀{w:Hp},Ext0 U w->Blk w Y.p (hdV Y):=λe=>e.blk (hdCh h).1 id;refine⟨nw (cs:=[.pointer (some ⟨cp,0,none⟩)]) λv21 z21 e21 b21=>⟨S0 e21,?_,?_⟩,nw (cs:=[.pointer (some ⟨tp,0,none⟩)]) λv32 z32 e32 b32=>⟨S0 e32,nw (cs:=[.pointer (some ⟨cp,0,none⟩)]) λv33 z33 e33 b33=>⟨S0 (Ext.trans e32 e33),?_⟩⟩⟩
 ·-- row,box,row
  have h21:=chs hT h e21;refine WeX hT h21 (by omega) (by omega) b21 (λhf=>by have:=hF _ hf;omega) λs1 v22 e22 h22=>⟨(hdCh h22).1,?_⟩;have h22':Sep (ACh A {Y with crow:=s1,cps:=Y.cps++[cp]} (traT A {Y with crow:=s1,cps:=Y.cps++[cp]}) (hdV Y)) v22 (Grow F v21):=h22;have c22:=WnK (λk=>traT.loc k) h22';refine nw (cs:=[.pointer (some ⟨tp,0,none⟩)]) λv23 z23 e23 b23=>?_;have h23:=chs (λk=>traT.loc k) c22 e23;refine⟨(hdCh h23).1,WeF h23 (by simp only;omega) (by simp only;omega) b23 (λhf=>by have:=hf.2;omega) λs2 v24 e24 h24=>⟨(hdCh h24).1,?_⟩⟩;have hs22:=e22.1;have hs23:=e23.1;have sub24:∀b,Cut (Grow F v21) v22 b->F b\/U.size<=b:=λb hb=>by
   rcases hb.1 with h|h
   ·exact .inl h
   ·exact .inr (by omega)
  have eAll:Ext F U v24:=((((Ext0.to e21).trans e22).trans0 e23)).newT e24 sub24;have hC24:=hlC.keep hC eAll λb _ hb hf=>(d1 b hb).1 hf;have hT24:=hlT.keep hTf eAll λb _ hb hf=>(d2 b hb).1 hf;refine WeU (F:=Grow (Cut (Grow F v21) v22) v23) hpos h24 hlc hlt hc hC24 hT24 (λb hb hf=>?_) (λb hb hf=>?_) d3 λw2 Y' e2 p1 p2 p3 p4 h2=>?_
  ·have:=d1 b hb;rcases hf with hf|hf
   ·rcases hf.1 with hf|hf
    ·exact this.1 hf
    ·omega
   ·omega
  ·have:=d2 b hb;rcases hf with hf|hf
   ·rcases hf.1 with hf|hf
    ·exact this.1 hf
    ·omega
   ·omega
  ·refine hK w2 Y' (eAll.newT e2 λb hb=>?_) p1 p2 p3 p4 ((Sep.loc (ACh.loc (λk=>traT.loc k))).mono h2 λb _ hb=>?_)
   ·rcases hb with hb|hb
    ·exact sub24 b hb
    ·exact .inr (by omega)
   ·have hz0:z<=U.size:=by have:=(d1 _ hC.fp);omega
    rcases hb with((hb|hb)|hb)|hb
    ·rcases sub24 b hb with h|h
     ·exact(hF b h).1
     ·omega
    ·omega
    ·exact(d1 b hb).2.1
    ·exact(d2 b hb).2.1
 ·-- box,row,row
  refine nw (cs:=[.pointer (some ⟨tp,0,none⟩)]) λv27 z27 e27 b27=>⟨S0 (Ext.trans e21 e27),?_⟩;exact app2 v27 F U.size v21.size (Ext.trans e21 e27) (λb hb=>hb) (chs hT (chs hT h e21) e27) (e27.blk b21 id) b27 (zC _) (by omega)
 ·exact app2 v33 F v32.size U.size (Ext.trans e32 e33) (λb hb=>hb) (chs hT (chs hT h e32) e33) b33 (e33.blk b32 id) (by omega) (zC _)
theorem WeW {P:Hp->Rg->Prop}(hl:Lcl P){a:Nat}(h:P U λb=>a<=b):P U λb=>a<=b/\b<U.size:=hl.mono h λb hb hf=>⟨hf,hb⟩
theorem Wnu {n room:Nat}{tb:List Cls}(h1:32<=n)(h2:n<=1024)(h3:n%16=0)(h4:room<=8)(h5:1<=tb.length)(h6:tb.length<=40)(h7:∀c∈tb,c.ok)(hc:Y.cps.length=tb.length)(ht:Y.tps.length=tb.length):LayOk (newA n room tb) Y:=
 ⟨hc,ht,by simp[newA],by simp[newA],h5,h6,h1,h2,h3,by simp[newA],h4,h7⟩
theorem WlC {s:Sl}{xs:List (Int×Int×Int)}(ha:Acts U s xs)(hS:SpH3 U H hs sp)(room:Int){R:Option Addr->Int->Hp->Prop}
 (h0:newE xs sp.st.length room≠0->∀σ',Ext0 U σ'->R none (newE xs sp.st.length room) σ')
 (h1:newE xs sp.st.length room=0->∀σ' Y,Ext0 U σ'->Y.hs=hs->AHY σ' (λb=>U.size<=b) Y (newA sp.st.length room.toNat (xs.map Z9)) (traT (newA sp.st.length room.toNat (xs.map Z9)) Y)->R (some ⟨Y.p,0,none⟩) 0 σ') :
 QX.c s (some ⟨hs,0,none⟩) room U R:=by
 refine QX.o ?_;unfold QX.v;have hn2:sp.st.length<=1024:=by obtain⟨q,r,l,B,h⟩:=hS;exact h.n2
 refine GF ha λv e=>?_;cases hv:Qo xs
 ·have e1:newE xs sp.st.length room=2:=by unfold newE;rw[hv];rfl
  have:=h0 (by rw[e1];decide) v e;rw[e1]at this;exact ifT rfl this
 have eE:newE xs sp.st.length room=if 32<=sp.st.length/\sp.st.length%16=0/\0<=room/\room<=8 then 0 else 1:=by unfold newE;rw[hv,zB rfl]
 refine ifF rfl (We0 (hS.keep0 e) ?_);have bad:¬(32<=sp.st.length/\sp.st.length%16=0/\0<=room/\room<=8)->R none 1 v:=λhn=>by
  rw[zA hn]at eE;have:=h0 (by rw[eE];decide) v e;rw[eE]at this;exact this
 have tm:(((sp.st.length:Nat):Int).tmod 16)=((sp.st.length%16:Nat):Int):=by rw[QF (by omega)];simp
 refine JnB.intro (ifD (λc1=>JnB.intro (ifT rfl (JnB.intro (ifT rfl (ifT rfl (bad (by omega))))))) λc1=>nz (by decide) ?_);rw[tm,Wmp];refine JnB.intro (iff_ (λc2=>JnB.intro (ifT rfl (ifT rfl (bad (λh=>by have:=h.2.1;simp[this]at c2))))) λc2=>?_);have c2':sp.st.length%16=0:=by simpa using c2
 refine JnB.intro (ifD (λc3=>ifT rfl (bad (by omega))) λc3=>ifD (λc4=>bad (by omega)) λc4=>?_);obtain⟨rm,rfl⟩:=ze (show 0<=room by omega);rw[zB (by omega)]at eE;have h1:=h1 eE;simp only[iTn]at h1;have hva:=(Z7 xs).1 hv;have hav:=ZX ha e;have hn1:32<=sp.st.length:=by omega
 generalize sp.st.length=n at *;have hlen:s.len=(xs.map Z9).length:=by rw[zh];exact ha.1
 have hcl:∀{σ':Hp} {i:Nat} {c:Cls},Acts σ' s xs->(xs.map Z9)[i]?=some c->xs[i]?=some ((c.size:Int),(c.pages:Int),(c.batch:Int))/\c.ok:=λh hc=>Hm h hv hc;have htb1:1<=(xs.map Z9).length/\(xs.map Z9).length<=40:=by rw[zh];omega
 refine V6 hav hv λtab v5 e5 htab=>Wl4 λv6 op e6 hop hP=>WhR λv7 z7 e7 hm=>?_;generalize htbd:xs.map Z9=tb at *;refine nw (cs:=[.slice tab.a tab.len tab.cap,.pointer (some ⟨hs,0,none⟩),.pointer none,.pointer none,.pointer (some ⟨op,0,none⟩),.slice none 0 0,.slice none 0 0,.map (some v6.size)]) λv8 z8 e8 b8=>?_;refine Go.Bu.New_ok _ (λhb=>absurd ⟨by omega,by omega⟩ hb) λn' hn' _ _ v9 sb ms e9 hB hfp=>?_;have hnn:n=n':=by omega
 subst hnn;have b9:=e9.blk b8 id;refine nilP (b9.s1 (by simp) λv10 o10 b10=>WmC (by omega) (by omega) c2' λv11 tp tq e11 htp htq hTk=>nilP ((e11.blk b10 id).s1 (by simp) λv12 o12 b12=>?_));have s5:=e5.1;have s6:=e6.1;have s9:=e9.1;have s10:=o10.1;have s11:=e11.1;have s12:=o12.1;have hb8:=b8.lt;have x9:Ext (· = v7.size) v9 v12:=(o10.ext.trans (Ext0.to e11)).trans o12.ext;have x5:Ext (· = v7.size) v5 v12:=(Ext0.to (Ext.trans (Ext.trans (Ext.trans e6 e7) e8) e9)).trans x9;have x6:Ext (· = v7.size) v6 v12:=(Ext0.to (Ext.trans (Ext.trans e7 e8) e9)).trans x9;have x7:Ext (· = v7.size) v7 v12:=(Ext0.to (Ext.trans e8 e9)).trans x9;have x11:Ext (· = v7.size) v11 v12:=o12.ext;have p1:=(SlR.loc _ _ _).keep (WeW (SlR.loc _ _ _) htab) x5 λb _ hb hf=>by omega
 have p2:=(PmH.loc (p:=op) (ow:=λ_=>0)).keep (WeW PmH.loc hP) x6 λb _ hb hf=>by omega
 have p3:MapL v12 v6.size .i64 (.i .i64) []:=x7.mapL (hm _ _) (by omega);have p5:Wee v8.size n Go.Bu.emptyS v12 (λb=>v8.size<=b/\b<v9.size):=(Wee.loc _ _ _).keep (WeW (Wee.loc _ _ _) ⟨sb,ms,hB,hfp⟩) x9 λb _ hb hf=>by omega
 have p6:TrkR tp (List.replicate n 0) v12 (λb=>v10.size<=b/\b<v11.size):=(TrkR.loc _ _).keep (WeW (TrkR.loc _ _) ⟨tq,hTk,htp,htq⟩) x11 λb _ hb hf=>by omega
 let Y0:Lay:={p:=v7.size,hs:=hs,fr:=v8.size,tr:=tp,op:=op,rn:=v6.size,tab:=tab,crow:=⟨none,0,0⟩,trow:=⟨none,0,0⟩,cps:=[],tps:=[]}
 have b12':Blk v12 v7.size (hdV Y0):=b12
 let Cf:=ACh (newP n rm tb 0) Y0 (traT (newP n rm tb 0) Y0) (hdV Y0)
 have hCf:∀i,Lcl (Cf i):=ACh.loc λk=>traT.loc k;have q0:Sep (Prt Cf S0) v12 λ_=>False:=Prt.one S0 .hd λi hi=>by
  cases i<;>first|exact hi.elim|exact RowR.nil _ _ _ _|exact trivial
 have q1:=Prt.put hCf q0 .tab (G:=λb=>v.size<=b/\b<v5.size) (λb hb hf=>hf) p1;have q2:=Prt.put hCf q1 .own (G:=λb=>v5.size<=b/\b<v6.size) (λb hb hf=>by
  rcases hf with hf|hf
  ·exact hf
  ·omega) p2
 have q3:=Prt.put hCf q2 .runs (G:=λb=>b=v6.size) (λb hb hf=>by
  rcases hf with(hf|hf)|hf
  ·exact hf
  ·omega
  ·omega) ⟨rfl,p3⟩
 have q4:=Prt.put hCf q3 .hd (G:=λb=>b=v7.size) (λb hb hf=>by
  rcases hf with((hf|hf)|hf)|hf
  ·exact hf
  ·omega
  ·omega
  ·omega) ⟨rfl,b12'⟩
 have q5:=Prt.put hCf q4 .free (G:=λb=>v8.size<=b/\b<v9.size) (λb hb hf=>by
  rcases hf with(((hf|hf)|hf)|hf)|hf
  ·exact hf
  ·omega
  ·omega
  ·omega
  ·omega) p5
 have q6:=Prt.put hCf q5 .trk (G:=λb=>v10.size<=b/\b<v11.size) (λb hb hf=>by
  rcases hf with((((hf|hf)|hf)|hf)|hf)|hf
  ·exact hf
  ·omega
  ·omega
  ·omega
  ·omega
  ·omega) p6
 have q7:Sep Cf v12 λb=>v.size<=b:=by
  refine(Sep.loc hCf).mono (Prt.all q6 λi=>?_) λb _ hf=>?_
  ·cases i<;>simp[S0]
  ·rcases hf with(((((hf|hf)|hf)|hf)|hf)|hf)|hf
   ·exact hf.elim
   ·omega
   ·omega
   ·omega
   ·omega
   ·omega
   ·omega
 have e12:Ext0 v v12:=Ext.fresh e5 x5 λi hi=>by omega
 have szv:=e.1;refine Zx (a:=.i .i64) (λ(t:Int) w=>∃(i:Nat) (Y:Lay),t=(i:Int)/\i<=tb.length/\Y.p=v7.size/\Y.hs=hs/\Y.cps.length=i/\Y.tps.length=i/\Ext0 v w/\Sep (ACh (newP n rm tb i) Y (traT (newP n rm tb i) Y) (hdV Y)) w (λb=>v.size<=b)) (λt _=>tb.length-t.toNat)
  ⟨0,Y0,rfl,by omega,rfl,rfl,rfl,rfl,e12,q7⟩ ?_
 rintro t w ⟨i,Y,rfl,hi,hYp,hYh,hYc,hYt,ew,hsep⟩;refine ifD (λhlt=>?_) λhge=>?_
 ·have hi':i<tb.length:=by omega
  have hc:tb[i]?=some tb[i]:=gGe hi';generalize tb[i]=c at hc;have haw:=ZX hav ew;obtain⟨hxi,hok⟩:=hcl haw hc;refine WbJ haw hxi ?_;refine nw (cs:=[.int .i64 0,.int .i64 0,.int .i64 0]) λv14 hz14 e14 b14=>b14.s1 (by simp) λv15 o15 b15=>b15.s1 (by simp) λv16 o16 b16=>b16.s1 (by simp) λv17 o17 b17=>?_;have e17:Ext0 w v17:=Ext.fresh (Ext.fresh (Ext.fresh e14 o15.ext λi hi=>by omega) o16.ext λi hi=>by omega) o17.ext λi hi=>by omega
  have b17':Blk v17 w.size [.int .i64 (c.size:Int),.int .i64 (c.pages:Int),.int .i64 (c.batch:Int)]:=b17;refine b17'.rI rfl (b17'.rI rfl (b17'.rI rfl (WmO hok λv18 cp e18 hcp1 hcp2 hCe=>?_)));have b18:=e18.blk b17' id;obtain⟨_,_,_,_,_,_,hbt1,hbt2⟩:=id hok;refine b18.rI rfl (WlA hbt1 hbt2 (by omega) λv19 tp2 e19 htp1 htp2 hTf=>Jn.intro ?_);have s14:=e17.1;have s18:=e18.1;have s19:=e19.1;have sw:=ew.1;have hT:∀k,Lcl (traT (newP n rm tb i) Y k):=λk=>traT.loc k;have h19:=chs hT (chs hT (chs hT (WnK hT hsep) e17) e18) e19;have hCe19:=hCe.keep0 e19;rw[←hYp];refine Woa (F:=Cut (λb=>v.size<=b) w) (z:=v.size) (ss:=[]) (t:=⟨0,[]⟩) (λb hb=>⟨hb.1,by have:=hb.2;omega⟩) ⟨hYc,hYt⟩ (by omega) h19 (by simp[newP]) (by simp[newP]) hc hCe19 hTf (λb hb=>?_) (λb hb=>?_) (λb hb hb2=>by omega) λw2 Y' e2 y1 y2 y3 y4 h2=>?_
  ·subst hb;exact⟨λhf=>by have:=hf.2;omega,by omega,by omega⟩
  ·subst hb;exact⟨λhf=>by have:=hf.2;omega,by omega,by omega⟩
  ·rw[Whu]at h2;exact arN (m:=i+1) (by omega) (by omega) ⟨⟨i+1,Y',rfl,by omega,y1,y2.trans hYh,y3,y4,Ext.fresh (Ext.trans (Ext.trans (Ext.trans ew e17) e18) e19) e2 λb hb=>hb.1,h2⟩,by omega⟩
 ·have:i=tb.length:=by omega
  subst this;rw[WkY,WnT]at hsep;have hl:LayOk (newA n rm tb) Y:=Wnu hn1 hn2 c2' (by omega) htb1.1 htb1.2 (λc hc=>by
   obtain⟨j,hj⟩:=zM hc;exact(hcl hav hj).2) hYc hYt
  have:=h1 w Y (Ext.trans e ew) hYh ⟨hl,λk=>traT.loc k,(Sep.loc (AC.loc λk=>traT.loc k)).mono hsep λb _ hb=>zN szv hb⟩;rw[hYp]at this;exact this
end Go.Ar
namespace Go.Vc
open Go
variable {U:Hp}{F:Rg}{s:Sl}{sz:Nat}{xs:List Value}
def RowO (s:Sl)(sz:Nat)(xs:List Value):Hp->Rg->Prop:=λh F=>xs.length=s.len*sz/\(s.len=0/\s.cap=0\/∃b o cs,F b/\s.a=some ⟨b,o,none⟩/\Blk h b cs/\s.len<=s.cap/\cs.length=o+s.cap*sz/\(cs.drop o).take xs.length=xs)
theorem RowO.loc (s:Sl)(sz:Nat)(xs:List Value):Lcl (RowO s sz xs):=λU σ' F G h hz hs=>by
 refine⟨h.1,h.2.imp id ?_⟩;rintro⟨b,o,cs,hq,ha,⟨e,he⟩,r⟩;have:=hs b (Blk.lt ⟨e,he⟩) hq;exact⟨b,o,cs,this.1,ha,⟨e,this.2.trans he⟩,r⟩
theorem RowO.nil (h:Hp)(F:Rg)(sz:Nat)(a:Option Addr):RowO ⟨a,0,0⟩ sz [] h F:=⟨by simp,.inl ⟨rfl,rfl⟩⟩
theorem RowR.o (h:RowR s sz xs U F):RowO s sz xs U F:=⟨h.1,h.2.imp id λ⟨b,cs,hq,ha,hb,hle,hcl,ht⟩=>⟨b,0,cs,hq,ha,hb,hle,by omega,by simpa using ht⟩⟩
theorem RowO.slR (h:RowO s sz xs U F):SlR s sz xs U F:=by
 refine⟨h.1,?_⟩;rcases h.2 with⟨hl,_⟩|⟨b,o,cs,hq,ha,hb,_,_,ht⟩
 ·left;have:=h.1;rw[hl]at this;simpa using this
 ·refine .inr ⟨b,o,cs,hq,ha,hb.q,λj hj=>?_⟩;rw[←ht,zX,zj,zB hj]
theorem RowO.cap (h:RowO s sz xs U F):s.len<=s.cap:=by
 rcases h.2 with⟨q1,q2⟩|⟨_,_,_,_,_,_,q,_⟩
 ·omega
 ·exact q
theorem RowO.app {x:Sl}{bytes e:Nat}{zs ys:List Value}{K:Sl->Hp->Prop}(ho:RowO s sz xs U F)(hz:zs.length=sz)
 (hy:ys.length=x.len*sz) (hr:Rd U x.a ys) (h1:∀v∈ys,one1 v=true) (hb:(s.len+x.len)*bytes<=2^46) (hc:s.len+x.len<=2^62)
 (hx:0<x.len) (hK:∀s' h',s'.len=s.len+x.len->Ext F U h'->RowO s' sz (xs++ys) h' (Grow F U)->K s' h'):App s sz bytes e zs x U K:=by
 refine⟨xs,ys,ho.1,hy,ho.slR.rd,hr,h1,hb,hc,λhin=>?_,λhout c hcc=>?_⟩
 ·rcases ho.2 with⟨hl,hcap⟩|⟨b,o,cs,hQ,ha,hk,hle,hcl,ht⟩
  ·omega
  ·rw[ha];simp only;rw[add_lit];have hm:(s.len+x.len)*sz<=s.cap*sz:=zAD _ hin;rw[zi]at hm;have hxl:=ho.1;refine VX hk (by omega) λh' ho' hb'=>hK _ h' rfl (Ext.of_only ho' hQ) ⟨?_,.inr ⟨b,o,_,.inl hQ,rfl,hb',hin,?_,?_⟩⟩
   ·simp[hxl,hy,zi]
   ·simp;omega
   ·rw[zQ,hxl,zo];have e1:(cs.take (o+s.len*sz)++ys++cs.drop (o+s.len*sz+ys.length)).drop o=(cs.drop o).take (s.len*sz)++(ys++cs.drop (o+s.len*sz+ys.length)):=by
     rw[zt,List.drop_append_of_le_length (by rw[zT];omega),List.drop_take]
     congr 2;omega
    have ht':(cs.drop o).take (s.len*sz)=xs:=by rw[←hxl];exact ht
    rw[e1,ht',←zt,zBQ (by simp;omega),zAX (by simp;omega)]
 ·refine hK _ _ rfl (Ext.push _ _ _) ⟨by simp[ho.1,hy,zi],.inr ⟨U.size,0,xs++ys++(List.replicate (c-(s.len+x.len)) zs).flatten,.inr (zC _),rfl,⟨e,by simp⟩,hcc,?_,?_⟩⟩
  ·simp only[zQ,zED,zDM,zEE,ho.1,hy,hz,←zi];rw[zJ];congr 1;omega
  ·rw[List.drop_zero,zBQ (by simp),zAX (by simp)]
theorem RowO.app0 {x:Sl}{bytes e:Nat}{zs:List Value}{K:Sl->Hp->Prop}(ho:RowO s sz xs U F)(hx:x.len=0)(hb:s.len*bytes<=2^46)(hc:s.len<=2^62)(hK:RowO ⟨s.a,s.len,s.cap⟩ sz xs U F->K ⟨s.a,s.len,s.cap⟩ U):App s sz bytes e zs x U K:=by
 have hcap:=ho.cap;refine⟨xs,[],ho.1,by simp[hx],ho.slR.rd,by cases x.a<;>simp[Rd],by simp,by rw[hx];exact hb,by omega,λhin=>?_,λhout=>absurd (by omega) hout⟩
 rw[hx];have:=hK ho;cases ha:s.a<;>(rw[ha]at this;exact this)
theorem RowO.from (h:RowO s sz xs U F){lo:Nat}(h1:lo<=s.len):RowO ⟨if s.cap=lo then s.a else s.a.map (·.add (lo*sz)),s.len-lo,s.cap-lo⟩ sz (xs.drop (lo*sz)) U F:=by
 have hl:=h.1;refine⟨by rw[zl,hl,Nat.sub_mul],?_⟩;rcases h.2 with⟨q1,q2⟩|⟨b,o,cs,hq,ha,hb,hle,hcl,ht⟩
 ·left;simp only;omega
 ·by_cases hm:s.cap=lo
  ·left;simp only;omega
  ·refine .inr ⟨b,o+lo*sz,cs,hq,by simp only[zA hm,ha,zc,add_lit],hb,by simp only;omega,?_,?_⟩
   ·have:lo*sz<=s.cap*sz:=zAD _ (by omega);rw[hcl,Nat.sub_mul];omega
   ·rw[zl]
    conv=>rhs;rw[←ht]
    rw[List.drop_take,List.drop_drop]
end Go.Vc