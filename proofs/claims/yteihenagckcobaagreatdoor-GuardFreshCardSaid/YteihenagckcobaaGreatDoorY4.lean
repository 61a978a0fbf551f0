/- Texts joined. -/
import Derived.Test.YteihenagckcobaaGreatDoorY3
set_option linter.unusedVariables false
set_option linter.unusedSimpArgs false
namespace Go.Bu
open Go Go.Vc Go.Proofs
variable {U:Hp}{p n sb:Nat}{S:Nat->Bool}{ms:List Nat}
def kv (ms:List Nat):List Value:=ms.map λm=>Value.map (some m)
structure Part (B:Nat) (h:Hp) (p n:Nat) (j:Nat) (s:Sl) (ms:List Nat):Prop where
 len:ms.length=j
 sl:s.len=j
 hd:bY h p [.int .i64 n,.slice s.a s.len s.cap]
 own:Go.Vc.Own (λb=>B<=b/\b≠p/\b∉ms) h s 1 (kv ms)
 new:∀m∈ms,B<=m/\m≠p/\m<h.size
 nd:ms.Nodup
theorem Part.done {B:Nat}{h:Hp}{j:Nat}{s:Sl}(hp:Part B h p n j s ms)(hB:B<=p)(hj:0<j)(n1:1<=n)(n2:n<=1024)(lo:2^j<=2*n)(hi:n<2^j)(jo:Bounded S n)
 (maps:∀k m,ms[k]?=some m->∃B:List (Int×Bool),dL h m .i64 .b B/\Keys S k B):∃sb,BH h p n S sb ms/\∀b,fp p sb ms b->B<=b:=by
 rcases hp.own.2 with⟨_,hl,_⟩|⟨sb,cs,⟨hq,hqp,hqm⟩,ha,hb,hle,hcl,ht⟩
 ·have:=hp.sl;omega
 ·refine⟨sb,⟨?_,?_,maps,?_,n1,n2,?_,?_,jo⟩,?_⟩
  ·refine⟨s.cap,?_⟩;have:=hp.hd;rw[ha,hp.sl,←hp.len]at this;exact this
  ·refine⟨cs.drop (kv ms).length,?_⟩;have:kv ms++cs.drop (kv ms).length=cs:=by
    conv=>lhs;lhs;rw[←ht]
    exact nu _ _
   show bY h sb (kv ms++_);rw[this];exact hb
  ·simp only[zr,zW,not_or];exact⟨⟨λe=>hqp e.symm,λa=>(hp.new p a).2.1 rfl⟩,hqm,hp.nd⟩
  ·rw[hp.len];exact lo
  ·rw[hp.len];exact hi
  ·intro b hb;simp only[fp,zW]at hb;rcases hb with rfl|rfl|h
   ·exact hB
   ·exact hq
   ·exact(hp.new b h).1
theorem Part.LX {B:Nat}{h:Hp}{j:Nat}{s:Sl}(hp:Part B h p n j s ms):cell h ⟨p,1,none⟩=some (.slice s.a s.len s.cap):=by rw[hp.hd.cell];rfl
theorem Part.bO {B:Nat}{h h':Hp}{j:Nat}{s:Sl}(hp:Part B h p n j s ms)(e:bK h h'):Part B h' p n j s ms:=
 ⟨hp.len,hp.sl,e.bT hp.hd id,hp.own.bO e,λm a=>⟨(hp.new m a).1,(hp.new m a).2.1,tJ (hp.new m a).2.2 e.1⟩,hp.nd⟩
theorem Part.step {B:Nat}{h:Hp}{j m e t bytes:Nat}{s:Sl}{zs:List Value}{K:Sl->Hp->Prop}(hp:Part B h p n j s ms)(hj:j<=1000)(hbt:bytes<=1000)(hz:zs.length=1)(hm:B<=m)(hmp:m≠p)(hml:m<h.size)(hmn:m∉ms)(hms:¬UN s m)
 (hpB:p<h.size) (hBh:B<=h.size)
 (hgo:∀s' h',Ext (UN s) h h'->s'.len=j+1->bY h' p [.int .i64 n,.slice s.a s.len s.cap] →
  (∀h2,Qk h' h2 p->bY h2 p [.int .i64 n,.slice s'.a s'.len s'.cap]->Part B h2 p n (j+1) s' (ms++[m]))->K s' h') :
 App s 1 bytes e zs ⟨some ⟨h.size,0,none⟩,1,1⟩ (h.push (.cells #[.map (some m)] t (0,0))) K:=by
 have L:=hp.sl;have u:Go.Vc.Own (λb=>B<=b/\b≠p/\b∉ms++[m]) (h.push (.cells #[.map (some m)] t (0,0))) s 1 (kv ms):=by
  have d:=hp.own;have h2:Go.Vc.Own (λb=>B<=b/\b≠p/\b∉ms++[m]) h s 1 (kv ms):=by
   refine⟨d.1,d.2.imp id ?_⟩;rintro⟨b,cs,⟨q1,q2,q3⟩,ha,r⟩;refine⟨b,cs,⟨q1,q2,?_⟩,ha,r⟩;simp only[zK,zN,not_or];exact⟨q3,λe=>hms ⟨0,by rw[ha,e]⟩⟩
  exact h2.bO (U3 _ _)
 have A:(h.push (.cells #[.map (some m)] t (0,0))).size=h.size+1:=by simp
 refine u.app (ys:=[.map (some m)]) ?_ hz rfl J7 (by simp[dQ]) ?_ ?_ mG λs' h' D G E H=>?_
 ·intro b i;rw[A]at i;refine⟨O,O,?_⟩;simp only[zK,zN,not_or];exact⟨λw=>by have:=(hp.new b w).2.2;omega,O⟩
 ·simp only;have:(s.len+1)*bytes<=1001*1000:=lR O hbt;omega
 ·simp only;omega
 ·simp only at D;have g:Ext (UN s) h h':=(U3 h _).to.trans G;have C:¬UN s p:=λi=>(hp.own.jd i).1.2.1 rfl;refine hgo s' h' g O (g.bT hp.hd C) λh2 y z=>⟨by simp[hp.len],O,z,?_,?_,?_⟩
  ·have:kv (ms++[m])=kv ms++[.map (some m)]:=by simp[kv]
   rw[this];exact E.bR (Ext.eM (F:=(· = p)) y rfl) (λb M _ J=>M.2.1 J)
  ·intro x hx;have N:h2.size=h'.size:=y.1;have:=g.1;rcases zK.1 hx with d|d
   ·have:=hp.new x d;exact⟨this.1,this.2.1,O⟩
   ·simp at d;subst d;exact⟨hm,hmp,O⟩
  ·rw[nt];refine⟨hp.nd,by simp,?_⟩;intro a ha b i;simp at i;subst i;rintro rfl;exact hmn ha
def ir:Nat->Bool:=λ_=>false
theorem JX (k:Nat):Keys ir k []:=by
 refine⟨by simp,λq a=>?_⟩;have:=VJ a (Kw k q);simp[ir]at this
theorem rY (aF:Int){R:Option Addr->Int->Hp->Prop}(hbad:¬(1<=aF/\aF<=1024)->R none 1 U)
 (hR:∀(n:Nat),aF=(n:Int)->1<=n->n<=1024->∀σ' sb ms,bK U σ'->BH σ' U.size n ir sb ms->(∀b,fp U.size sb ms b->U.size<=b)->R (some ⟨U.size,0,none⟩) 0 σ'):QJ.c aF U R:=by
 refine QJ.o ?_;unfold QJ.v;refine bV.intro (cQ (λg=>cD rfl (hbad O)) λg=>?_);refine cQ (λh2=>hbad O) λh2=>?_;obtain⟨n,rfl⟩:=za (show 0<=aF by omega);have M:1<=n:=by omega
 have N:n<=1024:=by omega
 unfold Nw;have e0:=U3 U (.cells #[.int .i64 (n:Int),.slice none 0 0] 52 (0,0));refine ZS (a:=bN) (λt h=>∃(j:Nat) (s:Sl) (ms:List Nat),t=((2^j:Nat):Int)/\2^j<=2*n/\bK U h/\U.size<h.size/\Part U.size h U.size n j s ms/\∀m∈ms,dL h m .i64 .b []) (λt _=>2*n+1-t.toNat)
  ⟨0,⟨none,0,0⟩,[],rfl,by simp;omega,Ext.push _ _ _,by simp,⟨rfl,rfl,bY.push _ _ _,Own.nil _ _ _,by simp,by simp⟩,by simp⟩ ?_
 rintro t h ⟨j,s,ms,rfl,C,L,P,d,w⟩;have hj:j<=11:=by
  apply Classical.byContradiction;intro hc;have:2^12<=2^j:=oe aB O;omega
 have hpj:=kF j;refine cQ (λV=>?_) (λJ=>?_)
 ·refine aG ?_;rw[add_lit,zH];refine nq d.LX ?_;have e1:=U3 h (.map #[] 0);have Q:(h.push (.map #[] 0)).size=h.size+1:=by simp
  have H:=d.bO e1;refine H.step (m:=h.size) O O rfl O O O (λy=>by have:=(d.new _ y).2.2;omega) (λu=>by have:=(d.own.jd u).2;omega) O O λZ h' B hl u r=>?_;refine aG (u.Jy aA λh2 z A=>?_);have G:=r h2 z A;have K:bK U h2:=by
   refine Ext.fresh (Ext.fresh (L.trans e1) B λi D=>(d.own.jd D).1.1) (Ext.eM (F:=(· = U.size)) z rfl) λi D=>?_;rw[D];exact zD _
  refine cP (m:=2^(j+1)) (by rw[lW];omega) (by rw[lW];omega) ⟨⟨j+1,Z,ms++[h.size],rfl,by rw[lW];omega,K,?_,G,?_⟩,by rw[lW];omega⟩
  ·have:=z.1;have:=B.1;omega
  ·intro m y;have GY:∀{m:Nat},dL (h.push (.map #[] 0)) m .i64 .b []->¬UN s m->m≠U.size->dL h2 m .i64 .b []:=λW hn E=>U4 z (B.fR W hn) E;rcases zK.1 y with g|g
   ·exact GY (e1.fR (w m g) id) (λu=>(d.own.jd u).1.2.2 g) (d.new m g).2.1
   ·simp at g;subst g;exact GY (dL.push _ _ _) (λu=>by have:=(d.own.jd u).2;omega) O
 ·have p:0<j:=by
   rcases BI j with e|e
   ·subst e;simp at J;omega
   ·exact e
  obtain⟨sb,X,Y⟩:=d.done (S:=ir) (zD _) p M N C O (λx hx=>by simp[ir]at hx) λk m y=>⟨[],w m (zG y),JX k⟩;exact hR n rfl M N h sb ms L X Y
end Go.Bu
namespace Go.Proofs
open Go.Vc
set_option maxRecDepth 100000
def W7.h:Hn:=.q .o1 (.q (.cR (.seq [.op,.op,.op,.cU true 5 (RI.ops 5),.op])) .l)
def W7.v (a:R2)(b:Hp)(c:aO):Prop:=bV (λd e=>c d e) λf=>If (!a.isNone) (bF a 1 b λh=>f (!h.isNone) b) (f false b)
theorem W7.o {a b c}(d:W7.v a b c):W7.c a b c:=Wa Tryz.func111 (x:=W7.h) (R0 d)
def QK.h:Hn:=.q .o2 (.q (.q .o3 .aJ) (.q .o3 (.q (.q (.cR (.seq [.op,.op,.op,.cU false 3 (RI.ops 3),.op,.cU false 2 [.op,.op],.op,.cU false 2 [.op,.op]])) .aJ) (.q .o8 (.q .o9 (.q .o9 (.q (.q .o3 (.k (.loop [(61,.I)] (.q .o1 (.q (.c .l .l) (.q (.k (.q .o4 (.q .o7 (.q .o9 (.cR (.hO true [18,21] [] (.tk [0,1,2,3,4,5,6,9,10,11,12,13] (.all [(7,.all [(8,.all [(14,.all [(15,.take 16 (.take 17 (.all [(18,.take 19 (.take 20 (.all [(21,.done)])))])))])]),(14,.all [(8,.all [(15,.take 16 (.take 17 (.all [(18,.take 19 (.take 20 (.all [(21,.done)])))])))])])]),(14,.all [(7,.all [(8,.all [(15,.take 16 (.take 17 (.all [(18,.take 19 (.take 20 (.all [(21,.done)])))])))])])])])))))))) .o2)))))) (.q .o3 .l))))))))
def QK.v (a:Sl)(b:R2)(c:Int)(d:Hp)(e:Option Addr->Int->Hp->Prop):Prop:=Zs.c a d λf g=>If (!f) (e none 2 g) (XB.c b g λh i=>bV (λj k=>bV (λl m=>bV (λn o=>If n (e none 1 o) (Wi.c a o λp q=>Z0.c q λr s=>Nw (.map #[] 0) s λt u=>aV #[.slice p.a p.len p.cap,.pointer b,.pointer none,.pointer none,.pointer r,.slice none 0 0,.slice none 0 0,.map (some t.block)] 179 u λv w=>QJ.c h w λx y z=>bU (some v) λaa=>aR aa 2 (.pointer x) z λab=>Km.c h ab λac ad ae=>bU (some v) λaf=>aR af 3 (.pointer ac) ae λag=>Yp [bN] (λah=>ah 0 ag) λai (aj:Int) ak=>If (aj<((a.len:Nat):Int)) (Ix a.a a.len aj 3 λal=>aQ al 0 ak λam=>aQ al 1 ak λan=>aQ al 2 ak λao=>aV #[.I 0,.I 0,.I 0] 137 ak λap aq=>aR ap 0 (.I am) aq λar=>aR ap 1 (.I an) ar λau=>aR ap 2 (.I ao) au λav=>aQ ap 0 av λaw=>aQ ap 1 av λax=>aQ ap 2 av λay=>Z2.c aw ax ay av λaz a0 a1=>aQ ap 2 a1 λa2=>ZJ.c a2 c a1 λa3 a4 a5=>Jn [] (λa6=>bL (aj+1) λa7=>ai a7 a6) λa8=>eO a5 λa9=>bU (some v) λba=>aT a9 ba 5 λbb=>bU (some v) λbc=>aT a9 bc 6 λbd=>(aV #[.pointer az] 182 a5 λbe bf=>And (a9 bf) <| (App bb 1 8 182 [.pointer none] ⟨some be,1,1⟩ bf λbg bh=>And (a9 bh) <| aV #[.pointer a3] 184 bh λbi bj=>And (a9 bj) <| App bd 1 8 184 [.pointer none] ⟨some bi,1,1⟩ bj λbk bl=>And (a9 bl) <|
 bU (some v) λbm=>aR bm 5 (.slice bg.a bg.len bg.cap) bl λbn=>bU (some v) λbo=>aR bo 6 (.slice bk.a bk.len bk.cap) bn λbp=>a8 bp) ∧ (aV #[.pointer a3] 184 bf λbq br=>And (a9 br) <| App bb 1 8 182 [.pointer none] ⟨some be,1,1⟩ br λbs bt=>And (a9 bt) <| App bd 1 8 184 [.pointer none] ⟨some bq,1,1⟩ bt λbu bv=>And (a9 bv) <| bU (some v) λbw=>aR bw 5 (.slice bs.a bs.len bs.cap) bv λbx=>bU (some v) λbz=>aR bz 6 (.slice bu.a bu.len bu.cap) bx λb0=>a8 b0)) ∧ (aV #[.pointer a3] 184 a5 λb1 b2=>And (a9 b2) <| aV #[.pointer az] 182 b2 λb3 b4=>And (a9 b4) <| App bb 1 8 182 [.pointer none] ⟨some b3,1,1⟩ b4 λb5 b6=>And (a9 b6) <| App bd 1 8 184 [.pointer none] ⟨some b1,1,1⟩ b6 λb7 b8=>And (a9 b8) <| bU (some v) λb9=>aR b9 5 (.slice b5.a b5.len b5.cap) b8 λca=>bU (some v) λcb=>aR cb 6 (.slice b7.a b7.len b7.cap) ca λcc=>a8 cc)) (e (some v) 0 ak))) λcd=>If l (cd true m) (cd (decide (c>8)) m)) λce=>If j (ce true k) (ce (decide (c<0)) k)) λcf=>If (h<32) (cf true i) (Nz 16 <| cf ((h.tmod 16) != 0) i))
theorem QK.o {a b c d e}(f:QK.v a b c d e):QK.c a b c d e:=Wa Tryz.func143 (x:=QK.h) (R0 f)
def Wz.h:Hn:=.q .o2 (.q (.q .o4 (.q .o2 (.c (.q .o3 .l) .l))) (.q (.o 12) .l))
def Wz.v (a:R2)(b:Int)(c:Hp)(d:Sl->Int->Hp->Prop):Prop:=WQ.c a b c λe f=>If (e != 0) (d ⟨none,0,0⟩ e f) (bE a 6 f λh=>Ix h.a h.len b 1 λi=>fU i f λj=>WA.c j f λk l m=>d k l m)
theorem Wz.o {a b c d}(e:Wz.v a b c d):Wz.c a b c d:=Wa Tryz.func150 (x:=Wz.h) (R0 e)
def WB.h:Hn:=.q .o2 (.q (.q .o4 (.q .o2 (.c (.q .o3 .l) .l))) (.q (.o 13) .l))
def WB.v (a:R2)(b c:Int)(d:Hp)(e:Sl->Int->Hp->Prop):Prop:=WQ.c a b d λf g=>If (f != 0) (e ⟨none,0,0⟩ f g) (bE a 5 g λi=>Ix i.a i.len b 1 λj=>fU j g λk=>W4.c k c g λl m n=>e l m n)
theorem WB.o {a b c d e}(f:WB.v a b c d e):WB.c a b c d e:=Wa Tryz.func152 (x:=WB.h) (R0 f)
def X5.h:Hn:=.q .o1 (.q (.q .o4 (.q .o2 .aJ)) (.q (.o 17) (.q (.q .o2 .aJ) (.q .gQ .l))))
def X5.v (a:R2)(b:Int)(c:Hp)(d:aN):Prop:=WQ.c a b c λe f=>If (e != 0) (d e f) (bE a 0 f λh=>Ix h.a h.len b 3 λi=>aQ i 1 f λj=>bL (b+1) λk=>YB.c a j 1 k f λl m n=>If (m != 0) (d m n) (bE a 5 n λp=>Ix p.a p.len b 1 λq=>fU q n λr=>YC.c r l n λs t=>d s t))
theorem X5.o {a b c d}(e:X5.v a b c d):X5.c a b c d:=Wa Tryz.func153 (x:=X5.h) (R0 e)
def WJ.h:Hn:=.q .o2 (.q (.k (.q .o4 (.c .aL (.q (.cR (.seq [.op,.op,.op,.cU false 2 [.op,.op],.op,.cU false 2 [.op,.op],.op,.cU false 2 [.op,.op],.op,.cU false 5 (RI.ops 5),.op])) .aJ)))) (.q .o9 (.q (.q .o2 (.c (.q .o3 .l) .l)) (.q .o7 (.q .o3 .l)))))
def WJ.v (a:R2)(b c:Int)(d:Hp)(e:Int->Int->Hp->Prop):Prop:=W7.c a d λf g=>If (!f) (e 0 5 g) (bV (λh i=>bV (λj k=>bV (λl m=>bV (λn o=>If n (e 0 1 o) (YB.c a b c 41 o λp q r=>If (q != 0) (e 0 q r) (bI a 7 r λt=>kc .i64 bN t p b r λu=>e p 0 u))) λv=>If l (v true m) (bL (c-1) λw=>v ((bits .and .i64 c w) != 0) m)) λx=>If j (x true k) (x (decide (c>16)) k)) λy=>If h (y true i) (y (decide (c<1)) i)) λz=>If (b<1) (z true g) (z (decide (b>64)) g))
theorem WJ.o {a b c d e}(f:WJ.v a b c d e):WJ.c a b c d e:=Wa Tryz.func155 (x:=WJ.h) (R0 f)
def WK.h:Hn:=.q .o1 (.q (.q .o3 .aK) (.q (.o 11) (.q (.q .o2 .aK) (.q .o6 (.q .o6 .aM)))))
def WK.v (a:R2)(b:Int)(c:Hp)(d:aN):Prop:=W7.c a c λe f=>If (!e) (d 5 f) (bI a 7 f λh=>Lk .i64 bN h b f λi=>If (!i.isSome) (d 8 f) (bI a 7 f λk=>lJ .i64 bN k b f λl=>aV #[.I b,.I (i.getD 0)] 251 l λm n=>XV.c a ⟨some m,1,1⟩ n λo=>d 0 o))
theorem WK.o {a b c d}(e:WK.v a b c d):WK.c a b c d:=Wa Tryz.func163 (x:=WK.h) (R0 e)
def XV.h:Hn:=.q .o3 (.k (.loop [(8,.I)] (.q .o1 (.q (.c .l .l) (.q (.k (.q .o4 (.q (.cR (.tail 8 (RI.ops 8) [.op])) (.q (.cR (.tail 8 (RI.ops 8) [.op])) (.cR (.tail 8 (RI.ops 8) [.op])))))) .o2)))))
def XV.v (a:R2)(b:Sl)(c:Hp)(d:aP):Prop:=Yp [bN] (λe=>e 0 c) λf (g:Int) h=>If (g<((b.len:Nat):Int)) (Ix b.a b.len g 2 λi=>aQ i 0 h λj=>aQ i 1 h λk=>aV #[.I 0,.I 0] 251 h λl m=>aR l 0 (.I j) m λn=>aR l 1 (.I k) n λo=>bF a 4 o λq=>aQ l 0 o λr=>aQ l 1 o λs=>XD.c q r s o λt u=>bF a 3 u λw=>aQ l 0 u λx=>aQ l 1 u λy=>Xl.c w x y u λz aa=>bF a 2 aa λac=>aQ l 0 aa λad=>aQ l 1 aa λae=>X0.c ac ad ae aa λaf ag=>bL (g+1) λah=>f ah ag) (d h)
theorem XV.o {a b c d}(e:XV.v a b c d):XV.c a b c d:=Wa Tryz.func165 (x:=XV.h) (R0 e)
def WM.h:Hn:=.q .o1 (.q (.q .o4 (.q .o2 .aJ)) (.q (.o 14) (.q (.q .o2 .aJ) (.q .o3 .aM))))
def WM.v (a:R2)(b:Int)(c:Sl)(d:Hp)(e:aN):Prop:=WQ.c a b d λf g=>If (f != 0) (e f g) (bE a 5 g λi=>Ix i.a i.len b 1 λj=>fU j g λk=>YG.c k c g λl m n=>If (m != 0) (e m n) (XV.c a l n λo=>e 0 o))
theorem WM.o {a b c d e}(f:WM.v a b c d e):WM.c a b c d e:=Wa Tryz.func175 (x:=WM.h) (R0 f)
def WQ.h:Hn:=.q .o1 (.q (.k (.q .o4 (.c .aM (.q (.cR (.seq [.op,.op,.op,.cU false 7 (RI.ops 7),.op])) .aK)))) .aM)
def WQ.v (a:R2)(b:Int)(c:Hp)(d:aN):Prop:=W7.c a c λe f=>If (!e) (d 5 f) (bV (λg h=>If g (d 1 h) (d 0 h)) λi=>If (b<0) (i true f) (bE a 0 f λk=>i (decide (b≥((k.len:Nat):Int))) f))
theorem WQ.o {a b c d}(e:WQ.v a b c d):WQ.c a b c d:=Wa Tryz.func206 (x:=WQ.h) (R0 e)
def YB.h:Hn:=.q .o2 (.q (.o 12) (.kr [(10,.I),(11,.I)] (.q .o2 (.c (.q .o1 (.q (.k (.loop [(12,.I)] (.q (.q .o5 (.c .l .l)) (.k .o3)))) (.q (.q .o4 .aJ) (.o 12)))) .l)) (.q (.q .o2 (.c (.q .o3 .l) .l)) (.q .o7 (.q .o8 (.q .o3 .l))))))
def YB.v (a:R2)(b c d:Int)(e:Hp)(f:Int->Int->Hp->Prop):Prop:=bF a 2 e λh=>XC.c h b c e λi j k=>Jn [bN,bN] (λ(l:Int) (m:Int) n=>If (m != 0) (f 0 m n) (bF a 3 n λp=>Xv.c p l b n λq r=>bF a 4 r λt=>XU.c t l b d r λu v=>f l 0 v)) λw=>If (j==6) (Yp [bN] (λx=>x 16 k) λy (z:Int) aa=>If (z<(if c>b then c else b)) (bL (z*2) λab=>y ab aa) (YD.c a z aa λac ad=>If (!ac) (f 0 6 ad) (bF a 2 ad λaf=>XC.c af b c ad λag ah ai=>w ag ah ai))) (w i j k)
theorem YB.o {a b c d e f}(g:YB.v a b c d e f):YB.c a b c d e f:=Wa Tryz.func209 (x:=YB.h) (R0 g)
def YE.h:Hn:=.q .o3 (.q (.q .o3 (.c (.q .o3 .l) .l)) (.q (.q .o2 (.c (.q .o3 .l) .l)) (.q .o8 (.q (.q .o2 (.c (.q .o3 .l) .l)) (.kr [] (.q .o2 (.c (.q .o5 (.k (.loop [] (.q (.cR (.seq [.it .i64 bN,.op])) (.q (.c .l .l) (.k (.q (.cR (.seq [.it .i64 bN,.op,.op,.op,.op])) (.q .o3 (.q (.cR (.seq [.op,.op,.op,.op,.cU true 5 (RI.ops 5)])) (.c (.q .o5 .l) .l)))))))))) .l)) (.q (.o 15) (.q (.q .o2 (.c (.q .o4 .l) .l)) (.q .o6 .l))))))))
def YE.v (a:R2)(b:Int)(c:Hp)(d:Int->Int->Int->Hp->Prop):Prop:=W7.c a c λe f=>If (!e) (d 0 0 5 f) (If (b<0) (d 0 0 8 f) (bF a 4 f λh=>Nz 256<|bL (b.tdiv 256) λi=>Y7.c h i f λj k=>If (j==0) (d 0 0 8 k) (Jn [] (λl=>bE a 5 l λn=>bL (j-1) λo=>Ix n.a n.len o 1 λp=>fU p l λq=>Ye.c q b l λr s t=>If (s != 0) (d 0 0 s t) (bL (j-1) λu=>d u r 0 t)) λv=>If (j==41) (bI a 7 k λx=>nC .i64 bN x k λy z=>Yp [] (λaa=>aa z) λab ac=>nF .i64 bN y ac (v ac) (λad ae af=>nJ .i64 bN y af λag ah=>Nz 256<|bL (b.tdiv 256) λai=>bV (λaj ak=>If aj (bL (ag*256) λal=>d (-1) al 0 ak) (ab ak)) λam=>If (ag<=ai) (bL (ag+ah) λan=>am (decide (ai<an)) af) (am false af))) (v k))))
theorem YE.o {a b c d}(e:YE.v a b c d):YE.c a b c d:=Wa Tryz.func213 (x:=YE.h) (R0 e)
def WE.h:Hn:=.q .o2 (.q (.q .o4 (.q .o2 (.c (.q .o3 .l) .l))) (.q (.q (.o 11) .aJ) (.q (.q .o3 (.k (.loop [(32,.I)] (.q .o1 (.q (.c .l .l) (.q (.k (.q .o3 (.q (.o 14) (.q (.cR (.seq [.op,.op,.op,.cU false 2 [.op,.op]])) .aJ)))) .o2)))))) (.q (.o 13) .l))))
def WE.v (a:R2)(b:Int)(c:Sl)(d:Hp)(e:Bool->Int->Hp->Prop):Prop:=WQ.c a b d λf g=>If (f != 0) (e false f g) (bE a 0 g λi=>Ix i.a i.len b 3 λj=>aQ j 2 g λk=>If (((c.len:Nat):Int) != k) (e false 1 g) (Yp [bN] (λl=>l 0 g) λm (n:Int) o=>If (n<((c.len:Nat):Int)) (Ix c.a c.len n 1 λp=>bM p o λq=>bE a 5 o λs=>Ix s.a s.len b 1 λt=>fU t o λu=>WX.c u q o λv w x=>bV (λy z=>If y (e false 8 z) (bL (n+1) λaa=>m aa z)) λab=>If (w != 0) (ab true x) (ab (!v) x)) (bE a 6 o λad=>Ix ad.a ad.len b 1 λae=>fU ae o λaf=>W0.c af c o λag ah ai=>e ag ah ai)))
theorem WE.o {a b c d e}(f:WE.v a b c d e):WE.c a b c d e:=Wa Tryz.func217 (x:=WE.h) (R0 f)
def YK.h:Hn:=.q .o1 (.q (.cR (.seq [.op,.op,.op,.cU true 7 (RI.ops 7),.op])) .l)
def YK.v (a:R2)(b:Int)(c:Hp)(d:aO):Prop:=W7.c a c λe f=>bV (λg h=>d g h) λi=>If e (bF a 3 f λk=>XN.c k b f λl m=>i (decide (l>0)) m) (i false f)
theorem YK.o {a b c d}(e:YK.v a b c d):YK.c a b c d:=Wa Tryz.func251 (x:=YK.h) (R0 e)
def YD.h:Hn:=.q .o1 (.q (.q .o2 (.k (.loop [(5,.I)] (.q (.q .o9 (.c .l .l)) (.q (.k (.q (.q .o8 (.c .l .l)) (.q (.q .o3 (.k (.loop [(6,.I)] (.q (.q .o6 (.c .l .l)) (.q (.k .o6) .o3))))) (.q .o7 .aM)))) .o4))))) .aM)
def YD.v (a:R2)(b:Int)(c:Hp)(d:aO):Prop:=Yp [bN] (λe=>e b c) λf (g:Int) h=>bL (g+b) λi=>bF a 1 h λk=>XB.c k h λl m=>If (i<=l) (bF a 1 m λo=>YU.c o g b m λp q=>If (p != 0) (bL (g+b) λr=>f r q) (Nz 16<|bL (g.tdiv 16) λs=>Yp [bN] (λt=>t s q) λu (v:Int) w=>bL (g+b) λx=>Nz 16<|bL (x.tdiv 16) λy=>If (v<y) (bF a 3 w λaa=>XS.c aa v w λab ac=>bL (v+1) λad=>u ad ac) (bF a 2 w λaf=>X0.c af g b w λag ah=>d true ah))) (d false m)
theorem YD.o {a b c d}(e:YD.v a b c d):YD.c a b c d:=Wa Tryz.func254 (x:=YD.h) (R0 e)
end Go.Proofs
namespace Go.Ar
open Go Go.Vc Go.Proofs
open Go.Bu (Zb Qx Y8)
inductive Lb where
 | hd|dC|free|nA|own|dN|cN|runs
 | cE (k:Nat)
 | cM (k:Nat)
 deriving DecidableEq
structure Lay where
 p:Nat
 hs:Nat
 fr:Nat
 tr:Nat
 op:Nat
 rn:Nat
 dC:Sl
 dN:Sl
 cN:Sl
 fH:List Nat
 fV:List Nat
def kA (Y:Lay):List Value:=[.slice Y.dC.a Y.dC.len Y.dC.cap,.pointer (some ⟨Y.hs,0,none⟩),.pointer (some ⟨Y.fr,0,none⟩),.pointer (some ⟨Y.tr,0,none⟩),.pointer (some ⟨Y.op,0,none⟩),.slice Y.dN.a Y.dN.len Y.dN.cap,.slice Y.cN.a Y.cN.len Y.cN.cap,.map (some Y.rn)]
def fZ (tb:List bZ):List Value:=tb.flatMap λc=>[.int .i64 (c.size:Int),.int .i64 (c.aF:Int),.int .i64 (c.batch:Int)]
def fM (l:List Nat):List Value:=l.map λb=>.pointer (some ⟨b,0,none⟩)
def iD (l:List (Nat×Nat)):List (Int×Int):=l.map λr=>((r.1:Int),(r.2:Int))
def sI (p n:Nat)(S:Nat->Bool):Hp->Rg->Prop:=λU F=>∃sb ms,Go.Bu.BH U p n S sb ms/\∀b,Go.Bu.fp p sb ms b->F b
def l8 (p:Nat)(st:List Nat):Hp->Rg->Prop:=λU F=>∃q,ia U p q st/\F p/\F q
def jV (p:Option Nat)(c:Option bZ)(ss:Option (List cG)):Hp->Rg->Prop:=λU F=>match p,c,ss with
 | some p,some c,some ss=>∃ps,fD U F p c ps ss
 | _,_,_=>True
def kM (p:Option Nat)(c:Option bZ)(room:Nat)(t:Option gE):Hp->Rg->Prop:=λU F=>match p,c,t with
 | some p,some c,some t=>jk U F p c.batch room t
 | _,_,_=>True
def AC (A:AR)(Y:Lay)(T:Nat->Hp->Rg->Prop):Lb->Hp->Rg->Prop
 | .hd=>iq Y.p (kA Y)
 | .dC=>cX Y.dC 3 (fZ A.tb)
 | .free=>sI Y.fr A.n A.S
 | .nA=>l8 Y.tr A.st
 | .own=>λU F=>iZ U F Y.op A.ow
 | .dN=>bS Y.dN 1 (fM Y.fH)
 | .cN=>bS Y.cN 1 (fM Y.fV)
 | .runs=>jA Y.rn .i64 bN (iD A.runs)
 | .cE k=>jV Y.fH[k]? A.tb[k]? A.cE[k]?
 | .cM k=>T k
def cK (A:AR)(Y:Lay)(k:Nat):Hp->Rg->Prop:=kM Y.fV[k]? A.tb[k]? A.room A.cM[k]?
theorem sI.loc (p n:Nat)(S:Nat->Bool):dM (sI p n S):=by
 rintro U σ' F G ⟨d,i,h,s⟩ u r;have j:∀b,Go.Bu.fp p d i b->b<U.size:=λb a=>by
  unfold Go.Bu.fp at a;rcases zW.1 a with h1|h1
  ·obtain⟨c,g⟩:=h.hd;rw[h1];exact g.lt
  rcases zW.1 h1 with h2|h2
  ·obtain⟨c,g⟩:=h.row;rw[h2];exact g.lt
  ·obtain⟨k,w⟩:=zQ h2;obtain⟨B,y,_⟩:=h.maps k b w;exact y.lt
 have e:Ext (λb=>¬Go.Bu.fp p d i b) U σ':=⟨u,λb a m=>(r b a (s b (Classical.not_not.1 m))).2⟩;exact⟨d,i,h.bR e λb a x=>x a,λb a=>(r b (j b a) (s b a)).1⟩
theorem l8.loc (p:Nat)(st:List Nat):dM (l8 p st):=by
 rintro U σ' F G ⟨q,h,i,j⟩ r a;have e:Ext (λb=>b≠p/\b≠q) U σ':=⟨r,λb m s=>by
  by_cases h1:b=p
  ·subst h1;exact(a b m i).2
  ·have d:b=q:=Classical.byContradiction λd=>s ⟨h1,d⟩;subst d;exact(a b m j).2⟩
 exact⟨q,h.bR e (λg=>g.1 rfl) (λg=>g.2 rfl),(a p h.lt.1 i).1,(a q h.lt.2 j).1⟩
theorem jV.loc (p:Option Nat)(c:Option bZ)(ss:Option (List cG)):dM (jV p c ss):=by
 rintro U e F G h a b;unfold jV at *;split
 ·simp only at h;obtain⟨d,h⟩:=h;exact⟨d,fD.loc _ _ _ _ h a b⟩
 ·trivial
theorem kM.loc (p:Option Nat)(c:Option bZ)(room:Nat)(t:Option gE):dM (kM p c room t):=by
 rintro U d F G h a b;unfold kM at *;split
 ·exact jk.loc _ _ _ _ h a b
 ·trivial
theorem AC.loc {A:AR}{Y:Lay}{T:Nat->Hp->Rg->Prop}(hT:∀k,dM (T k)):∀i,dM (AC A Y T i)
 | .hd=>iq.loc _ _
 | .dC=>cX.loc _ _ _
 | .free=>sI.loc _ _ _
 | .nA=>l8.loc _ _
 | .own=>iZ.loc
 | .dN=>bS.loc _ _ _
 | .cN=>bS.loc _ _ _
 | .runs=>jA.loc _ _ _ _
 | .cE k=>jV.loc _ _ _
 | .cM k=>hT k
theorem cK.loc {A:AR}{Y:Lay}(k:Nat):dM (cK A Y k):=kM.loc _ _ _ _
structure eX (A:AR) (Y:Lay):Prop where
 c:Y.fH.length=A.tb.length
 t:Y.fV.length=A.tb.length
 cE:A.cE.length=A.tb.length
 cM:A.cM.length=A.tb.length
 nk:1<=A.tb.length
 pR:A.tb.length<=40
 n1:32<=A.n
 n2:A.n<=1024
 n3:A.n%16=0
 st:A.st.length=A.n
 room:A.room<=8
 ok:∀c∈A.tb,c.ok
structure dG (U:Hp) (F:Rg) (Y:Lay) (A:AR) (T:Nat->Hp->Rg->Prop):Prop where
 lay:eX A Y
 tl:∀k,dM (T k)
 sep:Sep (AC A Y T) U F
def AH (U:Hp)(F:Rg)(p hs:Nat)(A:AR):Prop:=∃Y:Lay,Y.p=p/\Y.hs=hs/\dG U F Y A (cK A Y)
variable {U:Hp}{F:Rg}{p hs:Nat}{A:AR}{Y:Lay}{T:Nat->Hp->Rg->Prop}
theorem dG.loc:dM λU F=>dG U F Y A T:=λU d F G h a b=>⟨h.lay,h.tl,Sep.loc (AC.loc h.tl) _ _ _ _ h.sep a b⟩
theorem AH.loc:dM λU F=>AH U F p hs A:=λU e F G ⟨Y,a,b,h⟩ d hs=>⟨Y,a,b,dG.loc _ _ _ _ h d hs⟩
theorem dG.bO {σ':Hp}(h:dG U F Y A T)(e:bK U σ'):dG σ' F Y A T:=dM.bO dG.loc h e
theorem dG.hd (h:dG U F Y A T):bY U Y.p (kA Y):=by
 obtain⟨G,b,d,a⟩:=h.sep.get .hd;exact a
theorem VD (tb:List bZ):(fZ tb).length=tb.length*3:=by
 induction tb with
 | nil=>rfl
 | cons x l ih=>simp only[fZ,p8,zP,zY,lH]at *;omega
theorem Gq {tb:List bZ}{i:Nat}{c:bZ}(h:tb[i]?=some c):(fZ tb)[3*i]?=some (.int .i64 (c.size:Int))/\(fZ tb)[3*i+1]?=some (.int .i64 (c.aF:Int))/\(fZ tb)[3*i+2]?=some (.int .i64 (c.batch:Int)):=by
 induction tb generalizing i with
 | nil=>simp at h
 | cons x l ih=>
  have e:fZ (x::l)=[.int .i64 (x.size:Int),.int .i64 (x.aF:Int),.int .i64 (x.batch:Int)]++fZ l:=by simp[fZ]
  rw[e];cases i with
  | zero=>simp at h;subst h;simp
  | succ i=>
   have:=ih (i:=i) (by simpa using h);rw[show 3*(i+1)=3*i+3 by omega];simpa using this
theorem dG.oI (h:dG U F Y A T):Y.dC.len=A.tb.length:=by
 obtain⟨G,b,a⟩:=h.sep.get .dC;have:=a.1;rw[VD]at this;omega
theorem sj {s:Sl}{tb:List bZ}(h:cX s 3 (fZ tb) U F){k d:Nat}{c:bZ}(hc:tb[k]?=some c)(hd:d<3){K:Int->Prop}(hK:K (if d=0 then c.size else if d=1 then c.aF else c.batch:Nat)) :
 Ix s.a s.len (k:Int) 3 λa=>gA .i64 (a.add d) U K:=by
 have g:=Gq hc;have j:(fZ tb)[3*k+d]?=some (.int .i64 ((if d=0 then c.size else if d=1 then c.aF else c.batch:Nat):Int)):=by
  match d,hd with
  | 0,_=>exact g.1
  | 1,_=>exact g.2.1
  | 2,_=>exact g.2.2
 have p:=(cW.1 hc).1;obtain⟨b,o,m,e⟩:=h.cell j;have i:=h.1;rw[VD]at i;rw[m];refine ix O O ?_;rw[add_lit,add_lit];refine ns ?_ hK;rw[show o+(k:Int).toNat*3+d=o+(3*k+d) by omega];exact e
theorem dG.uG (h:dG U F Y A T){k d:Nat}{c:bZ}(hc:A.tb[k]?=some c)(hd:d<3){K:Int->Prop}(hK:K (if d=0 then c.size else if d=1 then c.aF else c.batch:Nat)) :
 Ix Y.dC.a Y.dC.len (k:Int) 3 λa=>gA .i64 (a.add d) U K:=by
 obtain⟨G,e,b⟩:=h.sep.get .dC;exact sj b hc hd hK
theorem yH {s:Sl}{l:List Nat}(h:cX s 1 (fM l) U F){k q:Nat}(hq:l[k]?=some q){K:Option Addr->Prop}(hK:K (some ⟨q,0,none⟩)):Ix s.a s.len (k:Int) 1 λa=>fU a U K:=by
 have i:=(cW.1 hq).1;obtain⟨b,o,g,d⟩:=h.cell (j:=k) (v:=.pointer (some ⟨q,0,none⟩)) (by simp[fM,hq]);have e:=h.1;simp[fM]at e;rw[g];refine ix O O ?_;rw[add_lit];exact uz (by rw[show o+(k:Int).toNat*1=o+k by omega];exact d) hK
theorem dG.lx (h:dG U F Y A T){k q:Nat}(hq:Y.fH[k]?=some q){K:Option Addr->Prop}(hK:K (some ⟨q,0,none⟩)):Ix Y.dN.a Y.dN.len (k:Int) 1 λa=>fU a U K:=by
 obtain⟨G,d,b⟩:=h.sep.get .dN;exact yH (bS.gY b) hq hK
theorem dG.q8 (h:dG U F Y A T){k q:Nat}(hq:Y.fV[k]?=some q){K:Option Addr->Prop}(hK:K (some ⟨q,0,none⟩)):Ix Y.cN.a Y.cN.len (k:Int) 1 λa=>fU a U K:=by
 obtain⟨G,d,b⟩:=h.sep.get .cN;exact yH (bS.gY b) hq hK
theorem dG.at_ (h:dG U F Y A T){k:Nat}(hk:k<A.tb.length):∃c ss q t r,A.tb[k]?=some c/\A.cE[k]?=some ss/\Y.fH[k]?=some q/\A.cM[k]?=some t/\Y.fV[k]?=some r/\c.ok:=by
 have a:=h.lay.c;have b:=h.lay.t;have e:=h.lay.cE;have d:=h.lay.cM;exact⟨A.tb[k],A.cE[k],Y.fH[k],A.cM[k],Y.fV[k],by simp,by simp,by simp,by simp,by simp,h.lay.ok _ (kg hk)⟩
theorem FZ {k q:Nat}{c:bZ}{ss:List cG}{G:Rg}(h1:Y.fH[k]?=some q)(h2:A.tb[k]?=some c)(h3:A.cE[k]?=some ss)(h:AC A Y T (.cE k) U G):∃ps,fD U G q c ps ss:=by
 simp only[AC]at h;rw[h1,h2,h3]at h;exact h
theorem dG.cE (h:dG U F Y A T){k q:Nat}{c:bZ}{ss:List cG}(h1:Y.fH[k]?=some q)(h2:A.tb[k]?=some c)(h3:A.cE[k]?=some ss):∃G ps,(∀b,G b->F b)/\fD U G q c ps ss:=by
 obtain⟨G,a,d⟩:=h.sep.get (.cE k);obtain⟨ps,e⟩:=FZ h1 h2 h3 d;exact⟨G,ps,a,e⟩
theorem UY (h:dG U F Y A T){R:aO}(hR:R true U):W7.c (aW Y.p) U R:=by
 refine W7.o ?_;unfold W7.v;exact bV.intro (cD rfl (aG (h.hd.rP rfl hR)))
theorem V8 (h:dG U F Y A T)(k:Int){R:aN}(h1:A.ck k=false->R 1 U)(h0:∀x:Nat,k=x->x<A.tb.length->R 0 U):WQ.c (aW Y.p) k U R:=by
 refine WQ.o ?_;unfold WQ.v;have g:=h.oI;have a:¬(0<=k/\k<A.tb.length)->R 1 U:=λe=>h1 (by unfold AR.ck;rw[←uB];exact zM e);refine UY h (cB rfl (bV.intro (cQ (λd=>cD rfl (a O)) λd=>aG (h.hd.rS rfl (cQ (λb=>?_) λb=>?_)))))
 ·simp only at b;exact a O
 ·simp only at b;exact h0 k.toNat O O
theorem Iz (h:dG U F Y A T)(x:Int){R:aO}(hR:R (GZ A x) U):YK.c (aW Y.p) x U R:=by
 refine YK.o ?_;unfold YK.v;obtain⟨G,b,q,a,_⟩:=h.sep.get .nA;refine UY h (bV.intro (cD rfl (aG (h.hd.rP rfl (JH a x ?_)))));have:decide (yp A.st x>0)=GZ A x:=by
  unfold yp GZ;by_cases hx:0<=x
  ·by_cases hl:x<A.st.length
   ·rw[zC ⟨hx,hl⟩,zJ hx,pV,decide_eq_decide];omega
   ·rw[zB O,zJ hx,pV,zO,zV O];rfl
  ·rw[zB O,zM hx];rfl
 rw[this];exact hR
structure iI (A:AR):Prop where
 si:∀r∈A.runs,∀s∈A.runs,∀x,r.1<=x->x<r.1+r.2->s.1<=x->x<s.1+s.2->r=s
 wX:∀x,x<1024->A.ow x=41->(rF A x).isSome=true
 cls:∀x,x<1024->A.ow x≠0->A.ow x≠41->A.ow x<=A.tb.length
 fit:∀r∈A.runs,r.1+r.2<=1024
theorem Bx (h:iI A){x:Nat}{r:Nat×Nat}(hr:r∈A.runs)(h1:r.1<=x)(h2:x<r.1+r.2):rF A x=some r:=by
 cases hf:rF A x with
 | none=>
  unfold rF at hf;rw[ny]at hf;have:=hf r hr;simp[h1,h2]at this
 | some s=>
  unfold rF at hf;have b:=rU hf;have a:=sN hf;simp at a;rw[h.si r hr s b x h1 h2 a.1 a.2]
theorem RS (h:dG U F Y A T)(hr:iI A)(x:Int)(hx:iC x){R:Int->Int->Int->Hp->Prop}(h1:∀σ' k a,bK U σ'->UB A x=some (k,a)->R k (a:Int) 0 σ')(h0:∀σ',bK U σ'->UB A x=none->R 0 0 8 σ') :
 YE.c (aW Y.p) x U R:=by
 refine YE.o ?_;unfold YE.v;refine UY h (cB rfl (cQ (λS=>h0 U (Ext.refl _ _) (by unfold UB;rw[zC S])) λS=>aG (h.hd.rP rfl (nz aB ?_))));obtain⟨y,rfl⟩:=za (show 0<=x by omega);have hy:y<=9223372036854775807:=by unfold iC at hx;omega
 have tp:((y:Int).tdiv 256)=((y/256:Nat):Int):=by rw[Xs O];simp
 refine ar (by rw[tp];omega) (by rw[tp];omega) ?_;rw[tp];obtain⟨G,hG,hP⟩:=h.sep.get .own;refine OS hP _ ?_;have eo:qk A.ow ((y/256:Nat):Int)=if y/256<1024 then A.ow (y/256)else 0:=by
  unfold qk;by_cases hl:y/256<1024
  ·rw[zC O,zC hl];rfl
  ·rw[zB O,zB hl]
 have g:UB A (y:Int)=(let no:=if y/256<1024 then A.ow (y/256)else 0
  if no=0 then none else if no=41 then(rF A (y/256)).map λr=>(-1,r.1*256)else
  match A.tb[no-1]?,A.cE[no-1]? with
  | some c,some ss=>(pM c ss (y:Int)).map λa=>(((no-1:Nat):Int),a)
  | _,_=>none):=by
  unfold UB;rw[zB S];rfl
 rw[eo];generalize hno:(if y/256<1024 then A.ow (y/256)else 0)=no at *
 simp only at g;rw[uT];refine cO (λe0=>h0 U (Ext.refl _ _) (by rw[g,zC (by simpa using e0)])) λe0=>?_;have E:no≠0:=by simpa using e0
 rw[zB E]at g;have D:y/256<1024:=by
  rcases ku (y/256) 1024 with h|h
  ·exact h
  ·rw[zB O]at hno;exact absurd hno.symm E
 rw[zC D]at hno;refine Jn.intro ?_;have Q:(((no:Nat):Int)==41)=(no==41):=k5 no 41;rw[Q];refine cO (λV=>?_) λV=>?_
 ·have w:no=41:=by simpa using V
  subst w;rw[zC rfl]at g;obtain⟨r,H⟩:=pj.1 (hr.wX _ D hno);have j:=rU H;have C:=sN H;simp at C;obtain⟨G,hG,M⟩:=h.sep.get .runs;refine aG (h.hd.rM rfl ?_);refine yu M.2 (λd v=>bK U v/\(∀z∈d,z∈iD A.runs)/\((r.1:Int),(r.2:Int))∈d) (λv hz e=>⟨e,λz hz=>hz,zE.2 ⟨r,j,rfl⟩⟩) (λv hv=>absurd hv.2.2 aA) ?_;rintro d n z v v' J ⟨e,b,B⟩ hm ho hlt2 hJ;have e':bK U v':=Ext.fresh e ho.ext λi hi=>by omega
  obtain⟨s,P,hse⟩:=zE.1 (b _ hm);cases hse;have hfit:=hr.fit s P;refine nz aB (ar O O ?_);refine bV.intro (cQ (λc3=>ar O O (cQ (λc4=>?_) λc4=>?_)) λc3=>cB rfl ?_)
  ·have W:=Bx hr P (x:=y/256) O O;refine ar O O ?_;have:=h1 v' (-1) (s.1*256) e' (by rw[g,W];rfl);simpa using this
  ·refine hJ v' rfl rfl ⟨e',λu X=>b u (zI.1 X).1,zI.2 ⟨B,?_⟩⟩;have:¬(r.1:Int)=(s.1:Int):=λe=>by
    have:=Bx hr j C.1 C.2;have e1:r.1=s.1:=by omega
    by_cases h2:r.2=0
    ·omega
    by_cases h3:s.2=0
    ·have:=M.2.nodup;have K:=Kl this (zE.2 ⟨r,j,rfl⟩);have N:=Kl this (zE.2 ⟨s,P,rfl⟩);rw[e1,N]at K;have:s.2=r.2:=by
      have:(s.2:Int)=(r.2:Int):=Option.some.inj K;omega
     omega
    ·have:=hr.si r j s P r.1 O O O O;subst this;omega
   simpa using this
  ·refine hJ v' rfl rfl ⟨e',λu X=>b u (zI.1 X).1,zI.2 ⟨B,?_⟩⟩;have:¬(r.1:Int)=(s.1:Int):=λe=>by omega
   simpa using this
 ·have w:no≠41:=by simpa using V
  rw[zB w]at g;have Z:=hr.cls _ D (by rw[hno];exact E) (by rw[hno];exact w);rw[hno]at Z;obtain⟨c,ss,q,t,r,hc,L,hq,_,_,hok⟩:=h.at_ (k:=no-1) O;obtain⟨G,ps,hG,hC⟩:=h.cE hq hc L;rw[hc,L]at g;simp only at g;refine aG (h.hd.rS rfl (cP (m:=no-1) O (by have:=h.lay.pR;omega) (h.lx hq (N1 hC _ hx (λa ha=>?_) λha=>?_))))
  ·refine cB rfl (cP (m:=no-1) O (by have:=h.lay.pR;omega) (h1 U _ a (Ext.refl _ _) ?_));rw[g,ha];rfl
  ·refine cD rfl (h0 U (Ext.refl _ _) ?_);rw[g,ha];rfl
end Go.Ar
namespace Go.Ar
open Go Go.Vc Go.Proofs
open Go.Bu (Zb Qx Y8)
open Classical in
theorem _root_.Go.Vc.Sep.jS {L:Type}{C:L->Hp->Rg->Prop}{U:Hp}{F:Rg}(hC:∀i,dM (C i))(h:Sep C U F)(i:L):∃G:Rg,(∀b,G b->F b)/\C i U G/\(∀j,j≠i->∃H:Rg,(∀b,H b->F b)/\(∀b,H b->¬G b)/\C j U H)/\∀(σ':Hp) (C':L->Hp->Rg->Prop) (G':Rg),
 (∀j,j≠i->C' j=C j)->Ext G U σ'->(∀b,G' b->G b\/U.size<=b)->C' i σ' G'->dM (C' i)->Sep C' σ' λb=>F b/\b<U.size/\¬G b\/G' b:=by
 obtain⟨ρ,h⟩:=h;refine⟨_,λb a=>a.1,h i,λj p=>⟨_,λb a=>a.1,λb m u=>p (m.2.symm.trans u.2),h j⟩,λσ' C' G' p e y x w=>⟨λb=>if G' b then i else ρ b,λj=>?_⟩⟩
 by_cases hji:j=i
 ·subst hji;exact w.mono x λb _ a=>⟨.inr a,zC a⟩
 ·rw[p j hji];refine hC j _ _ _ _ (h j) e.1 λb a s=>?_;have d:¬(F b/\ρ b=i):=λr=>hji (s.2.symm.trans r.2);have g:¬G' b:=λr=>by
   rcases y b r with m|m
   ·exact d m
   ·omega
  exact⟨⟨.inl ⟨s.1,a,d⟩,(zB g).trans s.2⟩,e.2 b a d⟩
variable {U:Hp}{F:Rg}{p hs:Nat}{A:AR}{Y:Lay}{T:Nat->Hp->Rg->Prop}
theorem dG.step (h:dG U F Y A T)(i:Lb):∃G:Rg,(∀b,G b->F b)/\AC A Y T i U G/\(∀j,j≠i->∃H:Rg,(∀b,H b->F b)/\(∀b,H b->¬G b)/\AC A Y T j U H)/\∀(σ':Hp) (A':AR) (Y':Lay) (T':Nat->Hp->Rg->Prop) (G' H:Rg),
 eX A' Y'->(∀k,dM (T' k))->(∀j,j≠i->AC A' Y' T' j=AC A Y T j)->Ext G U σ'->(∀b,G' b->G b\/U.size<=b)->AC A' Y' T' i σ' G'->(∀b,(F b/\b<U.size/\¬G b\/G' b)->H b)->dG σ' H Y' A' T':=by
 obtain⟨G,s,r,hd,a⟩:=h.sep.jS (AC.loc h.tl) i;refine⟨G,s,r,hd,λσ' A' Y' T' G' H p d m e u g w=>⟨p,d,?_⟩⟩;exact(Sep.loc (AC.loc d)).mono (a σ' _ G' m e u g (AC.loc d i)) λb _ x=>w b x
theorem HF {U:Hp}{F G G':Rg}(hG:∀b,G b->F b)(hg:∀b,G' b->G b\/U.size<=b):∀b,(F b/\b<U.size/\¬G b\/G' b)->Grow F U b:=λb a=>by
 rcases a with a|a
 ·exact .inl a.1
 ·exact(hg b a).imp (hG b) id
theorem yd {U:Hp}{F G G':Rg}(hG:∀b,G b->F b)(hg:∀b,G' b->G b):∀b,(F b/\b<U.size/\¬G b\/G' b)->F b:=λb a=>by
 rcases a with a|a
 ·exact a.1
 ·exact hG b (hg b a)
theorem Fx {U:Hp}{F G:Rg}(hG:∀b,G b->F b):∀b,(F b/\b<U.size/\¬G b\/Cut G U b)->Cut F U b:=λb a=>by
 rcases a with a|a
 ·exact⟨a.1,a.2.1⟩
 ·exact⟨hG b a.1,a.2⟩
theorem FQ {ow:Nat->Nat}:∀j,j≠Lb.own->AC {A with ow:=ow} Y T j=AC A Y T j:=by
 intro j hj;cases j<;>first|rfl|exact absurd rfl hj
theorem Me {st:List Nat}:∀j,j≠Lb.nA->AC {A with st:=st} Y T j=AC A Y T j:=by
 intro j hj;cases j<;>first|rfl|exact absurd rfl hj
theorem BX {S:Nat->Bool}:∀j,j≠Lb.free->AC {A with S:=S} Y T j=AC A Y T j:=by
 intro j hj;cases j<;>first|rfl|exact absurd rfl hj
theorem Pf {rs:List (Nat×Nat)}:∀j,j≠Lb.runs->AC {A with runs:=rs} Y T j=AC A Y T j:=by
 intro j hj;cases j<;>first|rfl|exact absurd rfl hj
theorem Jq {k:Nat}{ss:List cG}:∀j,j≠Lb.cE k->AC {A with cE:=A.cE.set k ss} Y T j=AC A Y T j:=by
 intro j hj;cases j<;>first|rfl|skip
 rename_i k';have a:k≠k':=λe=>hj (by rw[e]);simp only[AC];rw[zk a]
theorem eX.ow {ow:Nat->Nat}(h:eX A Y):eX {A with ow:=ow} Y:=⟨h.c,h.t,h.cE,h.cM,h.nk,h.pR,h.n1,h.n2,h.n3,h.st,h.room,h.ok⟩
theorem eX.yP {S:Nat->Bool}(h:eX A Y):eX {A with S:=S} Y:=⟨h.c,h.t,h.cE,h.cM,h.nk,h.pR,h.n1,h.n2,h.n3,h.st,h.room,h.ok⟩
theorem eX.qc {rs:List (Nat×Nat)}(h:eX A Y):eX {A with runs:=rs} Y:=⟨h.c,h.t,h.cE,h.cM,h.nk,h.pR,h.n1,h.n2,h.n3,h.st,h.room,h.ok⟩
theorem eX.wj {st:List Nat}(h:eX A Y)(hl:st.length=A.st.length):eX {A with st:=st} Y:=⟨h.c,h.t,h.cE,h.cM,h.nk,h.pR,h.n1,h.n2,h.n3,hl.trans h.st,h.room,h.ok⟩
theorem eX.kG {k:Nat}{ss:List cG}(h:eX A Y):eX {A with cE:=A.cE.set k ss} Y:=⟨h.c,h.t,by simpa using h.cE,h.cM,h.nk,h.pR,h.n1,h.n2,h.n3,h.st,h.room,h.ok⟩
theorem Eg (st:List Nat)(a m:Int)(v:Nat)(fr:List Nat):(V2 st a m v fr).length=st.length:=by
 unfold V2;split<;>simp[Kv]
theorem RJ (st:List Nat)(k:Int):(iQ st k).length=st.length:=by
 unfold iQ;split<;>simp[Kv]
theorem dG.Clear (h:dG U F Y A T)(a m:Nat)(ha:a<=1000000){R:aN}(hR:∀σ' t,Ext F U σ'->dG σ' (Grow F U) Y {A with ow:=jx A.ow a m 0} T->R t σ'):XD.c (aW Y.op) a m U R:=by
 obtain⟨G,i,j,_,d⟩:=h.step .own;refine La j a m ha λσ' e p=>hR σ' _ (e.sub i) ?_;exact d σ' _ _ T (Grow G U) _ h.lay.ow h.tl FQ e (λb g=>g) p (HF i λb g=>g)
theorem dG.Set (h:dG U F Y A T)(a m:Nat)(ha:a<=1000000){no:Nat}(h1:1<=no)(h2:no<=1000){R:aN}(hR:∀σ' t,Ext F U σ'->dG σ' (Grow F U) Y {A with ow:=jx A.ow a m no} T->R t σ'):XU.c (aW Y.op) a m no U R:=by
 obtain⟨G,i,j,_,d⟩:=h.step .own;refine Jl j a m ha h1 h2 λσ' e p=>hR σ' _ (e.sub i) ?_;exact d σ' _ _ T (Grow G U) _ h.lay.ow h.tl FQ e (λb g=>g) p (HF i λb g=>g)
theorem dG.nA (h:dG U F Y A T):∃G:Rg,(∀b,G b->F b)/\∃q,ia U Y.tr q A.st/\F q/\∀(σ':Hp) (st:List Nat),st.length=A.st.length->Ext (· = q) U σ'->ia σ' Y.tr q st->Ext F U σ'/\dG σ' F Y {A with st:=st} T:=by
 obtain⟨G,g,⟨q,m,r,i⟩,_,d⟩:=h.step .nA;refine⟨G,g,q,m,g _ i,λσ' st j e p=>⟨e.sub λb a=>by subst a;exact g _ i,?_⟩⟩;exact d σ' _ _ T G _ (h.lay.wj j) h.tl Me (e.sub λb a=>by subst a;exact i) (λb a=>.inl a) ⟨q,p,r,i⟩ (yd g λb a=>a)
theorem dG.wo (h:dG U F Y A T)(a m:Int){R:aN}(hR:∀σ' t,Ext F U σ'->dG σ' F Y {A with st:=V2 A.st a m 2 [1]} T->R t σ'):Xl.c (aW Y.tr) a m U R:=by
 obtain⟨G,i,q,d,_,b⟩:=h.nA;refine Nq d a m λσ' e g=>?_;have:=b σ' _ (Eg _ _ _ _ _) e g;exact hR σ' _ this.1 this.2
theorem dG.Od (h:dG U F Y A T)(a m:Int){R:aN}(hR:∀σ' t,Ext F U σ'->dG σ' F Y {A with st:=V2 A.st a m 1 [2,3]} T->R t σ'):Xv.c (aW Y.tr) a m U R:=by
 obtain⟨G,i,q,d,_,b⟩:=h.nA;refine LG d a m λσ' e g=>?_;have:=b σ' _ (Eg _ _ _ _ _) e g;exact hR σ' _ this.1 this.2
theorem dG.yU (h:dG U F Y A T)(k:Int){R:aN}(hR:∀σ' t,Ext F U σ'->dG σ' F Y {A with st:=iQ A.st k} T->R t σ'):XS.c (aW Y.tr) k U R:=by
 obtain⟨G,g,q,b,_,a⟩:=h.nA;refine RA b k λσ' e d=>?_;have:=a σ' _ (RJ _ _) e d;exact hR σ' _ this.1 this.2
theorem dG.free (h:dG U F Y A T):∃sb ms,Go.Bu.BH U Y.fr A.n A.S sb ms/\∀(σ':Hp) (S:Nat->Bool),Ext (· ∈ ms) U σ'->Go.Bu.BH σ' Y.fr A.n S sb ms->Ext F U σ'/\dG σ' F Y {A with S:=S} T:=by
 obtain⟨G,g,⟨sb,ms,p,i⟩,_,d⟩:=h.step .free;have j:∀b,b∈ms->G b:=λb a=>i b (by unfold Go.Bu.fp;simp[a]);refine⟨sb,ms,p,λσ' S e m=>⟨e.sub λb a=>g b (j b a),?_⟩⟩;exact d σ' _ _ T G _ h.lay.yP h.tl BX (e.sub j) (λb a=>.inl a) ⟨sb,ms,m,i⟩ (yd g λb a=>a)
theorem dG.vJ (h:dG U F Y A T)(a m:Int){R:aN}(hR:∀σ' t,Ext F U σ'->dG σ' F Y {A with S:=Qx A.n A.S a m} T->R t σ'):X0.c (aW Y.fr) a m U R:=by
 obtain⟨j,i,d,b⟩:=h.free;refine Go.Bu.pT d a m λσ' e g=>?_;have:=b σ' _ e g;exact hR σ' _ this.1 this.2
theorem dG.wA (h:dG U F Y A T)(a m:Int){R:Int->Int->Hp->Prop}(hR:∀σ',Ext F U σ'->dG σ' F Y {A with S:=Go.Bu.iT A.n A.S a m} T->R ((Go.Bu.iM A.n A.S a m:Nat):Int) (Go.Bu.iP A.n A.S a m) σ'):XC.c (aW Y.fr) a m U R:=by
 obtain⟨j,i,d,b⟩:=h.free;refine Go.Bu.kO d a m λσ' e g=>?_;have:=b σ' _ e g;exact hR σ' this.1 this.2
def rV (rs:List (Nat×Nat)):List Value:=rs.flatMap λr=>[.int .i64 (r.1:Int),.int .i64 (r.2:Int)]
theorem BZ (rs:List (Nat×Nat)):(rV rs).length=rs.length*2:=by
 induction rs with
 | nil=>rfl
 | cons x l ih=>simp only[rV,p8,zP,zY,lH]at *;omega
theorem L3 {l:List (Nat×Nat)}{i:Nat}{r:Nat×Nat}(h:l[i]?=some r):(rV l)[2*i]?=some (.int .i64 (r.1:Int))/\(rV l)[2*i+1]?=some (.int .i64 (r.2:Int)):=by
 induction l generalizing i with
 | nil=>simp at h
 | cons x l ih=>
  have e:rV (x::l)=[.int .i64 (x.1:Int),.int .i64 (x.2:Int)]++rV l:=by simp[rV]
  rw[e];cases i with
  | zero=>simp at h;subst h;simp
  | succ i=>
   have:=ih (i:=i) (by simpa using h);rw[show 2*(i+1)=2*i+2 by omega];simpa using this
theorem N6 (c:bZ)(l:List Nat):iE c l=rV (l.map λs=>(s,c.aF)):=by
 simp[iE,rV,List.flatMap_map]
theorem I7 {s:Sl}{rs:List (Nat×Nat)}(h:cX s 2 (rV rs) U F){i:Nat}{r:Nat×Nat}(hr:rs[i]?=some r){K:Int->Int->Prop}(hK:K (r.1:Int) (r.2:Int)) :
 Ix s.a s.len (i:Int) 2 λa=>gA .i64 (a.add 0) U λu=>gA .i64 (a.add 1) U λw=>K u w:=by
 have g:=L3 hr;have y:=(cW.1 hr).1;obtain⟨b,o,j,p⟩:=h.cell g.1;obtain⟨x,o1,d,e⟩:=h.cell g.2;rw[j]at d;cases d;have m:=h.1;rw[BZ]at m;rw[j];refine ix O O ?_;rw[add_lit];refine ns ?_ (ns ?_ hK)<;>rw[add_lit]
 ·rw[show o+(i:Int).toNat*2+0=o+2*i by omega];exact p
 ·rw[show o+(i:Int).toNat*2+1=o+(2*i+1) by omega];exact e
theorem dG.mono {G:Rg}(h:dG U F Y A T)(hs:∀b,b<U.size->F b->G b):dG U G Y A T:=dM.mono dG.loc h hs
theorem dG.cut (h:dG U F Y A T):dG U (Cut F U) Y A T:=dM.cut dG.loc h
theorem MY (A:AR)(rs:List (Nat×Nat))(r:Nat×Nat):VR A (rs++[r])=Vx (VR A rs) r:=by simp[VR]
theorem Cd (h:dG U F Y A T){sl:Sl}{rs:List (Nat×Nat)}{X:Rg}(hs:cX sl 2 (rV rs) U X)(hX:∀b,b<U.size->X b->¬F b)(hl:rs.length<=1000000)(hb:∀r∈rs,r.1<=1000000){R:aP}
 (hR:∀σ',Ext F U σ'->dG σ' (Grow F U) Y (VR A rs) T->R σ'):XV.c (aW Y.p) sl U R:=by
 refine XV.o ?_;unfold XV.v;have aa:sl.len=rs.length:=by have:=hs.1;rw[BZ]at this;omega
 have M:cX sl 2 (rV rs) U (Cut X U):=aH.cut hs;refine ZS (a:=bN) (λ(t:Int) v=>∃i:Nat,t=(i:Int)/\i<=rs.length/\Ext F U v/\dG v (Grow F U) Y (VR A (rs.take i)) T) (λt _=>rs.length-t.toNat) ⟨0,rfl,O,Ext.refl _ _,by simpa[VR]using h.mono λb _ hb=>.inl hb⟩ ?_;rintro t v ⟨i,rfl,P,e,L⟩;refine cQ (λab=>?_) λhge=>?_
 ·have x:i<rs.length:=by omega
  have y:rs[i]?=some rs[i]:=cV x;have N:=hb _ (kg x);have C:=aH.bR M e λb B y w=>hX b B y.1 w;refine I7 C y ?_;have z:rs.take (i+1)=rs.take i++[rs[i]]:=by rw[lI,y];rfl
  generalize rs[i]=r at *;refine nw (cs:=[.int .i64 0,.int .i64 0]) λv4 hz4 e4 E=>E.s1 aA λv5 o5 b5=>b5.s1 aA λv6 o6 Z=>?_;have u:bK v v6:=Ext.fresh (Ext.fresh e4 o5.ext λi P=>O) o6.ext λi P=>by omega
  have j:=L.cut.bO u;have S:¬Cut (Grow F U) v v.size:=λw=>by have:=w.2;omega
  have g:bY v6 v.size [.int .i64 (r.1:Int),.int .i64 (r.2:Int)]:=Z;have z6:v.size<v6.size:=Z.lt;refine aG (j.hd.rP rfl (g.rI rfl (g.rI rfl (j.Clear r.1 r.2 N λv7 t7 W J=>?_))));have H:=W.bT g S;have d:=J.mono (G:=λb=>Cut (Grow F U) v b\/v.size<b) λb _ hb=>by
   rcases hb with hb|hb
   ·exact .inl hb
   ·exact .inr O
  have D:¬(Cut (Grow F U) v v.size\/v.size<v.size):=λw=>by
   rcases w with h|h
   ·exact S h
   ·omega
  refine aG (d.hd.rP rfl (H.rI rfl (H.rI rfl (d.wo _ _ λv8 t8 V s=>?_))));have Q:=V.bT H D;refine aG (s.hd.rP rfl (Q.rI rfl (Q.rI rfl (s.vJ _ _ λv9 t9 e9 K=>?_))));have sub:∀b,(Cut (Grow F U) v b\/v.size<b)->Grow F U b:=λb hb=>by
   rcases hb with hb|hb
   ·exact hb.1
   ·exact .inr (by have:=e.1;omega)
  have ee:Ext F U v9:=((((e.trans (bK.to u)).jl (W.sub λb hb=>hb.1))).jl (V.sub sub)).jl (e9.sub sub);refine cP (m:=i+1) O O ⟨⟨i+1,rfl,O,ee,?_⟩,O⟩;rw[z,MY];exact K.mono λb _ hb=>sub b hb
 ·have:i=rs.length:=by omega
  subst this;rw[m7]at L;exact hR v e L
end Go.Ar
namespace Go.Proofs
open Go.Vc
set_option maxRecDepth 100000
def XG.h:Hn:=.q .o1 (.q (.q .o3 .aK) (.q .o1 (.q (.q .o5 (.k (.loop [(3,.I)] (.q (.cR (.seq [.it .i64 .p,.op])) (.q (.c .l .l) (.k (.q (.cR (.seq [.it .i64 .p,.op,.op,.op,.op])) (.oq 17)))))))) .aL)))
def XG.v (a:R2)(b:Hp)(c:aN):Prop:=W6.c a b λd e=>If (!d) (c 0 e) (bI a 2 e λg=>nC .i64 .p g e λh i=>Yp [bN] (λj=>j 0 i) λk (l:Int) m=>nF .i64 .p h m (c l m) (λn o p=>nJ .i64 .p h p λq r=>bE a 0 p λt=>Ix t.a t.len q 3 λu=>aQ u 0 p λv=>bE r 0 p λx=>bL (v*((x.len:Nat):Int)) λy=>bL (l+y) λz=>k z p))
theorem XG.o {a b c}(d:XG.v a b c):XG.c a b c:=Wa Tryz.func79 (x:=XG.h) (R0 d)
def W6.h:Hn:=.q .o1 (.q (.cR (.seq [.op,.op,.op,.cU true 5 (RI.ops 5),.op])) .l)
def W6.v (a:R2)(b:Hp)(c:aO):Prop:=bV (λd e=>c d e) λf=>If (!a.isNone) (bI a 2 b λh=>f (!h.isNone) b) (f false b)
theorem W6.o {a b c}(d:W6.v a b c):W6.c a b c:=Wa Tryz.func110 (x:=W6.h) (R0 d)
def QL.h:Hn:=.q .o2 (.q (.k (.q .o4 (.c .aL (.q (.cR (.seq [.op,.op,.op,.cU false 2 [.op,.op],.op])) .aJ)))) (.q .o8 .l))
def QL.v (a:Sl)(b:Int)(c:Hp)(d:Option Addr->Int->Hp->Prop):Prop:=Zs.c a c λe f=>If (!e) (d none 2 f) (bV (λg h=>If g (d none 1 h) (Wi.c a h λi j=>Nw (.map #[] 0) j λk l=>aV #[.slice i.a i.len i.cap,.I b,.map (some k.block)] 168 l λm n=>d (some m) 0 n)) λo=>If (b<0) (o true f) (o (decide (b>65536)) f))
theorem QL.o {a b c d}(e:QL.v a b c d):QL.c a b c d:=Wa Tryz.func144 (x:=QL.h) (R0 e)
def X4.h:Hn:=.q .o2 (.q .o8 (.q (.q .o2 (.c (.q .o3 .l) .l)) (.q (.q .o6 (.c (.q (.q .o9 (.q .o6 (.c .o8 (.o 11)))) .aL) .l)) (.q .o7 (.q .o8 (.q .gQ (.q .gQ (.q .o3 .l))))))))
def X4.v (a:R2)(b:Int)(c:Hp)(d:Int->Int->Hp->Prop):Prop:=Xj.c a b c λe f g=>If (f != 0) (d 0 f g) (bE e 0 g λi=>If (((i.len:Nat):Int)==0) (bE a 0 g λk=>Ix k.a k.len b 3 λl=>aQ l 2 g λm=>bD e 1 g λo=>If (o<m) (bD e 1 g λq=>bL (q+1) λr=>bU e λs=>aR s 1 (.I r) g λt=>d 0 4 t) (bD e 1 g λv=>bL (v+m) λw=>bU e λx=>aR x 1 (.I (if 128<w then 128 else w)) g λy=>d 0 4 y)) (bE e 0 g λaa=>bL (((aa.len:Nat):Int)-1) λab=>bE e 0 g λad=>Ix ad.a ad.len ab 1 λae=>bM ae g λaf=>bE e 0 g λah=>eY ah 1 0 ab (ah.cap:Nat) λai=>bU e λaj=>aR aj 0 (.slice ai.a ai.len ai.cap) g λak=>bD e 2 ak λam=>bU e λan=>aR an 2 (.I (if ab<am then ab else am)) ak λao=>d af 0 ao))
theorem X4.o {a b c d}(e:X4.v a b c d):X4.c a b c d:=Wa Tryz.func147 (x:=X4.h) (R0 e)
def Yb.h:Hn:=.q .o2 (.q .o8 (.q (.q .o2 (.c (.q .o3 .l) .l)) (.q (.oq 15) .l)))
def Yb.v (a:R2)(b:Int)(c:Hp)(d:Int->Int->Hp->Prop):Prop:=Xj.c a b c λe f g=>If (f != 0) (d 0 f g) (bD e 1 g λi=>bE a 0 g λk=>Ix k.a k.len b 3 λl=>aQ l 2 g λm=>d (if m<i then m else i) 0 g)
theorem Yb.o {a b c d}(e:Yb.v a b c d):Yb.c a b c d:=Wa Tryz.func149 (x:=Yb.h) (R0 e)
def XZ.h:Hn:=.q .o1 (.q .o8 (.q (.q .o2 .aJ) (.q .o3 (.q .o2 (.q .o4 .l)))))
def XZ.v (a:R2)(b:Int)(c:Sl)(d:Hp)(e:aN):Prop:=Xj.c a b d λf g h=>If (g != 0) (e g h) (WD.c c h λi j=>WT.c i j λk=>WR.c f i k λl m=>e l m)
theorem XZ.o {a b c d e}(f:XZ.v a b c d e):XZ.c a b c d e:=Wa Tryz.func154 (x:=XZ.h) (R0 f)
def Yw.h:Hn:=.q .o2 (.q .o8 (.q (.q .o2 (.c (.q .o3 .l) .l)) (.q (.q .o5 (.q .o2 (.c (.q .o3 .l) .l))) (.q (.q (.oq 10) .aJ) (.q .o9 (.kr [] (.q .o6 (.c .o8 .l)) (.q (.o 11) .l)))))))
def Yw.v (a:R2)(b c:Int)(d:Hp)(e:Sl->Int->Hp->Prop):Prop:=Xj.c a b d λf g h=>If (g != 0) (e ⟨none,0,0⟩ g h) (aV #[.I c] 3 h λi j=>WR.c f ⟨some i,1,1⟩ j λk l=>If (k != 0) (e ⟨none,0,0⟩ k l) (bE f 0 l λn=>bD f 1 l λp=>If (((n.len:Nat):Int)<=p) (e ⟨none,0,0⟩ 0 l) (bE a 0 l λr=>Ix r.a r.len b 3 λs=>aQ s 2 l λt=>Jn [] (λu=>bE f 0 u λw=>W5.c f (if((w.len:Nat):Int)<t then((w.len:Nat):Int)else t) u λx y=>e x 0 y) λz=>bD f 1 l λab=>If (ab<t) (bD f 1 l λad=>bL (ad+1) λae=>bU f λaf=>aR af 1 (.I ae) l λag=>z ag) (z l))))
theorem Yw.o {a b c d e}(f:Yw.v a b c d e):Yw.c a b c d e:=Wa Tryz.func157 (x:=Yw.h) (R0 f)
def X6.h:Hn:=.q .o1 (.q (.cR (.hO false [] [(2,.one .b)] (.take 0 (.all [(1,.take 2 (.split 5 (.tk [3,5,6,7] (.all [(4,.all [(8,.tk [9,10,11] (.done))]),(8,.all [(4,.tk [9,10,11] (.done))])])) (.tk [3,4,5,6,7,8,9,10,11] (.done))))])))) .l)
def X6.v (a:R2)(b:Hp)(c:aO):Prop:=Jn [.b] (λ(d:Bool) e=>c d e) λf=>W6.c a b λg h=>If g (bU a λi=>(XG.c a h λj k=>aQ i 1 k λl=>f (decide (j>l)) k) ∧ (aQ i 1 h λm=>XG.c a h λn o=>f (decide (n>m)) o)) (f false h)
theorem X6.o {a b c}(d:X6.v a b c):X6.c a b c:=Wa Tryz.func158 (x:=X6.h) (R0 d)
def WY.h:Hn:=.q .o1 (.q .o3 .l)
def WY.v (a:R2)(b:Hp)(c:Sl->Hp->Prop):Prop:=Xf.c a ⟨216,#[],#[]⟩ b λd e=>c d e
theorem WY.o {a b c}(d:WY.v a b c):WY.c a b c:=Wa Tryz.func159 (x:=WY.h) (R0 d)
def XH.h:Hn:=.q .o1 (.q .o3 .l)
def XH.v (a:R2)(b:Hp)(c:Sl->Hp->Prop):Prop:=Xf.c a ⟨218,#[],#[]⟩ b λd e=>c d e
theorem XH.o {a b c}(d:XH.v a b c):XH.c a b c:=Wa Tryz.func164 (x:=XH.h) (R0 d)
def Xj.h:Hn:=.q .o2 (.q (.q .o3 .aJ) (.q .o4 (.q (.q .o2 .aJ) (.q .o3 .l))))
def Xj.v (a:R2)(b:Int)(c:Hp)(d:Option Addr->Int->Hp->Prop):Prop:=W6.c a c λe f=>If (!e) (d none 5 f) (Zi.c a b f λg h=>If g.isNone (d none 1 h) (d g 0 h))
theorem Xj.o {a b c d}(e:Xj.v a b c d):Xj.c a b c d:=Wa Tryz.func204 (x:=Xj.h) (R0 e)
def WR.h:Hn:=.q .o1 (.q (.q .o9 .aK) (.q (.o 11) .aM))
def WR.v (a:R2)(b:Sl)(c:Hp)(d:aN):Prop:=bE a 0 c λf=>bL (((f.len:Nat):Int)+((b.len:Nat):Int)) λg=>If (g>256) (d 6 c) (bE a 0 c λi=>Xg.c i c λj k=>App j 1 8 3 [.I 0] b k λl m=>bU a λn=>aR n 0 (.slice l.a l.len l.cap) m λo=>d 0 o)
theorem WR.o {a b c d}(e:WR.v a b c d):WR.c a b c d:=Wa Tryz.func212 (x:=WR.h) (R0 e)
def W5.h:Hn:=.q .o1 (.q .o8 (.q (.o 11) (.q (.cR (.tail 13 (RI.ops 13) [.op])) .aL)))
def W5.v (a:R2)(b:Int)(c:Hp)(d:Sl->Hp->Prop):Prop:=bE a 0 c λf=>eY f 1 0 b (f.cap:Nat) λg=>WD.c g c λh i=>bE a 0 i λk=>eY k 1 b (k.len:Nat) (k.cap:Nat) λl=>WD.c l i λm n=>bU a λo=>aR o 0 (.slice m.a m.len m.cap) n λp=>bD a 2 p λr=>bE a 0 p λt=>bU a λu=>aR u 2 (.I (if((t.len:Nat):Int)<r then((t.len:Nat):Int)else r)) p λv=>d h v
theorem W5.o {a b c d}(e:W5.v a b c d):W5.c a b c d:=Wa Tryz.func214 (x:=W5.h) (R0 e)
def Xf.h:Hn:=.q .o1 (.q (.q .o3 .aK) (.q .o1 (.q (.q .o5 (.k (.loop [(5,.one .s)] (.q (.cR (.seq [.it .i64 .p,.op])) (.q (.c .l .l) (.k (.q (.cR (.seq [.it .i64 .p,.op,.op,.op,.op])) (.q (.o 12) (.q .o3 (.c .o7 .l)))))))))) (.q .o2 .aL))))
def Xf.v (a:R2)(b:Fv)(c:Hp)(d:Sl->Hp->Prop):Prop:=W6.c a c λe f=>If (!e) (d ⟨none,0,0⟩ f) (bI a 2 f λh=>nC .i64 .p h f λi j=>Yp [.s] (λk=>k ⟨none,0,0⟩ j) λl (m:Sl) n=>nF .i64 .p i n (ZO.c m ⟨264,#[],#[]⟩ n λo=>d m o) (λp q r=>nJ .i64 .p i r λs t=>bE a 0 r λv=>Ix v.a v.len s 3 λw=>aQ w 2 r λx=>VH Tryz.prog b [.pointer t,.I x] [.one .s] r λy z=>If (((y.len:Nat):Int)>0) (aV #[.I s,.slice y.a y.len y.cap] 135 z λaa ab=>App m 2 32 135 [.I 0,.slice none 0 0] ⟨some aa,1,1⟩ ab λac ad=>l ac ad) (l m z)))
theorem Xf.o {a b c d}(e:Xf.v a b c d):Xf.c a b c d:=Wa Tryz.func215 (x:=Xf.h) (R0 e)
def Xo.h:Hn:=.q .o1 (.q .o9 (.kr [] (.q .o6 (.c (.o 12) .l)) (.q .o9 .aL)))
def Xo.v (a:R2)(b:Int)(c:Hp)(d:Sl->Hp->Prop):Prop:=bD a 2 c λf=>bL (f+1) λg=>Nz 2<|bL (g.tdiv 2) λh=>W5.c a h c λi j=>Jn [] (λk=>bE a 0 k λm=>bU a λn=>aR n 2 (.I ((m.len:Nat):Int)) k λo=>d i o) λp=>bD a 1 j λr=>If (r>b) (bD a 1 j λt=>bL (t-b) λu=>bU a λv=>aR v 1 (.I (if b>u then b else u)) j λw=>p w) (p j)
theorem Xo.o {a b c d}(e:Xo.v a b c d):Xo.c a b c d:=Wa Tryz.func216 (x:=Xo.h) (R0 e)
def Yq.h:Hn:=.q .o1 (.q .o8 .l)
def Yq.v (a:R2)(b:Int)(c:Hp)(d:Sl->Hp->Prop):Prop:=bE a 0 c λf=>W5.c a ((f.len:Nat):Int) c λg h=>d g h
theorem Yq.o {a b c d}(e:Yq.v a b c d):Yq.c a b c d:=Wa Tryz.func218 (x:=Yq.h) (R0 e)
def Zi.h:Hn:=.q .o1 (.q (.q (.cR (.seq [.op,.op,.op,.op,.cU false 2 [.op,.op],.op,.cU false 7 (RI.ops 7)])) .aK) (.kr [] (.q .o7 (.c .o8 .l)) (.q .o7 .l)))
def Zi.v (a:R2)(b:Int)(c:Hp)(d:Option Addr->Hp->Prop):Prop:=W6.c a c λe f=>bV (λg h=>bV (λi j=>If i (d none j) (Jn [] (λk=>bI a 2 k λm=>Lk .i64 .p m b k λn=>d (n.getD none) k) λo=>bU a λp=>bB p 2 j λq=>Lk .i64 .p q b j λr=>If ((r.getD none).isNone) (bI a 2 j λt=>aV #[.slice none 0 0,.I 1,.I 0] 171 j λu v=>kc .i64 .p t b (some u) v λw=>o w) (o j))) λx=>If g (x true h) (bE a 0 h λz=>x (decide (b≥((z.len:Nat):Int))) h)) λaa=>If (!e) (aa true f) (aa (decide (b<0)) f)
theorem Zi.o {a b c d}(e:Zi.v a b c d):Zi.c a b c d:=Wa Tryz.func248 (x:=Zi.h) (R0 e)
end Go.Proofs
namespace Go.Ar
open Go Go.Vc Go.Proofs
theorem cX.sub {U:Hp}{F:Rg}{s:Sl}{sz:Nat}{xs:List Value}(h:cX s sz xs U F){lo hi mx:Nat}(h1:lo<=hi)(h2:hi<=s.len)(h3:hi<=mx) :
 cX ⟨if mx=lo then s.a else s.a.map (·.add (lo*sz)),hi-lo,mx-lo⟩ sz ((xs.drop (lo*sz)).take ((hi-lo)*sz)) U F:=by
 have e:=h.1;have e1:hi*sz<=s.len*sz:=lS _ h2;have e2:(hi-lo)*sz=hi*sz-lo*sz:=Nat.sub_mul _ _ _;have g:lo*sz<=hi*sz:=lS _ h1;refine⟨by rw[zZ,jX];simp only;omega,?_⟩;by_cases hm:mx=lo
 ·left;have:hi-lo=0:=by omega
  rw[this,uc,yk]
 ·rcases h.2 with h0|⟨b,o,cs,hb,ha,hq,hc⟩
  ·left;subst h0;simp
  ·refine .inr ⟨b,o+lo*sz,cs,hb,?_,hq,λj d=>?_⟩
   ·simp only[zB hm,ha,zX,add_lit]
   ·rw[zZ,jX]at d;rw[vE,hc _ O,zj,kL,zC O]
inductive rO where
 | hd|dC|mp
 | li (k:Nat)
 deriving DecidableEq
structure gK where
 p:Nat
 m:Nat
 dC:Sl
 ps:List (Nat×Nat)
def iK (ps:List (Nat×Nat))(k:Nat):Option Nat:=(ps.find? λx=>x.1==k).map (·.2)
def jP (ps:List (Nat×Nat)):List (Int×Option Addr):=ps.map λx=>((x.1:Int),some ⟨x.2,0,none⟩)
def mL (s:Sl)(l:Li):List Value:=[.slice s.a s.len s.cap,.int .i64 (l.lim:Int),.int .i64 (l.low:Int)]
def iL (b:Nat)(l:Li):Hp->Rg->Prop:=λU F=>F b/\fK l/\∃s:Sl,bY U b (mL s l)/\cX s 1 (Wo l.os) U (λq=>F q/\q≠b)/\s.len<=s.cap
def oH (b:Option Nat)(l:Option Li):Hp->Rg->Prop:=λU F=>match b,l with
 | some b,some l=>iL b l U F
 | none,some l=>l=ig
 | _,none=>True
def BK (Y:gK)(bud:Nat):List Value:=[.slice Y.dC.a Y.dC.len Y.dC.cap,.int .i64 (bud:Int),.map (some Y.m)]
def CC (tb:List bZ)(bud:Nat)(ls:List Li)(Y:gK):rO->Hp->Rg->Prop
 | .hd=>iq Y.p (BK Y bud)
 | .dC=>cX Y.dC 3 (fZ tb)
 | .mp=>jA Y.m .i64 .p (jP Y.ps)
 | .li k=>oH (iK Y.ps k) ls[k]?
theorem iL.loc (b:Nat)(l:Li):dM (iL b l):=by
 rintro U y F G ⟨m,p,s,j,x,w⟩ r a;have g:=a b j.lt m;obtain⟨e,u⟩:=j;exact⟨g.1,p,s,⟨e,g.2.trans u⟩,cX.loc _ _ _ _ _ _ _ x r λq i d=>⟨⟨(a q i d.1).1,d.2⟩,(a q i d.1).2⟩,w⟩
theorem oH.loc (b:Option Nat)(l:Option Li):dM (oH b l):=by
 intro U σ' F G h hz hs;unfold oH at *;split at h
 ·exact iL.loc _ _ _ _ _ _ h hz hs
 ·exact h
 ·trivial
theorem CC.loc {tb:List bZ}{bud:Nat}{ls:List Li}{Y:gK}:∀i,dM (CC tb bud ls Y i)
 | .hd=>iq.loc _ _
 | .dC=>cX.loc _ _ _
 | .mp=>jA.loc _ _ _ _
 | .li k=>oH.loc _ _
structure eB (U:Hp) (F:Rg) (Y:gK) (tb:List bZ) (bud:Nat) (ls:List Li):Prop where
 nk:tb.length<=40
 ok:∀c∈tb,c.ok
 len:ls.length=tb.length
 keys:∀x∈Y.ps,x.1<tb.length
 sep:Sep (CC tb bud ls Y) U F
variable {U:Hp}{F G:Rg}{Y:gK}{tb:List bZ}{bud:Nat}{ls:List Li}{b k:Nat}{l:Li}
theorem eB.loc:dM λU F=>eB U F Y tb bud ls:=λU d F G h a b=>⟨h.nk,h.ok,h.len,h.keys,Sep.loc CC.loc _ _ _ _ h.sep a b⟩
theorem eB.bO {σ':Hp}(h:eB U F Y tb bud ls)(e:bK U σ'):eB σ' F Y tb bud ls:=dM.bO eB.loc h e
theorem eB.hd (h:eB U F Y tb bud ls):bY U Y.p (BK Y bud):=by
 obtain⟨G,b,a⟩:=h.sep.get .hd;exact a.2
theorem eB.ju (h:eB U F Y tb bud ls):cX Y.dC 3 (fZ tb) U F:=by
 obtain⟨G,d,a⟩:=h.sep.get .dC;exact aH.mono a λb _ a=>d b a
theorem eB.oI (h:eB U F Y tb bud ls):Y.dC.len=tb.length:=by
 have:=h.ju.1;rw[VD]at this;omega
theorem eB.map (h:eB U F Y tb bud ls):dL U Y.m .i64 .p (jP Y.ps):=by
 obtain⟨G,b,a⟩:=h.sep.get .mp;exact a.2
theorem AD (ps:List (Nat×Nat))(k:Nat):bW (α:=Option Addr) (jP ps) (k:Int)=(iK ps k).map λb=>some ⟨b,0,none⟩:=by
 induction ps with
 | nil=>rfl
 | cons x l ih=>
  simp only[bW,jP,iK,zT,uE]at *;have e:(((x.1:Nat):Int)==(k:Int))=(x.1==k):=k5 _ _;rw[e];cases x.1==k
  ·exact ih
  ·rfl
theorem FG {ps:List (Nat×Nat)}(h:iK ps k=none):∀x∈ps,x.1≠k:=by
 unfold iK at h;simp only[qU,ny,zS]at h;exact h
theorem Io {ps:List (Nat×Nat)}(h:iK ps k=none)(b:Nat):dB (α:=Option Addr) (jP ps) (k:Int) (some ⟨b,0,none⟩)=jP (ps++[(k,b)]):=by
 unfold dB;rw[zB]
 ·simp[jP]
 ·simp only[jP,List.any_map,j9,Function.comp,zS,not_exists,not_and];intro x hx e;exact FG h x hx O
theorem Un {ps:List (Nat×Nat)}(h:iK ps k=none)(b j:Nat):iK (ps++[(k,b)]) j=if j=k then some b else iK ps j:=by
 have a:=FG h;unfold iK at *;rw[List.find?_append];by_cases hj:j=k
 ·subst hj;have:ps.find? (λx=>x.1==j)=none:=by simpa using h
  rw[this];simp
 ·rw[zB hj];cases hf:ps.find? (λx=>x.1==j)with
  | none=>
   have:(k==j)=false:=by simpa using λe=>hj e.symm
   simp[this]
  | some x=>simp
theorem CW {ps:List (Nat×Nat)}(hn:((jP ps).map (·.1)).Nodup)(h:(k,b)∈ps):iK ps k=some b:=by
 induction ps with
 | nil=>simp at h
 | cons x l ih=>
  simp only[jP,zT,zr]at hn;unfold iK;rw[uE];rcases zW.1 h with rfl|h
  ·simp
  ·have:(x.1==k)=false:=by
    have:x.1≠k:=λe=>hn.1 (zE.2 ⟨(((k:Nat):Int),some ⟨b,0,none⟩),zE.2 ⟨(k,b),h,rfl⟩,by rw[e]⟩);simpa using this
   rw[this];exact ih hn.2 h
theorem U0 (h:eB U F Y tb bud ls){R:aO}(hR:R true U):W6.c (aW Y.p) U R:=by
 refine W6.o ?_;unfold W6.v;exact bV.intro (cD rfl (aG (h.hd.rM rfl hR)))
theorem eB.vj (h:eB U F Y tb bud ls)(hb:iK Y.ps k=some b)(hl:ls[k]?=some l):∃G:Rg,(∀q,G q->F q)/\iL b l U G/\¬G Y.m ∧
 ∀(σ':Hp) (l':Li) (G':Rg),Ext G U σ'->(∀q,G' q->Grow G U q)->iL b l' σ' G'->Ext F U σ'/\eB σ' (λq=>F q/\q<U.size/\¬G q\/G' q) Y tb bud (ls.set k l'):=by
 have p:=(cW.1 hl).1;obtain⟨G,s,g,d,a⟩:=h.sep.jS CC.loc (.li k);have g:iL b l U G:=by
  simp only[CC,oH,hb,hl]at g;exact g
 have r:¬G Y.m:=by
  obtain⟨H,_,hd,i⟩:=d .mp (by intro e;cases e);exact hd _ i.1
 refine⟨G,s,g,r,λσ' l' G' e x w=>⟨e.sub s,h.nk,h.ok,by rw[nK];exact h.len,h.keys,?_⟩⟩;refine a σ' (CC tb bud (ls.set k l') Y) G' (λj u=>?_) e x ?_ (CC.loc _)
 ·cases j<;>try rfl
  rename_i m;have r:m≠k:=λe=>u (by rw[e]);simp only[CC,zk (Ne.symm r)]
 ·simp only[CC,oH,hb,zL p];exact w
theorem eB.mono (h:eB U F Y tb bud ls)(hs:∀q,q<U.size->F q->G q):eB U G Y tb bud ls:=dM.mono eB.loc h hs
theorem eB.cut (h:eB U F Y tb bud ls):eB U (Cut F U) Y tb bud ls:=dM.cut eB.loc h
theorem eB.fo {v:Hp}(h:eB v (Grow F U) Y tb bud ls)(e0:Ext F U v)(hb:iK Y.ps k=some b)(hl:ls[k]?=some l):∃G:Rg,iL b l v G ∧
 ∀(σ':Hp) (l':Li) (G':Rg),Ext G v σ'->(∀q,G' q->Grow G v q)->iL b l' σ' G'->Ext F U σ'/\eB σ' (Grow F U) Y tb bud (ls.set k l'):=by
 obtain⟨G,j,p,_,d⟩:=h.vj hb hl;refine⟨G,p,λσ' l' G' e i g=>?_⟩;obtain⟨e1,m⟩:=d σ' l' G' e i g;refine⟨e0.jl e1,m.mono λq _ a=>?_⟩;have:=e0.1;rcases a with a|a
 ·exact a.1
 ·rcases i q a with h2|h2
  ·exact j q h2
  ·exact .inr O
theorem L1 (h:eB U F Y tb bud ls)(hk:k<tb.length){R:Option Addr->Hp->Prop}(hR:∀σ' Y' b,Ext F U σ'->Y'.p=Y.p->iK Y'.ps k=some b->eB σ' (Grow F U) Y' tb bud ls->R (some ⟨b,0,none⟩) σ') :
 Zi.c (aW Y.p) (k:Int) U R:=by
 refine Zi.o ?_;unfold Zi.v;have C:k<ls.length:=by rw[h.len];exact hk
 have B:ls[k]?=some ls[k]:=cV C;generalize ls[k]=l at B;have N:=h.oI;refine U0 h (bV.intro (cB rfl ?_));refine bV.intro (fS O (aG (h.hd.rS rfl ?_)));refine fS aC ?_;refine Jn.intro (aG (h.hd.rM rfl ⟨_,h.map,?_⟩));rw[AD];cases hf:iK Y.ps k with
 | some b=>
  refine cB rfl (aG (h.hd.rM rfl ⟨_,h.map,?_⟩));rw[AD,hf];exact hR U Y b (Ext.refl _ _) rfl hf (h.mono λq _ a=>.inl a)
 | none=>
  refine cD rfl (aG (h.hd.rM rfl (nw (cs:=[.slice none 0 0,.int .i64 1,.int .i64 0]) λv S e D=>?_)));obtain⟨G,H,s,Q,hd,g,w,r⟩:=h.cut.sep.oc CC.loc .mp (.li k) (by intro e;cases e);have L:∀q,G q->F q:=λq a=>(s q a).1;have g:jA Y.m .i64 .p (jP Y.ps) U G:=g;have w:l=ig:=by
   simp only[CC,oH,hf,B]at w;exact w
  have M:=g.2.lt;have E:dL v Y.m .i64 .p (jP Y.ps):=e.fR g.2 id;refine⟨Y.m,_,rfl,E,λv2 A u=>?_⟩;rw[Io hf]at u;have e2:Ext F U v2:=(bK.to e).only A (.inl (L _ g.1));have J:Ext (λq=>G q\/H q) U v2:=(bK.to e).only A (.inl (.inl g.1));have y:bY v2 U.size [.slice none 0 0,.int .i64 1,.int .i64 0]:=Ws A D O;have d:eB v2 (Grow F U) {Y with ps:=Y.ps++[(k,U.size)]} tb bud ls:=by
   refine⟨h.nk,h.ok,h.len,λx i=>?_,?_⟩
   ·rcases zK.1 i with i|i
    ·exact h.keys x i
    ·simp only[zN]at i;subst i;exact hk
   refine(Sep.loc CC.loc).mono (r v2 (CC tb bud ls {Y with ps:=Y.ps++[(k,U.size)]}) G (· = U.size) (λj z K=>?_) J (λq a=>.inl (.inl a)) (λq a=>.inr O) (λq z K=>?_) ⟨g.1,u⟩ ?_ CC.loc) λq _ a=>?_
   ·cases j<;>first|rfl|exact absurd rfl z|skip
    rename_i m;have P:m≠k:=λe=>K (by rw[e]);simp only[CC,Un hf,zB P]
   ·have:=(s q z).2;omega
   ·simp only[CC,Un hf,zR,B,w,oH];exact⟨rfl,fK.nil,⟨none,0,0⟩,y,cX.nil _ _ _ _,zD _⟩
   ·rcases a with a|a|a
    ·exact .inl a.1.1
    ·exact .inl (L q a)
    ·exact .inr O
  refine aG (d.hd.rM rfl ⟨_,d.map,?_⟩);rw[AD,Un hf,zC rfl];exact hR v2 {Y with ps:=Y.ps++[(k,U.size)]} U.size e2 rfl (by show iK (Y.ps++[(k,U.size)]) k=_;rw[Un hf,zC rfl]) d
theorem Gp (h:eB U F Y tb bud ls)(hk:k<tb.length){R:Option Addr->Int->Hp->Prop}(hR:∀σ' Y' b,Ext F U σ'->Y'.p=Y.p->iK Y'.ps k=some b->eB σ' (Grow F U) Y' tb bud ls->R (some ⟨b,0,none⟩) 0 σ') :
 Xj.c (aW Y.p) (k:Int) U R:=by
 refine Xj.o ?_;unfold Xj.v;exact U0 h (cB rfl (L1 h hk λσ' Y' b e a d g=>cB rfl (hR σ' Y' b e a d g)))
theorem bS.pW {s:Sl}{sz:Nat}{xs:List Value}(h:bS s sz xs U F):s.len<=s.cap:=by
 rcases h.2 with⟨q1,q2⟩|⟨_,_,_,_,_,q,_⟩
 ·omega
 ·exact q
theorem U9 (h:iL b l U G){m:Nat}(hm:m<=l.os.length){R:Sl->Hp->Prop}
 (hR:∀s z σ',Ext (· = b) U σ'->U.size<=z->bS s 1 (Wo (l.os.take m)) σ' (λq=>U.size<=q/\q<z)->iL b (gp m l).2 σ' (λq=>q=b\/z<=q)->R s σ') :
 W5.c (aW b) (m:Int) U R:=by
 refine W5.o ?_;unfold W5.v;obtain⟨X,e,s,J,F,W⟩:=h;have Q:s.len=l.os.length:=by have:=F.1;simp[Wo]at this;omega
 have D:=e.many;have L:=e.low;have g:=cX.sub F (lo:=0) (hi:=m) (mx:=s.cap) O O O;have e1:((Wo l.os).drop (0*1)).take ((m-0)*1)=Wo (l.os.take m):=by simp[Wo]
 rw[e1]at g;refine aG (J.rS rfl (iU (lo:=0) O aC aC (U5 g Vu aC λs1 K V x A=>?_)));have p:=x.bT J id;have B:=aH.bO F x;have w:=cX.sub B (lo:=m) (hi:=s.len) (mx:=s.cap) O O O;have e2:((Wo l.os).drop (m*1)).take ((s.len-m)*1)=Wo (l.os.drop m):=by
  rw[mN (by simp[Wo];omega)];simp[Wo]
 rw[e2]at w;refine aG (p.rS rfl (iU aC aC aC (U5 w Vu aC λs2 N C H i=>?_)));have y:=H.bT p id;refine aG (y.s1 (by simp[mL]) λv3 o3 d=>aG (d.rI rfl (aG (d.rS rfl (aG (d.s1 (by simp[mL]) λv4 o4 r=>?_))))));have a:Ext (· = b) N v4:=o3.ext.trans o4.ext;have S:=J.lt;have E:=x.1;have j:s2.len=l.os.length-m:=by rw[C];simp only;omega
 refine hR s1 K.size v4 ((bK.to (x.trans H)).trans a) E ?_ ⟨.inl rfl,xE e,s2,?_,?_,bS.pW i⟩
 ·refine aI.bR (aI.bO (aI.mono A (G:=λq=>U.size<=q/\q<K.size) λq u P=>⟨P,u⟩) H) a λq _ u M=>by omega
 ·have:(if((s2.len:Nat):Int)<(l.low:Int)then((s2.len:Nat):Int)else(l.low:Int))=((min l.low (l.os.length-m):Nat):Int):=by rw[j];split<;>omega
  rw[this]at r;exact r
 ·refine aH.mono (aH.bR i.gY a λq _ u M=>O) λq _ u=>⟨.inr u,O⟩
theorem O7 (h:iL b l U G){sl:Sl}{xs:List Int}{X:Rg}(hs:cX sl 1 (Wo xs) U X)(hx:xs≠[])(hfit:l.os.length+xs.length<=256){R:aN}
 (hR:∀σ',Ext (· = b) U σ'->iL b (eD xs l) σ' (λq=>q=b\/U.size<=q)->R 0 σ'):WR.c (aW b) sl U R:=by
 refine WR.o ?_;unfold WR.v;obtain⟨J,w,s,g,d,H⟩:=h;have C:s.len=l.os.length:=by have:=d.1;simp[Wo]at this;omega
 have F:sl.len=xs.length:=by have:=hs.1;simp[Wo]at this;omega
 have z:=pf.2 hx;have x:eD xs l = {l with os:=l.os++xs}:=by unfold eD;rw[zB O]
 refine aG (g.rS rfl (cP (m:=l.os.length+xs.length) aC O (fS O (aG (g.rS rfl ?_)))));refine Xg.o ?_;unfold Xg.v;refine iU (lo:=0) aC aC aC ?_;have E:=g.lt;refine⟨Wo l.os,Wo xs,by simp[Wo];omega,by simp[Wo];omega,?_,hs.rd,Vu,?_,by simp only;omega,λp=>by simp only at p;omega,λy c r=>?_⟩
 ·by_cases h0:s.len=0
  ·have:l.os=[]:=vQ.1 O;rw[this];simp only[h0,zR];cases s.a<;>simp[Rd,Wo]
  ·simp only[zB h0,uc];have:=d.rd;cases ha:s.a with
   | none=>rw[ha]at this;simpa[Rd]using this
   | some a=>rw[ha]at this;simpa[Rd,Addr.add_zero']using this
 ·simp only;have:(s.len-0+sl.len)*8<=256*8:=lR O O;omega
 ·refine nw λv K e u=>aG ((e.bT g id).s1 (by simp[mL]) λB o2 i=>?_);have A:l.os.length+xs.length<=c:=by simp only at r;omega
  refine hR B ((bK.to e).trans o2.ext) ?_;rw[x];have:=xM (xs:=xs) w;rw[x]at this;refine⟨.inl rfl,this,⟨some ⟨U.size,0,none⟩,s.len-0+sl.len,c⟩,i,⟨by simp[Wo];omega,.inr ⟨U.size,0,_,⟨.inr (zD _),O⟩,rfl,(Ws o2 u O).q,λj D=>?_⟩⟩,by simp only;omega⟩;simp only[Wo,zl,zP]at D;rw[zH,zz,←zz,zh (by simp[Wo];omega)];simp[Wo]
theorem Mq (h:iL b l U G){sl:Sl}{xs:List Int}{X:Rg}(hs:cX sl 1 (Wo xs) U X)(hfit:¬l.os.length+xs.length<=256)(hxs:xs.length<=1000000){R:aN}
 (hR:R 6 U):WR.c (aW b) sl U R:=by
 refine WR.o ?_;unfold WR.v;obtain⟨j,a,s,i,d,p⟩:=h;have e:s.len=l.os.length:=by have:=d.1;simp[Wo]at this;omega
 have g:sl.len=xs.length:=by have:=hs.1;simp[Wo]at this;omega
 have:=a.many;exact aG (i.rS rfl (cP (m:=l.os.length+xs.length) aC O (lB O hR)))
end Go.Ar
namespace Go.Ar
open Go Go.Vc Go.Proofs
variable {U:Hp}{F G:Rg}{Y:gK}{tb:List bZ}{bud:Nat}{ls:List Li}{b k:Nat}{l:Li}{c:bZ}
theorem eB.cls (h:eB U F Y tb bud ls)(hc:tb[k]?=some c):c.ok/\k<tb.length:=⟨h.ok c (zG hc),(cW.1 hc).1⟩
theorem iL.st {v:Hp}(h:iL b l U G){s:Sl}{l':Li}(ho:Ext (· = b) U v)(hb:bY v b (mL s l'))(hs:cX s 1 (Wo l'.os) U (λq=>G q/\q≠b))(hc:s.len<=s.cap)(ok:fK l'):iL b l' v G:=
 ⟨h.1,ok,s,hb,aH.bR hs ho λq _ a d=>a.2 d,hc⟩
theorem kO (h:eB U F Y tb bud ls)(hc:tb[k]?=some c)(hl:ls[k]?=some l){R:Int->Int->Hp->Prop}
 (hR:∀σ' Y',Ext F U σ'->Y'.p=Y.p->eB σ' (Grow F U) Y' tb bud (ls.set k (QX c l).2)->R ((QX c l).1.getD 0) (if(QX c l).1.isSome then 0 else 4) σ'):X4.c (aW Y.p) (k:Int) U R:=by
 obtain⟨u,hk⟩:=h.cls hc;refine X4.o ?_;unfold X4.v;refine Gp h hk λv Y' b e Z hb Q=>cB rfl ?_;obtain⟨G,hL,H⟩:=Q.fo e hb hl;have A:=hL;obtain⟨S,i,s,g,M,w⟩:=hL;have K:=Q.hd;rw[Z]at K;have X:s.len=l.os.length:=by have:=M.1;simp[Wo]at this;omega
 have o1:=i.low;have o2:=i.many;have o3:=i.lim;have o4:=i.mS;have a:=B8 u i;have fin:∀v' G',Ext G v v'->(∀q,G' q->Grow G v q)->iL b (QX c l).2 v' G'->R ((QX c l).1.getD 0) (if(QX c l).1.isSome then 0 else 4) v':=λv' G' W hg N=>by
  obtain⟨e2,h2⟩:=H v' _ G' W hg N;exact hR v' Y' e2 Z h2
 unfold bZ.ok at u;have B:∀{v':Hp},Ext (· = b) v v'->Ext G v v':=λW=>W.sub λq y=>by rw[y];exact S
 refine aG (g.rS rfl ?_);by_cases h0:l.os=[]
 ·have e1:(QX c l).1=none:=by unfold QX;rw[h0];rfl
  have e2:(QX c l).2=if l.lim<c.batch then{l with lim:=l.lim+1}else{l with lim:=min (l.lim+c.batch) 128}:=by unfold QX;rw[h0];rfl
  rw[e1,e2]at fin;rw[e2]at a;refine cD (by simp[X,h0]) (aG (K.rS rfl (sj Q.ju hc (d:=2) O ?_)));simp only[zB (show ¬(2=0) by omega),zB (show ¬(2=1) by omega)];refine aG (g.rI rfl (cQ (λc1=>?_) λc1=>?_))
  ·have z:l.lim<c.batch:=by omega
   rw[zC z]at fin a;refine aG (g.rI rfl (cP (m:=l.lim+1) O O (aG (g.s1 (by simp[mL]) λv' J j=>?_))));exact fin v' G (B J.ext) (λq y=>.inl y) (A.st J.ext j M w a)
  ·have z:¬l.lim<c.batch:=by omega
   rw[zB z]at fin a;refine aG (g.rI rfl (cP (m:=l.lim+c.batch) O O (aG (g.s1 (by simp[mL]) λv' J j=>?_))));refine fin v' G (B J.ext) (λq y=>.inl y) (A.st J.ext ?_ M w a);have:(if(128:Int)<((l.lim+c.batch:Nat):Int)then(128:Int)else((l.lim+c.batch:Nat):Int))=((min (l.lim+c.batch) 128:Nat):Int):=by split<;>omega
   rw[this]at j;exact j
 ·have hpos:=pf.2 h0;obtain⟨x,hx⟩:∃x,l.os[l.os.length-1]?=some x:=⟨_,cV O⟩;have E:l.os.getLast?=some x:=by rw[List.getLast?_eq_getElem?];exact hx
  have e1:(QX c l).1=some x:=by unfold QX;rw[E]
  have e2:(QX c l).2 = {l with os:=l.os.dropLast,low:=min l.low (l.os.length-1)}:=by unfold QX;rw[E]
  rw[e1,e2]at fin;rw[e2]at a;refine cB (by simp only[mf];omega) ?_;refine aG (g.rS rfl (cP (m:=l.os.length-1) aC O (aG (g.rS rfl (M.nr hx (aG (g.rS rfl ?_)))))));have r:=cX.sub M (lo:=0) (hi:=l.os.length-1) (mx:=s.cap) O O O;have ed:((Wo l.os).drop (0*1)).take ((l.os.length-1-0)*1)=Wo l.os.dropLast:=by simp[Wo,ym]
  rw[ed]at r;refine iU (lo:=0) O aC aC (aG (g.s1 (by simp[mL]) λv1 V L=>aG (L.rI rfl (aG (L.s1 (by simp[mL]) λv2 P C=>?_)))));have D:=V.ext.trans P.ext;refine fin v2 G (B D) (λq y=>.inl y) (A.st D ?_ r aC a);have:(if((l.os.length-1:Nat):Int)<(l.low:Int)then((l.os.length-1:Nat):Int)else(l.low:Int))=((min l.low (l.os.length-1):Nat):Int):=by split<;>omega
  rw[this]at C;exact C
theorem IU (h:eB U F Y tb bud ls)(hc:tb[k]?=some c)(hl:ls[k]?=some l){R:Int->Int->Hp->Prop}
 (hR:∀σ' Y',Ext F U σ'->Y'.p=Y.p->eB σ' (Grow F U) Y' tb bud ls->R ((nY c l:Nat):Int) 0 σ'):Yb.c (aW Y.p) (k:Int) U R:=by
 obtain⟨r,y⟩:=h.cls hc;refine Yb.o ?_;unfold Yb.v;refine Gp h y λv Y' b e j A g=>cB rfl ?_;obtain⟨G,w,m⟩:=g.fo e A hl;obtain⟨x,z,s,i,B,u⟩:=w;have a:=g.hd;rw[j]at a;refine aG (i.rI rfl (aG (a.rS rfl (sj g.ju hc (d:=2) O ?_))));simp only[zB (show ¬(2=0) by omega),zB (show ¬(2=1) by omega)];have:(if(c.batch:Int)<(l.lim:Int)then(c.batch:Int)else(l.lim:Int))=((nY c l:Nat):Int):=by unfold nY;split<;>omega
 rw[this];exact hR v Y' e j g
theorem PS (l:List Int)(i:Nat)(h:i<l.length):l.reverse[i]?=l[l.length-1-i]? := by
 rw[List.getElem?_reverse h]
theorem Lu {s:Sl}{xs:List Int}(h:bS s 1 (Wo xs) U F)(hlen:xs.length<=1000000){R:aP}(hR:∀σ',Ext F U σ'->bS s 1 (Wo xs.reverse) σ' F->R σ'):WT.c s U R:=by
 refine WT.o ?_;unfold WT.v;have M:s.len=xs.length:=by have:=h.1;simp[Wo]at this;omega
 let ja (i:Nat):List Int:=(List.range xs.length).map λj=>if j<i\/xs.length-i<=j then xs.getD (xs.length-1-j) 0 else xs.getD j 0
 have kS:∀i,(ja i).length=xs.length:=λi=>by simp[ja]
 have bW:∀i j,j<xs.length->(ja i)[j]?=some (if j<i\/xs.length-i<=j then xs.getD (xs.length-1-j) 0 else xs.getD j 0):=λi j e=>by simp[ja,e]
 have N:ja 0=xs:=by
  apply zo;intro j;by_cases e:j<xs.length
  ·rw[bW 0 j e,zB O];simp[zO,cV e]
  ·rw[zV (by rw[kS];omega),zV O]
 have y:∀i,xs.length<=2*i+1->i<=xs.length->ja i=xs.reverse:=by
  intro i E G;apply zo;intro j;by_cases e:j<xs.length
  ·rw[bW i j e,PS xs j e,zO,zO,cV (show xs.length-1-j<xs.length by omega),cV e];split
   ·rfl
   ·have:xs.length-1-j=j:=by omega
    simp only[this];rfl
  ·rw[zV (by rw[kS];omega),zV aE]
 have step:∀i,2*i+1<xs.length->((ja i).set i (xs.getD (xs.length-1-i) 0)).set (xs.length-1-i) (xs.getD i 0)=ja (i+1):=by
  intro i hi;apply zo;intro j;by_cases e:j<xs.length
  ·rw[bW (i+1) j e,mA,mA];simp only[nK,kS];by_cases e1:xs.length-1-i=j
   ·subst e1;rw[zC rfl,zC O,zC O]
    congr 2;omega
   ·rw[zB e1];by_cases e2:i=j
    ·subst e2;rw[zC rfl,zC O,zC O]
    ·rw[zB e2,bW i j e];by_cases e3:j<i\/xs.length-i<=j
     ·rw[zC e3,zC O]
     ·rw[zB e3,zB O]
  ·rw[zV (by simp[kS];omega),zV (by rw[kS];omega)]
 refine xp ?_;rw[Ud O O];refine UO (a:=bN) (bb:=bN) (λ(i j:Int) v=>∃n:Nat,i=(n:Int)/\j=(xs.length:Int)-1-n/\n<=xs.length/\Ext F U v/\bS s 1 (Wo (ja n)) v F) (λi _ _=>xs.length-i.toNat) ⟨0,rfl,O,O,Ext.refl _ _,by rw[N];exact h⟩ ?_;rintro i j v ⟨n,rfl,rfl,W,ev,z⟩;refine cQ (λL=>?_) λP=>?_
 ·have r:2*n+1<xs.length:=by omega
  have C:(xs.length:Int)-1-n=((xs.length-1-n:Nat):Int):=by omega
  rw[C];have B:=bW n (xs.length-1-n) O;have D:=bW n n O;rw[zB O]at B D;rw[zO]at B D;obtain⟨b,p⟩:∃b,s.a=some ⟨b,0,none⟩:=by
   rcases z.2 with⟨q1,q2⟩|⟨b,cs,_,A,_⟩
   ·omega
   ·exact⟨b,A⟩
  have g:∀u,bS s 1 (Wo (ja n)) u F->∀(j:Nat) (x:Int),(ja n)[j]?=some x->cell u (Addr.add ⟨b,0,none⟩ ((j:Int).toNat*1))=some (.int .i64 x):=λu w j x Q=>by
   obtain⟨J,o,A,K⟩:=w.gY.cell (j:=j) (v:=.int .i64 x) (by simp[Wo,Q]);rw[p]at A;cases A;rw[add_lit,show 0+(j:Int).toNat*1=0+j by omega];exact K
  rw[p];refine⟨λu=>bS s 1 (Wo (ja n)) u F,z,?_⟩;refine ix O O ⟨_,λu w=>g u w _ _ B,?_⟩;refine ix O O ⟨_,λu w=>g u w _ _ D,?_⟩;refine ix O O ?_;refine z.st (j:=n) (by simp[Wo,kS];omega) (λJ d=>by rw[p]at d;cases d;rw[add_lit];simp) λS e1 E=>?_;refine ix O O ?_;refine E.st (j:=xs.length-1-n) (by simp[Wo,kS];omega) (λJ d=>by rw[p]at d;cases d;rw[add_lit];simp) λV e2 G=>?_;refine cP (m:=n+1) O O (cP (m:=xs.length-1-n-1) O O ⟨⟨n+1,rfl,O,O,(ev.trans e1).trans e2,?_⟩,O⟩);rw[←step n r,zO,zO];have H:∀(l:List Int) (i:Nat) (x:Int),Wo (l.set i x)=(Wo l).set i (.int .i64 x):=λl i x=>by simp[Wo,vz]
  rw[H,H];exact G
 ·rw[y n O O]at z;exact hR v ev z
theorem OX (h:iL b l U G){sl:Sl}(hz:sl.len=0){R:aN}(hR:∀σ',Ext (· = b) U σ'->iL b l σ' G->R 0 σ'):WR.c (aW b) sl U R:=by
 refine WR.o ?_;unfold WR.v;have A:=h;obtain⟨D,j,s,z,i,E⟩:=h;have r:s.len=l.os.length:=by have:=i.1;simp[Wo]at this;omega
 have x:=j.many;refine aG (z.rS rfl (cP (m:=l.os.length) aC O (fS O (aG (z.rS rfl ?_)))));refine Xg.o ?_;unfold Xg.v;refine iU (lo:=0) aC aC aC ?_;have d:=cX.sub i (lo:=0) (hi:=s.len) (mx:=s.len) O O O;have C:((Wo l.os).drop (0*1)).take ((s.len-0)*1)=Wo l.os:=by rw[r,mN (by simp[Wo])];simp
 rw[C]at d;have key:∀(e:Sl),cX e 1 (Wo l.os) U (λq=>G q/\q≠b)->e.len<=e.cap->bU (some ⟨b,0,none⟩) λy=>dX (y.add 0) (.slice e.a e.len e.cap) U λv2=>R 0 v2:=λe u w=>by
  refine aG (z.s1 (by simp[mL]) λv2 o2 p=>hR v2 o2.ext ?_);exact A.st (l':=l) (s:=e) o2.ext p u w j
 refine⟨Wo l.os,[],by simp[Wo];omega,by simp[hz],d.rd,by cases sl.a<;>simp[Rd],by simp,?_,by simp only;omega,λB=>?_,λg=>absurd (by simp only[hz];omega) g⟩
 ·simp only[hz];have:(s.len-0+0)*8<=256*8:=lR O O;omega
 ·simp only[hz,jY];cases ha:(if s.len=0 then s.a else s.a.map (·.add (0*1)))
  ·rw[ha]at d;exact key ⟨none,s.len-0,s.len-0⟩ d (zD _)
  ·rw[ha]at d;exact key ⟨some _,s.len-0,s.len-0⟩ d (zD _)
theorem FA (h:iL b l U G){sl:Sl}{xs:List Int}{X:Rg}(hs:cX sl 1 (Wo xs) U X)(hfit:l.os.length+xs.length<=256){R:aN}
 (hR:∀σ',Ext (· = b) U σ'->iL b (eD xs l) σ' (Grow G U)->R 0 σ'):WR.c (aW b) sl U R:=by
 by_cases hx:xs=[]
 ·subst hx;have g:eD [] l=l:=by unfold eD;rw[zB (by simp only[lH]at hfit ⊢;omega)];simp
  refine OX h (by have:=hs.1;simp[Wo]at this;omega) λσ' e a=>hR σ' e ?_;rw[g];exact(iL.loc _ _).mono a λq _ d=>.inl d
 ·exact O7 h hs hx hfit λσ' e a=>hR σ' e ((iL.loc _ _).mono a λq _ d=>d.imp (λe=>by rw[e];exact h.1) id)
theorem Pq (h:eB U F Y tb bud ls)(hc:tb[k]?=some c)(hl:ls[k]?=some l){sl:Sl}{xs:List Int}{X:Rg}(hs:cX sl 1 (Wo xs) U X)(hX:∀q,X q->¬F q)(hfit:l.os.length+xs.length<=256){R:aN}
 (hR:∀σ' Y',Ext F U σ'->Y'.p=Y.p->eB σ' (Grow F U) Y' tb bud (ls.set k (eD xs.reverse l))->R 0 σ'):XZ.c (aW Y.p) (k:Int) sl U R:=by
 obtain⟨u,B⟩:=h.cls hc;have w:sl.len=xs.length:=by have:=hs.1;simp[Wo]at this;omega
 refine XZ.o ?_;unfold XZ.v;refine Gp h B λv Y' b e x D z=>cB rfl ?_;have i:=aH.bR hs e λq _ a=>hX q a;refine U5 i Vu O λs1 H A e1 j=>?_;refine Lu j O λv2 e2 m=>?_;have g:bK v v2:=Ext.fresh e1 e2 λq a=>a;obtain⟨G,s,d⟩:=(z.bO g).fo (e.trans (bK.to g)) D hl;refine FA s m.gY aE λv3 E r=>?_;obtain⟨y,C⟩:=d v3 _ _ (E.sub λq a=>a▸s.1) (λq a=>a) r;exact hR v3 Y' y x C
theorem Z4 {α:Type}{ls:List α}{k:Nat}{l:α}(h:ls[k]?=some l):ls.set k l=ls:=by
 apply zo;intro j;by_cases hj:j=k
 ·subst hj;rw[zL (cW.1 h).1,h]
 ·rw[zk (Ne.symm hj)]
theorem ON (h:eB U F Y tb bud ls)(hc:tb[k]?=some c)(hl:ls[k]?=some l)(x:Int){R:Sl->Int->Hp->Prop}
 (hR:∀σ' Y' s e (Q:Rg),Ext F U σ'->Y'.p=Y.p->(l.os.length+1<=256->e=0)->(∀q,Q q->U.size<=q)->bS s 1 (Wo (dJ c x l).1) σ' Q->eB σ' (λq=>Grow F U q/\¬Q q) Y' tb bud (ls.set k (dJ c x l).2)->R s e σ'):Yw.c (aW Y.p) (k:Int) x U R:=by
 obtain⟨ab,hk⟩:=h.cls hc;refine Yw.o ?_;unfold Yw.v;refine Gp h hk λv Y' b e hp hb h'=>cB rfl ?_;have hσv:=e.1;obtain⟨G,hG,hL,_,S⟩:=h'.vj hb hl;have hblt:b<v.size:=by obtain⟨_,_,s,hbk,_⟩:=hL;exact hbk.lt
 have u:=hL.1;have ad:=hL.2.1;have hmany:=ad.many;have r:∀(σ':Hp) (l':Li) (G':Rg),Ext G v σ'->(∀q,G' q->Grow G v q)->iL b l' σ' G'->Ext F U σ'/\eB σ' (λq=>Grow F U q/\q<v.size/\¬G q\/G' q) Y' tb bud (ls.set k l'):=λσ' l' G' e' hg hL'=>by
  obtain⟨e1,h1⟩:=S σ' l' G' e' hg hL';exact⟨e.jl e1,h1⟩
 have hin:∀{G':Rg} {q:Nat},(∀q,G' q->Grow G v q)->(Grow F U q/\q<v.size/\¬G q\/G' q)->Grow F U q:=λhg a=>by
  rcases a with a|a
  ·exact a.1
  ·rcases hg _ a with H|H
   ·exact hG _ H
   ·exact .inr O
 refine nw (cs:=[.int .i64 x]) λv1 hz1 e1 hb1=>?_;have W:=(iL.loc _ _).bO hL e1;have J:cX ⟨some ⟨v.size,0,none⟩,1,1⟩ 1 (Wo [x]) v1 (· = v.size):=hb1.gY (o:=0) rfl (by simp[Wo]) (λj hj=>by
  simp only[Wo,zT,qT,zY,lH]at hj ⊢;rw[zH])
 by_cases hfit:l.os.length+1<=256
 ·refine FA W J (by simpa using hfit) λv2 e2 B=>cB rfl ?_;have C:Ext G v v2:=(bK.to e1).trans (e2.sub λq a=>a▸u);have K:∀q,Grow G v1 q->Grow G v q:=λq a=>a.imp id λZ=>by omega
  obtain⟨eF2,H⟩:=r v2 _ _ C K B;have i:(eD [x] l).os=l.os++[x]/\(eD [x] l).lim=l.lim/\(eD [x] l).low=l.low:=by unfold eD;rw[zB (by simp only[zY,lH];omega)];exact⟨rfl,rfl,rfl⟩
  have A:=B;obtain⟨_,ok2,s2,g,N,E⟩:=B;have hs2l:s2.len=l.os.length+1:=by have:=N.1;simp[Wo,i.1]at this;omega
  refine aG (g.rS rfl (aG (g.rI rfl ?_)));rw[i.2.1];refine cQ (λc1=>?_) λc1=>?_
  ·have D:l.os.length+1<=l.lim:=by simp only at c1;omega
   have w:dJ c x l=([],eD [x] l):=by unfold dJ;rw[zB O,zC D]
   refine hR v2 Y' _ 0 (λ_=>False) eF2 hp (λ_=>rfl) (λq a=>a.elim) (by rw[w];exact bS.nil _ _ _ _) ?_;rw[w];exact H.mono λq _ a=>⟨hin K a,id⟩
  ·have D:¬l.os.length+1<=l.lim:=by simp only at c1;omega
   have w:dJ c x l=gp (min c.batch (l.os.length+1)) (mb c (eD [x] l)):=by unfold dJ;rw[zB O,zB D]
   have X:=H.hd;rw[hp]at X;refine aG (X.rS rfl (sj H.ju hc (d:=2) O ?_));simp only[zB (show ¬(2=0) by omega),zB (show ¬(2=1) by omega)];refine Jn.intro ?_;have y:∀v3,Ext (· = b) v2 v3->iL b (mb c (eD [x] l)) v3 (Grow G v1)->bU (some ⟨b,0,none⟩) λa62=>jq (a62.add 0) v3 λP=>W5.c (aW b) (if((P.len:Nat):Int)<(c.batch:Int)then((P.len:Nat):Int)else(c.batch:Int)) v3 λt67 v4=>R t67 0 v4:=by
    intro v3 e3 hL3;have aa:=hL3;obtain⟨_,ok3,s3,ac,hs3,hcap3⟩:=hL3;have L:(mb c (eD [x] l)).os=l.os++[x]:=by unfold mb;split<;>exact i.1
    have V:s3.len=l.os.length+1:=by have:=hs3.1;simp[Wo,L]at this;omega
    refine aG (ac.rS rfl ?_);have em:(if((s3.len:Nat):Int)<(c.batch:Int)then((s3.len:Nat):Int)else(c.batch:Int))=((min c.batch (l.os.length+1):Nat):Int):=by rw[V];split<;>omega
    rw[em];refine U9 aa (by rw[L];simp;omega) λs z v4 e4 hz hr hL4=>?_;have e24:Ext (· = b) v2 v4:=e3.trans e4;have e04:Ext G v v4:=C.trans (e24.sub λq a=>a▸u);have hs23:=e3.1;have hs02:=C.1;obtain⟨eF4,h4⟩:=r v4 _ (λq=>q=b\/z<=q) e04 (λq a=>a.imp (λ(Z:q=b)=>by rw[Z];exact u) λ(Z:z<=q)=>O) hL4;refine hR v4 Y' s 0 (λq=>v3.size<=q/\q<z) eF4 hp (λ_=>rfl) (λq a=>O) (by rw[w];exact hr) ?_;rw[w];refine h4.mono λq _ a=>⟨?_,λhQ=>?_⟩
    ·rcases a with a|a|a
     ·exact a.1
     ·subst a;exact hG _ u
     ·exact .inr O
    ·rcases a with a|a|a<;>omega
   refine aG (g.rI rfl ?_);rw[i.2.1];refine cQ (λc2=>?_) λc2=>?_
   ·have c2':l.lim<c.batch:=by omega
    have eu:mb c (eD [x] l) = {eD [x] l with lim:=l.lim+1}:=by unfold mb;rw[i.2.1,zC c2']
    have M:=DE ab ok2;refine aG (g.rI rfl ?_);rw[i.2.1];have hl128:=ad.lim;refine cP (m:=l.lim+1) O O (aG (g.s1 (by simp[mL]) λv3 o3 hb3=>y v3 o3.ext ?_));rw[eu]at M ⊢;exact A.st o3.ext hb3 N E M
   ·have eu:mb c (eD [x] l)=eD [x] l:=by unfold mb;rw[i.2.1,zB O]
    exact y v2 (Ext.refl _ _) (by rw[eu];exact A)
 ·refine Mq W J (by simpa using hfit) aA (cD rfl ?_);have w:dJ c x l=([],l):=by unfold dJ;rw[zC O]
  refine hR v1 Y' _ 6 (λ_=>False) (e.trans (bK.to e1)) hp (λZ=>absurd Z hfit) (λq a=>a.elim) (by rw[w];exact bS.nil _ _ _ _) ?_;rw[w,Z4 hl];exact(h'.bO e1).mono λq _ a=>⟨a,id⟩
end Go.Ar
namespace Go.Ar
open Go Go.Vc Go.Proofs
open Go.Bu (Zb Qx Y8)
variable {U:Hp}{F:Rg}{p hs:Nat}{A:AR}{Y:Lay}{T:Nat->Hp->Rg->Prop}
theorem dG.sG (h:dG U F Y A T){k q:Nat}{c:bZ}{ss:List cG}(h1:Y.fH[k]?=some q)(h2:A.tb[k]?=some c)(h3:A.cE[k]?=some ss) :
 ∃G:Rg,(∀b,G b->F b)/\(∃ps,fD U G q c ps ss)/\(∀j,∃H:Rg,(∀b,H b->F b)/\(∀b,H b->¬G b)/\T j U H)/\∀(σ':Hp) (ss':List cG) (ps':List (Nat×Nat)) (G' H:Rg),
  Ext G U σ'->(∀b,G' b->G b\/U.size<=b)->fD σ' G' q c ps' ss'->(∀b,(F b/\b<U.size/\¬G b\/G' b)->H b)->dG σ' H Y {A with cE:=A.cE.set k ss'} T:=by
 obtain⟨G,d,p,hd,a⟩:=h.step (.cE k);have i:k<A.cE.length:=(cW.1 h3).1;refine⟨G,d,FZ h1 h2 h3 p,λj=>hd (.cM j) (by intro e;cases e),λσ' ss' ps' G' H e g r m=>?_⟩;refine a σ' _ _ T G' H h.lay.kG h.tl Jq e g ?_ m;simp only[AC];rw[h1,h2,zL i];exact⟨ps',r⟩
theorem Ia (h:dG U F Y A T)(k m:Int){R:Sl->Int->Hp->Prop}(hR:∀s σ',Ext F U σ'->bS s 1 (ints (Yc A k m)) σ' (λb=>U.size<=b)->dG σ' (Cut F U) Y (Yu A k m) T->R s (Qp A k m) σ') :
 WB.c (aW Y.p) k m U R:=by
 refine WB.o ?_;unfold WB.v;refine V8 h k (λj=>?_) λx E w=>?_
 ·have e1:Qp A k m=1:=by unfold Qp;rw[j];rfl
  have e2:Yu A k m=A:=by unfold Yu;rw[e1];rfl
  have i:Yc A k m=[]:=by unfold Yc;rw[e1];rfl
  have:=hR ⟨none,0,0⟩ U (Ext.refl _ _) (by rw[i];exact bS.nil _ _ _ _) (by rw[e2];exact h.cut);rw[e1]at this;exact cD rfl this
 ·subst E;have j:A.ck (x:Int)=true:=by unfold AR.ck;simp;omega
  obtain⟨c,ss,q,t,r,B,g,D,_,_,H⟩:=h.at_ w;obtain⟨G,C,⟨K,z⟩,_,d⟩:=h.sG D B g;refine cB rfl (aG (h.hd.rS rfl (h.lx D ?_)));by_cases hm:m<0
  ·have e1:Qp A x m=1:=by unfold Qp;rw[j,zC rfl,zC hm]
   have e2:Yu A x m=A:=by unfold Yu;rw[e1];rfl
   have i:Yc A x m=[]:=by unfold Yc;rw[e1];rfl
   have:=hR ⟨none,0,0⟩ U (Ext.refl _ _) (by rw[i];exact bS.nil _ _ _ _) (by rw[e2];exact h.cut);rw[e1]at this;exact I2 z m hm this
  ·have e1:Qp A x m=0:=by unfold Qp;rw[j,zC rfl,zB hm]
   have y:K0 A x m=QT c m.toNat ss:=by unfold K0;simp only[dE];rw[B,g]
   have e2:Yu A x m = {A with cE:=A.cE.set x (QT c m.toNat ss).2}:=by unfold Yu;rw[e1,zC rfl,y];rfl
   have i:Yc A x m=(QT c m.toNat ss).1:=by unfold Yc;rw[e1,zC rfl,y]
   refine J9 z m O λs σ' e a u=>?_;have:=hR s σ' (e.sub C) (by rw[i];exact a) (by rw[e2];exact d σ' _ _ (Cut G U) _ e (λb J=>.inl J.1) u (Fx C));rw[e1]at this;exact this
theorem MH {k:Nat}{f:gE->gE}:∀j,j≠Lb.cM k->AC {A with cM:=A.cM.modify k f} Y (cK {A with cM:=A.cM.modify k f} Y) j=AC A Y (cK A Y) j:=by
 intro j hj;cases j<;>first|rfl|skip
 rename_i k';have a:k≠k':=λe=>hj (by rw[e]);simp only[AC,cK];simp[r8,a]
theorem eX.jR {k:Nat}{f:gE->gE}(h:eX A Y):eX {A with cM:=A.cM.modify k f} Y:=⟨h.c,h.t,h.cE,by simpa using h.cM,h.nk,h.pR,h.n1,h.n2,h.n3,h.st,h.room,h.ok⟩
theorem dG.rZ (h:dG U F Y A (cK A Y)){k q:Nat}{c:bZ}{t:gE}(h1:Y.fV[k]?=some q)(h2:A.tb[k]?=some c)(h3:A.cM[k]?=some t) :
 ∃G:Rg,(∀b,G b->F b)/\jk U G q c.batch A.room t/\∀(σ':Hp) (f:gE->gE) (G' H:Rg),
  Ext G U σ'->(∀b,G' b->G b\/U.size<=b)->jk σ' G' q c.batch A.room (f t)->(∀b,(F b/\b<U.size/\¬G b\/G' b)->H b)->dG σ' H Y {A with cM:=A.cM.modify k f} (cK {A with cM:=A.cM.modify k f} Y):=by
 obtain⟨G,i,g,hd,a⟩:=h.step (.cM k);have d:jk U G q c.batch A.room t:=by
  simp only[AC,cK]at g;rw[h1,h2,h3]at g;exact g
 refine⟨G,i,d,λσ' f G' H e m r p=>?_⟩;refine a σ' _ _ _ G' H h.lay.jR (λj=>cK.loc j) MH e m ?_ p;simp only[AC,cK];rw[h1,h2,List.getElem?_modify_eq,h3];exact r
theorem HY (h:dG U F Y A (cK A Y))(k:Int){R:Sl->Int->Hp->Prop}(hR:∀s σ',Ext F U σ'->(∀b,ky s b->F b)->cX s 1 (Wo (Ys A k)) σ' (ky s)->s.len<=s.cap->dG σ' (λb=>F b/\¬ky s b) Y (Zt A k) (cK (Zt A k) Y)->R s (ZV A k) σ') :
 Wz.c (aW Y.p) k U R:=by
 refine Wz.o ?_;unfold Wz.v;refine V8 h k (λB=>?_) λx N E=>?_
 ·have e1:ZV A k=1:=by unfold ZV;rw[B];rfl
  have e2:Zt A k=A:=by unfold Zt;rw[e1];rfl
  have w:Ys A k=[]:=by unfold Ys;rw[e1];rfl
  have:=hR ⟨none,0,0⟩ U (Ext.refl _ _) (λb d=>by obtain⟨a,g,_⟩:=d;cases g) (by rw[w];exact cX.nil _ _ _ _) (zD _) (by rw[e2];exact h.mono λb _ d=>⟨d,λ⟨a,g,_⟩=>by cases g⟩);rw[e1]at this;exact cD rfl this
 ·subst N;have B:A.ck (x:Int)=true:=by unfold AR.ck;simp;omega
  obtain⟨c,Q,q,t,r,L,M,S,z,H,P⟩:=h.at_ E;obtain⟨G,D,J,m⟩:=h.rZ H L z;refine cB rfl (aG (h.hd.rS rfl (h.q8 H ?_)));by_cases d:t.bs=[]
  ·have e1:ZV A x=4:=by unfold ZV;rw[B,zC rfl];simp only[dE];rw[z];simp[d]
   have e2:Zt A x=A:=by unfold Zt;rw[e1];rfl
   have w:Ys A x=[]:=by unfold Ys;rw[e1];rfl
   have:=hR ⟨none,0,0⟩ U (Ext.refl _ _) (λb d=>by obtain⟨a,g,_⟩:=d;cases g) (by rw[w];exact cX.nil _ _ _ _) (zD _) (by rw[e2];exact h.mono λb _ d=>⟨d,λ⟨a,g,_⟩=>by cases g⟩);rw[e1]at this;exact PR J d this
  ·have e1:ZV A x=0:=by unfold ZV;rw[B,zC rfl];simp only[dE];rw[z];simp[d]
   have e2:Zt A x = {A with cM:=A.cM.modify x gE.rem}:=by unfold Zt;rw[e1,zC rfl];rfl
   have w:Ys A x=t.bs.getLast?.getD []:=by unfold Ys;rw[e1,zC rfl];simp only[dE];rw[z]
   refine M8 J d λs σ' e j i y C=>?_;have u:∀b,(F b/\b<U.size/\¬G b\/G b/\¬ky s b)->F b/\¬ky s b:=λb d=>by
    rcases d with d|d
    ·exact⟨d.1,λK=>d.2.2 (j b K)⟩
    ·exact⟨D b d.1,d.2⟩
   have:=hR s σ' (e.sub D) (λb d=>D b (j b d)) (by rw[w];exact i) y (by rw[e2];exact m σ' _ (λb=>G b/\¬ky s b) _ e (λb d=>.inl d.1) C u);rw[e1]at this;exact this
theorem M7 (h:dG U F Y A (cK A Y))(k:Int){sl:Sl}{xs:List Int}{X:Rg}(hs:cX sl 1 (Wo xs) U X)(hi:∀x∈xs,iC x){R:Bool->Int->Hp->Prop}(hR:∀σ',Ext F U σ'->dG σ' (Grow F U) Y (QR A k xs) (cK (QR A k xs) Y)->R (KU A k xs) (UT A k xs) σ') :
 WE.c (aW Y.p) k sl U R:=by
 refine WE.o ?_;unfold WE.v;have w:sl.len=xs.length:=by have:=hs.1;simp[Wo]at this;omega
 have W:∀e:Int,e≠0->UT A k xs=e->R false e U:=λe he C=>by
  have e3:KU A k xs=false:=by unfold KU;rw[zM O];rfl
  have e2:QR A k xs=A:=by unfold QR;rw[e3];rfl
  have:=hR U (Ext.refl _ _) (by rw[e2];exact h.mono λb _ g=>.inl g);rw[C,e3]at this;exact this
 refine V8 h k (λhk=>cD rfl (W 1 aB (by unfold UT;rw[hk];rfl))) λx P Z=>?_;subst P;have hk:A.ck (x:Int)=true:=by unfold AR.ck;simp;omega
 obtain⟨c,Q,q,t,r,M,J,hq,ht,hr,hok⟩:=h.at_ Z;obtain⟨G1,ps,hG1,aa⟩:=h.cE hq M J;obtain⟨G,hG,hC,H⟩:=h.rZ hr M ht;have N:UT A x xs=if xs.length=c.batch then(if xs.all (λx=>dY c Q x==some true)then 0 else 8)else 1:=by unfold UT;rw[hk,zC rfl];simp only[dE];rw[M,J]
 refine cB rfl (aG (h.hd.rS rfl (h.uG (d:=2) M O ?_)));simp only[zB (show ¬(2=0) by omega),zB (show ¬(2=1) by omega)];rw[pI];refine cO (λg=>?_) λg=>?_
 ·have:¬xs.length=c.batch:=by rw[←w];simpa using g
  exact W 1 aB (by rw[N,zB this])
 have K:xs.length=c.batch:=by rw[←w];simpa using g
 rw[zC K]at N;have h32:c.batch<=32:=hok.2.2.2.2.2.2.2;refine ZS (a:=bN) (λ(i:Int) v=>∃j:Nat,i=(j:Int)/\j<=xs.length/\v=U/\∀y∈xs.take j,dY c Q y=some true) (λi _=>xs.length-i.toNat) ⟨0,rfl,O,rfl,by simp⟩ ?_;rintro i v ⟨j,rfl,hj,rfl,s⟩;refine cQ (λhlt2=>?_) λhge=>?_
 ·have E:j<xs.length:=by omega
  have P:xs[j]?=some xs[j]:=cV E;have V:xs.take (j+1)=xs.take j++[xs[j]]:=by rw[lI,P];rfl
  have u:=kg E;generalize xs[j]=y at *;have L:dY c Q y≠some true->R false 8 v:=λhn=>W 8 aB (by
   rw[N,zB];intro ha;rw[jW]at ha;exact hn (by simpa using ha y u))
  refine hs.nr P (aG (h.hd.rS rfl (h.lx hq (G4 aa _ (hi y u) (λb g=>?_) λg=>?_))))
  ·refine bV.intro (cB rfl ?_);cases b
   ·exact cD rfl (L (by rw[g];simp))
   ·refine cB rfl (cP (m:=j+1) O O ⟨⟨j+1,rfl,O,rfl,λz hz=>?_⟩,O⟩);rw[V]at hz;rcases zK.1 hz with C|C
    ·exact s z C
    ·simp at C;rw[C];exact g
  ·exact bV.intro (cD rfl (cD rfl (L (by rw[g];simp))))
 ·have:j=xs.length:=by omega
  subst this;rw[m7]at s;have B:UT A x xs=0:=by
   rw[N,zC];rw[jW];intro y hy;simp[s y hy]
  have D:KU A x xs=decide (t.bs.length<A.room):=by unfold KU;rw[B];simp only[dE];rw[ht];simp
  refine aG (h.hd.rS rfl (h.q8 hr (Oq hC hs O (λhn=>absurd K hn) (λ_ hf=>?_) λ_ hf σ' e S=>?_)))
  ·rw[zM O]at D;have e2:QR A x xs=A:=by unfold QR;rw[D];rfl
   have:=hR v (Ext.refl _ _) (by rw[e2];exact h.mono λb _ g=>.inl g);rw[B,D]at this;exact this
  ·rw[zJ O]at D;have e2:QR A x xs = {A with cM:=A.cM.modify x λt=>{t with bs:=t.bs++[xs]}}:=by unfold QR;rw[D,zC rfl];rfl
   have:=hR σ' (e.sub hG) (by rw[e2];exact H σ' (λt=>{t with bs:=t.bs++[xs]}) (Grow G v) _ e (λb g=>g) S (HF hG λb g=>g));rw[B,D]at this;exact this
theorem fD.LA {q:Nat}{c:bZ}{ps:List (Nat×Nat)}{ss:List cG}{G:Rg}(h:fD U G q c ps ss):∀s∈ss,s.st<=1024:=by
 intro s hs;obtain⟨i,a⟩:=zQ hs;have b:=(cW.1 a).1;have d:i<ps.length:=by rw[h.len];exact b
 have:=(h.sp _ _ _ (cV d) a).fit;omega
theorem Ou (h:dG U F Y A T)(k:Int){sl:Sl}{xs:List Int}(hi:∀x∈xs,iC x)(hl:xs.length<=1000000)(hcap:sl.len<=sl.cap)
 (hs:(∃X:Rg,cX sl 1 (Wo xs) U X/\∀b,b<U.size->X b->¬F b)\/∃j,∀H,T j U H->cX sl 1 (Wo xs) U H)
 {R:aN} (hR:∀σ',Ext F U σ'->dG σ' (Grow F U) Y (Zr A k xs) T->R (QG A k xs) σ') :
 WM.c (aW Y.p) k sl U R:=by
 refine WM.o ?_;unfold WM.v;have no:∀e:Int,e≠0->QG A k xs=e->R e U:=λe he J=>by
  have e2:Zr A k xs=A:=by unfold Zr;rw[zB O]
  have:=hR U (Ext.refl _ _) (by rw[e2];exact h.mono λb _ d=>.inl d);rw[J]at this;exact this
 refine V8 h k (λhk=>cD rfl (no 1 aB (by unfold QG;rw[hk];rfl))) λx hx N=>?_;subst hx;have hk:A.ck (x:Int)=true:=by unfold AR.ck;simp;omega
 obtain⟨c,g,q,t,r,L,u,hq,_,_,hok⟩:=h.at_ N;obtain⟨G,M,⟨ps,Z⟩,hd,B⟩:=h.sG hq L u;have hX:∃X:Rg,cX sl 1 (Wo xs) U X/\∀b,X b->¬G b:=by
  rcases hs with⟨X,J,h2⟩|⟨j,hj⟩
  ·exact⟨Cut X U,aH.cut J,λb d hg=>h2 b d.2 d.1 (M b hg)⟩
  ·obtain⟨H,_,D,hT⟩:=hd j;exact⟨H,hj H hT,D⟩
 obtain⟨X,E,K⟩:=hX;have S:QG A x xs=iA c g xs:=by unfold QG;rw[hk,zC rfl];simp only[dE];rw[L,u]
 refine cB rfl (aG (h.hd.rS rfl (h.lx hq (RG Z E K hi hl hcap (λD=>?_) λh0 o σ1 e1 m V=>?_))))
 ·refine cD (by simpa using D) (no _ D S)
 ·refine cB rfl ?_;have eS:Zr A x xs=VR {A with cE:=A.cE.set x (cF (xs.foldl (fF c) g))} ((Qc (xs.foldl (fF c) g)).map λs=>(s,c.aF)):=by
   unfold Zr;rw[S,zC h0];simp only[dE];rw[L,u]
  have Q:=B σ1 _ _ (Cut G U) _ e1 (λb d=>.inl d.1) V (Fx M);rw[N6]at m;have C:((Qc (xs.foldl (fF c) g)).map λs=>(s,c.aF)).length<=1000000/\∀r∈((Qc (xs.foldl (fF c) g)).map λs=>(s,c.aF)),r.1<=1000000:=by
   have i:∀(ys:List Int) (ls:List cG),((ys.foldl (fF c) ls).map (·.st))=ls.map (·.st):=by
    intro ys
    induction ys with
    | nil=>intro ls;rfl
    | cons y ys ih=>
     intro ls;rw[qs,ih];unfold fF;split
     ·rename_i j hj;split
      ·rename_i s a;split
       ·simp only[vz];apply zo;intro z;rw[mA];by_cases w:j=z
        ·subst w;rw[zC rfl];have:=(cW.1 a).1;rw[zC (by simpa using this)];simp[a,cG.put]
        ·rw[zB w]
       ·rfl
      ·rfl
     ·rfl
   have W:∀s∈Qc (xs.foldl (fF c) g),s∈g.map (·.st):=by
    intro s a;rw[←i xs g];unfold Qc at a;simp only[zE,zI]at a ⊢;obtain⟨z,w,rfl⟩:=a;exact⟨z,w.1,rfl⟩
   have hfew:=Z.pw;refine⟨?_,λr hr=>?_⟩
   ·have:(Qc (xs.foldl (fF c) g)).length<=(xs.foldl (fF c) g).length:=by
     unfold Qc;rw[zl];exact qe _ _
    have h2:(xs.foldl (fF c) g).length=g.length:=by have:=congrArg List.length (i xs g);simpa using this
    rw[zl];omega
   ·obtain⟨s,a,rfl⟩:=zE.1 hr;obtain⟨z,w,rfl⟩:=zE.1 (W s a);have:=Z.LA z w;simp only;omega
  refine Cd Q m.gY (λb _ d hf=>by have:=hf.2;omega) C.1 C.2 λσ2 e2 P=>?_;have:=hR σ2 ((e1.sub M).trans (e2.sub λb d=>d.1)) ?_
  ·rw[S,h0]at this;exact this
  ·rw[eS];exact P.mono λb _ d=>by
    rcases d with d|d
    ·exact .inl d.1
    ·exact .inr (ze e1.1 d)
theorem Pk (l:List (Nat×Nat))(x:Int):bW (iD l) x=(l.find? λr=>(r.1:Int)==x).map λr=>(r.2:Int):=by
 induction l with
 | nil=>rfl
 | cons r l ih=>
  have:iD (r::l)=((r.1:Int),(r.2:Int))::iD l:=rfl;rw[this,Q6,uE,ih];by_cases h:(r.1:Int)=x
  ·simp[h]
  ·have:((r.1:Int)==x)=false:=by simpa using h
   rw[this,zB h]
theorem IN (l:List (Nat×Nat))(x:Int):cS (iD l) x=iD (l.filter λq=>!((q.1:Int)==x)):=by
 unfold cS iD;rw[vu];rfl
theorem Ii (l:List (Nat×Nat))(x m:Nat):dB (iD l) (x:Int) (m:Int)=iD (cA.mset2 l x m):=by
 unfold dB cA.mset2 iD;have e:(l.map λr=>((r.1:Int),(r.2:Int))).any (λy=>y.1==(x:Int))=l.any λr=>r.1==x:=by
  rw[List.any_map]
  congr 1
  funext r
  exact k5 r.1 x
 rw[e];split
 ·rw[k8,k8];apply ko;intro r _;simp only[Function.comp_def];rw[k5];split<;>rfl
 ·simp
theorem dG.qI (h:dG U F Y A T):F Y.rn/\dL U Y.rn .i64 bN (iD A.runs)/\∀(σ':Hp) (rs:List (Nat×Nat)),Qk U σ' Y.rn->dL σ' Y.rn .i64 bN (iD rs)->dG σ' F Y {A with runs:=rs} T:=by
 obtain⟨G,g,⟨e,p⟩,_,d⟩:=h.step .runs;refine⟨g _ e,p,λσ' rs j m=>?_⟩;exact d σ' _ _ T G _ h.lay.qc h.tl Pf (j.ext.sub λb a=>by subst a;exact e) (λb a=>.inl a) ⟨e,m⟩ (yd g λb a=>a)
theorem R9 (h:dG U F Y A T)(x:Int)(hf:∀r∈A.runs,r.1<=1000000){R:aN}(hR:∀σ',Ext F U σ'->dG σ' (Grow F U) Y (Qo A x) T->R (KG A x) σ') :
 WK.c (aW Y.p) x U R:=by
 refine WK.o ?_;unfold WK.v;obtain⟨L,H,e⟩:=h.qI;refine UY h (cB rfl (aG (h.hd.rM rfl ⟨_,H,?_⟩)));rw[Pk];cases hr:(A.runs.find? λr=>(r.1:Int)==x)with
 | none=>
  have e1:KG A x=8:=by unfold KG pA;rw[hr];rfl
  have e2:Qo A x=A:=by unfold Qo pA;rw[hr]
  have:=hR U (Ext.refl _ _) (by rw[e2];exact h.mono λb _ a=>.inl a);rw[e1]at this;exact cD rfl this
 | some r=>
  have e1:KG A x=0:=by unfold KG pA;rw[hr];rfl
  have e2:Qo A x=Vx {A with runs:=A.runs.filter λq=>!((q.1:Int)==x)} r:=by unfold Qo pA;rw[hr]
  have D:=rU hr;have u:(r.1:Int)=x:=by simpa using sN hr
  refine cB rfl (aG (h.hd.rM rfl ⟨_,H,λm z _ B=>?_⟩));have o1:=z _ rfl;have d:dL m Y.rn .i64 bN (cS (iD A.runs) x):=B;rw[IN]at d;have E:=e m _ o1 d;simp only[zX,pC];refine nw (cs:=[.int .i64 x,.int .i64 (r.2:Int)]) λK M g s=>?_;have C:=E.cut.bO g;have w:cX ⟨some ⟨m.size,0,none⟩,1,1⟩ 2 (rV [r]) K (· = m.size):=by
   refine⟨rfl,.inr ⟨_,0,_,rfl,rfl,s.q,λj Q=>?_⟩⟩;have:rV [r]=[.int .i64 (r.1:Int),.int .i64 (r.2:Int)]:=rfl;rw[this,u,zH]
  refine Cd C w (λb _ a N=>by have:=N.2;omega) aA (λq J=>by simp at J;subst J;exact hf _ D) λv3 P y=>?_;have G:Ext F U v3:=(o1.ext.sub λb a=>by subst a;exact L).trans ((bK.to g).trans (P.sub λb a=>a.1));have:=hR v3 G (by
   rw[e2];exact y.mono λb _ a=>by
    rcases a with a|a
    ·exact .inl a.1
    ·exact .inr (by have:=o1.1;omega))
  rw[e1]at this;exact this
theorem KX (rs:List (Nat×Nat)):∀A:AR,(VR A rs).tb=A.tb/\(VR A rs).room=A.room/\(VR A rs).cM=A.cM/\(VR A rs).cE=A.cE/\(VR A rs).runs=A.runs/\(VR A rs).n=A.n:=by
 induction rs with
 | nil=>intro A;exact⟨rfl,rfl,rfl,rfl,rfl,rfl⟩
 | cons r rs ih=>intro A;exact ih (Vx A r)
theorem VV (A:AR)(k:Int)(xs:List Int):(Zr A k xs).tb=A.tb/\(Zr A k xs).room=A.room/\(Zr A k xs).cM=A.cM/\(Zr A k xs).runs=A.runs/\(Zr A k xs).n=A.n:=by
 unfold Zr;split
 ·split
  ·exact⟨(KX _ _).1,(KX _ _).2.1,(KX _ _).2.2.1,(KX _ _).2.2.2.2.1,(KX _ _).2.2.2.2.2⟩
  ·exact⟨rfl,rfl,rfl,rfl,rfl⟩
 ·exact⟨rfl,rfl,rfl,rfl,rfl⟩
theorem gE.oP (t:gE):∀xs∈t.tick.bs,xs∈t.bs:=λxs h=>sd h
theorem KI {α:Type}{l:List α}{k:Nat}{t:α}{f:α->α}(h:l[k]?=some t):l.modify k f=l.set k (f t):=by
 apply zo;intro i;rw[mA,r8];by_cases hi:k=i
 ·subst hi;have:=(cW.1 h).1;rw[zC rfl,zC this,h];simp
 ·simp[hi]
def yN (A:AR)(Y:Lay)(k r:Nat)(c:bZ)(t:gE)(out:Sl)(sls:List Sl)(j:Nat):Hp->Rg->Prop:=
 if j=k then λU G=>jk U G r c.batch A.room t.tick/\cX out 1 (sls.map pv) U G/\qx sls t.out U G else cK A Y j
theorem yN.loc {k r:Nat}{c:bZ}{t:gE}{out:Sl}{sls:List Sl}(j:Nat):dM (yN A Y k r c t out sls j):=by
 unfold yN;split
 ·exact λU i F G ⟨d,e,g⟩ a b=>⟨jk.loc _ _ _ _ d a b,cX.loc _ _ _ _ _ _ _ e a b,qx.loc _ _ _ _ _ _ g a b⟩
 ·exact cK.loc j
end Go.Ar
namespace Go.Bu
variable {n:Nat}{S:Nat->Bool}
theorem VA {m a k x:Nat}(h:Zx n S m a k=some x):∃j,j<k/\m<=2^j/\a<=2^j/\(Q0 n S j).head?=some x/\∀i,i<j->m<=2^i->a<=2^i->Q0 n S i=[]:=by
 have wx:∀k,Zx n S m a k=none->∀i,i<k->m<=2^i->a<=2^i->Q0 n S i=[]:=by
  intro k
  induction k with
  | zero=>intro _ i hi;omega
  | succ k ih=>
   intro hn i hi d b;rw[Zx]at hn;split at hn
   ·cases hn
   ·rename_i hn';by_cases e:i=k
    ·subst e;rw[zC ⟨d,b⟩]at hn;simpa using hn
    ·exact ih hn' i O d b
 induction k with
 | zero=>simp[Zx]at h
 | succ k ih=>
  rw[Zx]at h;split at h
  ·rename_i y hy;cases h;obtain⟨j,d,b⟩:=ih hy;exact⟨j,O,b⟩
  ·rename_i hn;split at h
   ·rename_i hc;exact⟨k,O,hc.1,hc.2,h,wx k hn⟩
   ·cases h
theorem UE {m a:Nat}:∀{k},Zx n S m a k=none->∀i,i<k->m<=2^i->a<=2^i->Q0 n S i=[]
 | 0,_,i,hi,_,_=>by omega
 | k+1,hn,i,hi,h1,h2=>by
  rw[Zx]at hn;split at hn
  ·cases hn
  ·rename_i hn';by_cases e:i=k
   ·subst e;rw[zC ⟨h1,h2⟩]at hn;simpa using hn
   ·exact UE hn' i O h1 h2
theorem kU (hb:Bounded S n){m a x:Nat}(h:Y8 n S m a=some x):x+m<=n/\∀y,x<=y->y<x+m->S y=true:=by
 obtain⟨j,_,p,_,e,_⟩:=VA h;have b:x∈Q0 n S j:=List.mem_of_head? e;obtain⟨q,rfl,d⟩:=(Qy hb).1 b;have:=ZD hb (Zu.1 d).1;exact⟨O,λy g i=>VJ d (ZZ.2 O)⟩
end Go.Bu
namespace Go.Ar
open Go Go.Vc Go.Proofs
open Go.Bu (Zb Qx Y8)
variable {U:Hp}{F H:Rg}{p hs:Nat}{A:AR}{sp:Sp}{Y:Lay}{T:Nat->Hp->Rg->Prop}
structure W2 (U:Hp) (F H:Rg) (Y:Lay) (A:AR) (T:Nat->Hp->Rg->Prop) (sp:Sp):Prop where
 a:dG U F Y A T
 s:dK U H Y.hs sp
 d:∀b,F b->¬H b
 g:Gl U
 o:iS F
 o2:iS H
def iX (F H:Rg):Rg:=λb=>F b\/H b
theorem W2.lK (h:W2 U F H Y A T sp){σ':Hp}{A':AR}(e:Ext F U σ')(ha:dG σ' F Y A' T):W2 σ' F H Y A' T sp:=
 ⟨ha,dM.bR dK.loc h.s e λb _ i a=>h.d b a i,h.d,h.g.bR e h.o,h.o,h.o2⟩
theorem W2.space (h:W2 U F H Y A T sp){σ':Hp}{sp':Sp}(e:Ext H U σ')(hs:dK σ' H Y.hs sp'):W2 σ' F H Y A T sp':=
 ⟨dM.bR dG.loc h.a e λb _ j i=>h.d b j i,hs,h.d,h.g.bR e h.o2,h.o,h.o2⟩
theorem W2.bO (h:W2 U F H Y A T sp){σ':Hp}(e:bK U σ'):W2 σ' F H Y A T sp:=⟨h.a.bO e,h.s.bO e,h.d,h.g.bO e,h.o,h.o2⟩
theorem W2.cut (h:W2 U F H Y A T sp):W2 U (Cut F U) (Cut H U) Y A T sp:=⟨h.a.cut,dM.cut dK.loc h.s,λb e i=>h.d b e.1 i.1,h.g,h.o.sub λb e=>e.1,h.o2.sub λb e=>e.1⟩
theorem W2.ox (h:W2 U F H Y A T sp){σ':Hp}{A':AR}(e:Ext F U σ')(ha:dG σ' (Grow F U) Y A' T):W2 σ' (Grow F U) (Cut H U) Y A' T sp:=
 ⟨ha,dM.bR dK.loc (dM.cut dK.loc h.s) e λb _ a j=>h.d b j a.1,λb a i=>by
  rcases a with a|a
  ·exact h.d b a i.1
  ·have:=i.2;omega,h.g.bR e h.o,h.o.grow h.g,h.o2.sub λb a=>a.1⟩
theorem W2.Eh (h:W2 U F H Y A T sp){K:Option Addr->Prop}(hK:K (some ⟨Y.hs,0,none⟩)):fU (Addr.add ⟨Y.p,0,none⟩ 1) U K:=h.a.hd.rP rfl hK
theorem Fy (st:List Nat)(a m:Nat):Uv st a (m+1)=iQ (Uv st a m) ((a+m:Nat):Int):=by
 unfold Uv;rw[qm,kC,uO];rfl
theorem RR {a m:Int}(h:fB sp a m≠0):fT sp a m=sp:=by unfold fT;rw[zB h]
theorem Nx {size:Nat}(h1:1<=size)(h:∀j,1<=j->j*size+size<=sp.st.length->fB sp ((j*size:Nat):Int) (size:Int)≠0):cY sp size=none:=by
 unfold cY;rw[ny];intro x hx;obtain⟨j,d,rfl⟩:=zE.1 hx;rw[zc]at d;have b:(j+1)*size<=sp.st.length:=ze (lS size d) (xP _ _);rw[zm,Nat.one_mul]at b;by_cases h0:j=0
 ·subst h0;simp
 ·have:=h j O b;have a:(fB sp ((j*size:Nat):Int) (size:Int)==0)=false:=by simpa only[mf]using this
  rw[a,tu];simp
theorem I5 {size j:Nat}(h1:1<=size)(h0:1<=j)(hf:j*size+size<=sp.st.length)(hm:fB sp ((j*size:Nat):Int) (size:Int)=0)(h:∀i,1<=i->i<j->fB sp ((i*size:Nat):Int) (size:Int)≠0):cY sp size=some (j*size):=by
 unfold cY;have m:j<sp.st.length/size:=by
  rw[Nat.lt_iff_add_one_le,Nat.le_div_iff_mul_le h1,zm,Nat.one_mul];exact hf
 have a:List.range (sp.st.length/size)=List.range j++(j::(List.range (sp.st.length/size-j-1)).map (j+1 + ·)):=by
  apply zo;intro i;rw[List.getElem?_append,xL];by_cases d:i<j
  ·rw[zC d,nj O,nj d]
  ·rw[zB d];by_cases hij:i=j
   ·subst hij;rw[pK,yJ,nj m]
   ·rw[show i-j=(i-j-1)+1 by omega,A9,zg];by_cases hl:i<sp.st.length/size
    ·rw[nj hl,nj O];simp only[zX]
     congr 1;omega
    ·rw[zV (by rw[xL];omega),zV (by rw[xL];omega)];rfl
 rw[a,kC,List.find?_append];have b:((List.range j).map (· * size)).find? (λ(s:Nat)=>s != 0&&fB sp s size==0)=none:=by
  rw[ny];intro x hx;obtain⟨i,d,rfl⟩:=zE.1 hx;rw[zc]at d;by_cases h0:i=0
  ·subst h0;simp
  ·have:=h i O d;have e:(fB sp ((i*size:Nat):Int) (size:Int)==0)=false:=by simpa only[mf]using this
   rw[e,tu];simp
 rw[b,zT,uE];have:(j*size != 0&&fB sp ((j*size:Nat):Int) (size:Int)==0)=true:=by
  rw[hm];have p:0<j*size:=Nat.mul_pos O O;have g:j*size≠0:=by omega
  simp[g]
 rw[this];rfl
theorem Sh (h:W2 U F H Y A T sp){size:Nat}(h1:size=16\/size=32\/size=64){R:aO}(h0:Ut A sp size=none->∀σ',Ext (iX F H) U σ'->W2 σ' F H Y A T sp->R false σ')
 (hR:∀A' sp',Ut A sp size=some (A',sp')->∀σ',Ext (iX F H) U σ'->W2 σ' F H Y A' T sp'->R true σ'):YD.c (aW Y.p) (size:Int) U R:=by
 refine YD.o ?_;unfold YD.v;have hn2:sp.st.length<=1024:=by obtain⟨q,r,l,B,hh⟩:=h.s;exact hh.n2
 have es:∀{a b:Hp},Ext H a b->Ext (iX F H) a b:=λe=>e.sub λb P=>.inr P;have ea:∀{a b:Hp},Ext F a b->Ext (iX F H) a b:=λe=>e.sub λb P=>.inl P;have d:∀j,j*size+size=(j+1)*size:=λj=>by rw[zm,Nat.one_mul]
 refine ZS (a:=bN) (λ(t:Int) v=>∃j:Nat,t=((j*size:Nat):Int)/\1<=j/\j*size<=1024+64/\Ext (iX F H) U v/\W2 v F H Y A T sp/\∀i,1<=i->i<j->i*size+size<=sp.st.length->fB sp ((i*size:Nat):Int) (size:Int)≠0) (λt _=>2000-t.toNat)
  ⟨1,O,zD _,O,Ext.refl _ _,h,λi h1 h2=>O⟩ ?_
 rintro t v ⟨j,rfl,hj,P,e,z,x⟩;refine cP (m:=j*size+size) O O (aG (z.Eh (C5 z.s (cQ (λhlt=>?_) λhge=>?_))))
 ·have hf:j*size+size<=sp.st.length:=by omega
  refine aG (z.Eh (Pz z.s z.g z.o2 _ _ λv2 e2 G=>?_));refine cO (λQ=>?_) λQ=>?_
  ·have M:fB sp ((j*size:Nat):Int) (size:Int)≠0:=by simpa using Q
   rw[RR M]at G;refine cP (m:=(j+1)*size) (by rw[←d];omega) (by rw[←d];omega) ⟨⟨j+1,rfl,O,by rw[←d];omega,e.trans (es e2),z.space e2 G,λi y E D=>?_⟩,by rw[←d];omega⟩;by_cases hij:i=j
   ·subst hij;exact M
   ·exact x i y O D
  ·have V:fB sp ((j*size:Nat):Int) (size:Int)=0:=by simpa using Q
   have X:=z.space e2 G;have N:∀i,i<j->i*size+size<=sp.st.length:=λi Z=>by
    have:(i+1)*size<=j*size:=lS _ Z;rw[d];omega
   have K:=I5 (sp:=sp) O hj hf V λi y E=>x i y E (N i E);have C:Ut A sp size=some ({A with st:=Uv A.st (j*size/16) (size/16),S:=Qx A.n A.S ((j*size:Nat):Int) size},fT sp ((j*size:Nat):Int) size):=by unfold Ut;rw[K]
   have hd16:(j*size)%16=0:=by
    rcases h1 with rfl|rfl|rfl
    ·omega
    ·omega
    ·omega
   refine nz aB (cP (m:=j*size/16) (by rw[Xs O];simp) O ?_);refine ZS (a:=bN) (λ(t:Int) w=>∃i:Nat,t=((j*size/16+i:Nat):Int)/\i<=size/16/\Ext (iX F H) U w/\W2 w F H Y {A with st:=Uv A.st (j*size/16) i} T (fT sp ((j*size:Nat):Int) size)) (λt _=>200-t.toNat)
    ⟨0,O,O,e.trans (es e2),X⟩ ?_
   rintro t w ⟨i,rfl,Z,ew,u⟩;refine cP (m:=j*size+size) O O (nz aB (cP (m:=(j*size+size)/16) (by rw[Xs O];simp) O (cQ (λhlt2=>?_) λhge2=>?_)))
   ·refine aG (u.a.hd.rP rfl (u.a.yU _ λw2 t2 L J=>?_));refine cP (m:=j*size/16+(i+1)) O O ⟨⟨i+1,rfl,O,ew.trans (ea L),?_⟩,O⟩;rw[Fy];exact u.lK L J
   ·have W:i=size/16:=by omega
    subst W;refine aG (u.a.hd.rP rfl (u.a.vJ _ _ λw2 t2 L J=>?_));exact hR _ _ C w2 (ew.trans (ea L)) (u.lK L J)
 ·have K:=Nx (sp:=sp) (size:=size) O λi y D=>by
   by_cases hij:i<j
   ·exact x i y hij D
   ·have:j*size<=i*size:=lS _ O;omega
  have C:Ut A sp size=none:=by unfold Ut;rw[K]
  exact h0 C v e z
theorem Iw {m a:Nat}(h1:1<=m)(h2:m<=64)(ha:a=1\/a=2\/a=4\/a=8\/a=16):Go.Bu.fJ (m:Int) (a:Int)=true:=by
 have b:Go.Bu.eU (a:Int)=true:=by rcases ha with rfl|rfl|rfl|rfl|rfl<;>decide
 unfold Go.Bu.fJ;rw[b];simp only[tG,zF,zU];omega
theorem W2.take (h:W2 U F H Y A T sp){m a:Nat}(hok:Go.Bu.fJ (m:Int) (a:Int)=true){R:Int->Int->Hp->Prop}(h0:Y8 A.n A.S m a=none->∀σ',Ext F U σ'->W2 σ' F H Y A T sp->R 0 6 σ')
 (h1:∀x,Y8 A.n A.S m a=some x->x+m<=A.n->∀σ',Ext F U σ'->W2 σ' F H Y {A with S:=Go.Bu.take A.S x (x+m)} T sp->R (x:Int) 0 σ'):XC.c (aW Y.fr) (m:Int) (a:Int) U R:=by
 have b:Go.Bu.Bounded A.S A.n:=by obtain⟨r,p,j,_⟩:=h.a.free;exact j.jo
 refine h.a.wA _ _ λσ' e i=>?_;have d:=h.lK e i;cases ht:Y8 A.n A.S m a with
 | none=>
  have e1:Go.Bu.iP A.n A.S (m:Int) (a:Int)=6:=by unfold Go.Bu.iP;rw[hok,zC rfl];simp only[dE];rw[ht]
  have e2:Go.Bu.iM A.n A.S (m:Int) (a:Int)=0:=by unfold Go.Bu.iM;rw[hok,zC rfl];simp only[dE];rw[ht]
  have g:Go.Bu.iT A.n A.S (m:Int) (a:Int)=A.S:=by unfold Go.Bu.iT;rw[hok,zC rfl];simp only[dE];rw[ht]
  rw[e1,e2];rw[g]at d;exact h0 ht σ' e d
 | some x=>
  have e1:Go.Bu.iP A.n A.S (m:Int) (a:Int)=0:=by unfold Go.Bu.iP;rw[hok,zC rfl];simp only[dE];rw[ht]
  have e2:Go.Bu.iM A.n A.S (m:Int) (a:Int)=x:=by unfold Go.Bu.iM;rw[hok,zC rfl];simp only[dE];rw[ht]
  have g:Go.Bu.iT A.n A.S (m:Int) (a:Int)=Go.Bu.take A.S x (x+m):=by unfold Go.Bu.iT;rw[hok,zC rfl];simp only[dE];rw[ht]
  rw[e1,e2];rw[g]at d;exact h1 x ht (Go.Bu.kU b ht).1 σ' e d
theorem MG {size:Nat}{A':AR}{sp':Sp}(h:Ut A sp size=some (A',sp')):A'.n=A.n:=by
 unfold Ut at h;split at h
 ·cases h
 ·cases h;rfl
def Fits (U:Hp)(F H F' H':Rg):Prop:=(∀b,F' b->Grow F U b)/\∀b,H' b->H b
theorem Ew (h:W2 U F H Y A T sp){m a no:Nat}(h1:1<=m)(h2:m<=64)(ha:a=1\/a=2\/a=4\/a=8\/a=16)(hn1:1<=no)(hn2:no<=1000){R:Int->Int->Hp->Prop}
 (h0:(cZ A sp m a no).1=none->∀σ',Ext (iX F H) U σ'->W2 σ' F H Y (cZ A sp m a no).2.1 T (cZ A sp m a no).2.2->R 0 6 σ')
 (hR:∀x,(cZ A sp m a no).1=some x->x+m<=A.n->∀σ' F' H',Fits U F H F' H'->Ext (iX F H) U σ'->W2 σ' F' H' Y (cZ A sp m a no).2.1 T (cZ A sp m a no).2.2->R (x:Int) 0 σ') :
 YB.c (aW Y.p) (m:Int) (a:Int) (no:Int) U R:=by
 refine YB.o ?_;unfold YB.v;have G:=Iw h1 h2 ha;have es:∀{a b:Hp},Ext H a b->Ext (iX F H) a b:=λe=>e.sub λb j=>.inr j;have u:∀{a b:Hp},Ext F a b->Ext (iX F H) a b:=λe=>e.sub λb j=>.inl j;have fin:∀(v:Hp) (x:Nat) (A1:AR) (sp1:Sp),Ext (iX F H) U v->x+m<=A.n->W2 v F H Y {A1 with S:=Go.Bu.take A1.S x (x+m)} T sp1->cZ A sp m a no=(some x,dO A1 x m no,sp1) →
  bU (some ⟨Y.p,0,none⟩) λX=>fU (X.add 3) v λV=>Xv.c V (x:Int) (m:Int) v λt55 s=>bU (some ⟨Y.p,0,none⟩) λP=>fU (P.add 4) s λK=>XU.c K (x:Int) (m:Int) (no:Int) s λt63 v3=>R (x:Int) 0 v3:=by
  intro v x A1 sp1 e hxm C y;have aa:x<=1000000:=by have:=h.a.lay.n2;omega
  refine aG (C.a.hd.rP rfl (C.a.Od _ _ λs t2 e2 Q=>?_));have g:=C.lK e2 Q;refine aG (g.a.hd.rP rfl (g.a.Set x m aa hn1 hn2 λv3 t3 e3 M=>?_));have Z:=g.ox e3 M;refine hR x (by rw[y]) hxm v3 (Grow F s) (Cut H s) ⟨λb j=>?_,λb j=>j.1⟩ ((e.trans (u e2)).trans (u e3)) (by rw[y];exact Z);rcases j with j|j
  ·exact .inl j
  ·exact .inr (ze (e.trans (u e2)).1 j)
 refine aG (h.a.hd.rP rfl (h.take G (λE v e C=>?_) λx E B v e C=>?_))
 ·refine Jn.intro (cD rfl ?_);have N:(if(a:Int)>(m:Int)then(a:Int)else(m:Int))=((max m a:Nat):Int):=by
   by_cases hgt:(a:Int)>(m:Int)
   ·rw[zC hgt];omega
   ·rw[zB hgt];omega
  rw[N];refine ZS (a:=bN) (λ(t:Int) w=>w=v/\(t=16\/t=32/\16<max m a\/t=64/\32<max m a)) (λt _=>100-t.toNat) ⟨rfl,.inl rfl⟩ ?_;rintro(t:Int) w ⟨rfl,hcase⟩;have ab:a<=16:=by omega
  refine cQ (λhlt=>?_) λhge=>?_
  ·have:t=16\/t=32:=by omega
   rcases this with rfl|rfl
   ·exact ar O O ⟨⟨rfl,O⟩,by decide⟩
   ·exact ar O O ⟨⟨rfl,O⟩,by decide⟩
  ·have W:t=((QO (max m a):Nat):Int):=by
    unfold QO;by_cases c1:max m a<=16
    ·rw[zC c1];omega
    ·rw[zB c1];by_cases c2:max m a<=32
     ·rw[zC c2];omega
     ·rw[zB c2];omega
   subst W;have L:QO (max m a)=16\/QO (max m a)=32\/QO (max m a)=64:=by omega
   refine Sh C L (λy σ' J r=>?_) λA' z y σ' J r=>?_
   ·have d:cZ A sp m a no=(none,A,sp):=by unfold cZ;rw[E];simp only;rw[y]
    exact cD rfl (h0 (by rw[d]) σ' ((u e).trans J) (by rw[d];exact r))
   ·refine cB rfl (aG (r.a.hd.rP rfl (r.take G (λD s e2 g=>?_) λx D B s e2 g=>?_)))
    ·have d:cZ A sp m a no=(none,A',z):=by unfold cZ;rw[E];simp only;rw[y];simp only;rw[D]
     exact cD rfl (h0 (by rw[d]) s (((u e).trans J).trans (u e2)) (by rw[d];exact g))
    ·have d:cZ A sp m a no=(some x,dO A' x m no,z):=by unfold cZ;rw[E];simp only;rw[y];simp only;rw[D]
     exact cB rfl (fin s x A' z (((u e).trans J).trans (u e2)) (by rw[←MG y];exact B) g d)
 ·have d:cZ A sp m a no=(some x,dO A x m no,sp):=by unfold cZ;rw[E]
  refine Jn.intro (cB rfl (cB rfl (fin v x A sp (u e) B C d)))
theorem Fits.refl:Fits U F H F H:=⟨λb a=>.inl a,λb a=>a⟩
theorem W2.mono {F' H':Rg}(h:W2 U F H Y A T sp)(hF:iS F')(hF2:∀b,b<U.size->F b->F' b)(hH:∀b,H' b->H b)(hH2:∀b,b<U.size->H b->H' b)(hd:∀b,F' b->¬H' b):W2 U F' H' Y A T sp:=
 ⟨h.a.mono hF2,dM.mono dK.loc h.s hH2,hd,h.g,hF,h.o2.sub hH⟩
theorem IJ (h:W2 U F H Y A T sp)(k:Int){R:aN}(hR:∀σ' F' H',Fits U F H F' H'->Ext (iX F H) U σ'->W2 σ' F' H' Y (cL A sp k).1 T (cL A sp k).2->R (KD A sp k) σ') :
 X5.c (aW Y.p) k U R:=by
 refine X5.o ?_;unfold X5.v;refine V8 h.a k (λE=>?_) λx hx N=>?_
 ·have e1:KD A sp k=1:=by unfold KD;rw[E];rfl
  have e2:cL A sp k=(A,sp):=by unfold cL;rw[E];rfl
  have:=hR U F H Fits.refl (Ext.refl _ _) (by rw[e2];exact h);rw[e1]at this;exact cD rfl this
 ·subst hx;have E:A.ck (x:Int)=true:=by unfold AR.ck;simp;omega
  obtain⟨c,K,q,t,r,J,B,hq,_,_,V⟩:=h.a.at_ N;have ht2:=h.a.lay.pR;obtain⟨_,_,_,L,hp4,_⟩:=V;refine cB rfl (aG (h.a.hd.rS rfl (h.a.uG (d:=1) J O ?_)));simp only[zB (show ¬(1=0) by omega),zR];refine cP (m:=x+1) O O ?_;have eE:KD A sp x=match (cZ A sp c.aF 1 (x+1)).1 with
   | some y=>HX c K y
   | none=>6:=by unfold KD;rw[E,zC rfl];simp only[dE];rw[J,B];rfl
  have Z:cL A sp x=match cZ A sp c.aF 1 (x+1)with
   | (some y,A',u)=>(if HX c K y=0 then{A' with cE:=A'.cE.set x (ie c K y)}else A',u)
   | (none,A',u)=>(A',u):=by unfold cL;rw[E,zC rfl];simp only[dE];rw[J,B];rfl
  refine Ew (a:=1) h L O (.inl rfl) O O (λC σ' e w=>?_) λy C hyn σ' F' H' i e w=>?_
  ·have:=hR σ' F H Fits.refl e;rw[eE,Z,C]at this;generalize cZ A sp c.aF 1 (x+1)=g at *;obtain⟨g1,g2,g3⟩:=g;simp only at C;subst C;exact cD rfl (this w)
  ·have z:(cZ A sp c.aF 1 (x+1)).2.1.tb=A.tb/\(cZ A sp c.aF 1 (x+1)).2.1.cE=A.cE:=by
    unfold cZ;split
    ·exact⟨rfl,rfl⟩
    ·split
     ·exact⟨rfl,rfl⟩
     ·rename_i A1 sp1 hga;have:A1.tb=A.tb/\A1.cE=A.cE:=by
       unfold Ut at hga;split at hga
       ·cases hga
       ·cases hga;exact⟨rfl,rfl⟩
      split
      ·exact this
      ·exact this
   have s:=λσ' F' H'=>hR σ' F' H';rw[eE,Z]at s;generalize cZ A sp c.aF 1 (x+1)=g at *;obtain⟨g1,A',u⟩:=g;simp only at C w z s;subst C;simp only at s;have hWc:=w;obtain⟨G,M,⟨ps,hC⟩,_,D⟩:=w.a.sG hq (by rw[z.1];exact J) (by rw[z.2];exact B);have hn2:=h.a.lay.n2;refine cB rfl (aG (w.a.hd.rS rfl (w.a.lx hq (PD hC O (λW v e2=>?_) λX v ps' e2 Q=>?_))))
   ·have:=s v F' H' i (e.jL e2) (by rw[W];exact w.bO e2);rw[W]at this;exact this
   ·have P:=D v _ _ (Grow G σ') _ e2 (λb j=>j) Q (HF M λb j=>j);have S:=w.ox (e2.sub M) P;have:=s v (Grow F' σ') (Cut H' σ') ⟨λb j=>?_,λb j=>i.2 b j.1⟩ (e.dV (e2.sub M) λb j=>?_) (by rw[X];exact S)
    ·rw[X]at this;exact this
    ·rcases j with j|j
     ·exact i.1 b j
     ·exact .inr (ze e.1 j)
    ·rcases i.1 b j with h1|h1
     ·exact .inl (.inl h1)
     ·exact .inr h1
theorem HJ (A:AR)(sp:Sp)(m a no:Nat):(cZ A sp m a no).2.1.tb=A.tb/\(cZ A sp m a no).2.1.cE=A.cE/\(cZ A sp m a no).2.1.cM=A.cM/\(cZ A sp m a no).2.1.room=A.room/\(cZ A sp m a no).2.1.runs=A.runs/\(cZ A sp m a no).2.1.n=A.n:=by
 unfold cZ;split
 ·exact⟨rfl,rfl,rfl,rfl,rfl,rfl⟩
 ·split
  ·exact⟨rfl,rfl,rfl,rfl,rfl,rfl⟩
  ·rename_i A1 sp1 hga;have:A1.tb=A.tb/\A1.cE=A.cE/\A1.cM=A.cM/\A1.room=A.room/\A1.runs=A.runs/\A1.n=A.n:=by
    unfold Ut at hga;split at hga
    ·cases hga
    ·cases hga;exact⟨rfl,rfl,rfl,rfl,rfl,rfl⟩
   split
   ·exact this
   ·exact this
theorem MJ:∀a:Nat,a<17->1<=a->((bits .and .i64 (a:Int) ((a:Int)-1) != 0) = !(a==1||(a==2||(a==4||(a==8||a==16))))):=by decide
theorem IP (h:W2 U F H Y A T sp)(m a:Int){R:Int->Int->Hp->Prop}(hR:∀σ' F' H',Fits U F H F' H'->Ext (iX F H) U σ'->W2 σ' F' H' Y (cA A sp m a).1 T (cA A sp m a).2->R ((ZT A sp m a:Nat):Int) (Qg A sp m a) σ') :
 WJ.c (aW Y.p) m a U R:=by
 refine WJ.o ?_;unfold WJ.v;have J:Q5 m a=false->R 0 1 U:=λu=>by
  have e1:Qg A sp m a=1:=by unfold Qg;rw[u];rfl
  have e2:cA A sp m a=(A,sp):=by unfold cA;rw[u];rfl
  have e3:ZT A sp m a=0:=by unfold ZT;rw[u];rfl
  have:=hR U F H Fits.refl (Ext.refl _ _) (by rw[e2];exact h);rw[e1,e3]at this;exact this
 have d:¬(1<=m/\m<=64/\(a=1\/a=2\/a=4\/a=8\/a=16))->R 0 1 U:=λhn=>J (by
  rw[←pN];intro hp;unfold Q5 at hp;simp at hp;omega)
 refine UY h.a (cB rfl (bV.intro (cQ (λW=>bV.intro (cD rfl (bV.intro (cD rfl (bV.intro (cD rfl (cD rfl (d O)))))))) λW=>?_)));refine bV.intro (cQ (λX=>bV.intro (cD rfl (bV.intro (cD rfl (cD rfl (d O)))))) λX=>?_);refine bV.intro (cQ (λc3=>bV.intro (cD rfl (cD rfl (d O)))) λc3=>?_);refine bV.intro (cQ (λc4=>cD rfl (d O)) λc4=>ar O O ?_);obtain⟨y,rfl⟩:=za (show 0<=m by omega);obtain⟨z,rfl⟩:=za (show 0<=a by omega);rw[MJ z O O];refine cO (λG=>?_) λG=>?_
 ·refine d (λhh=>?_);simp at G;omega
 ·have hz:z=1\/z=2\/z=4\/z=8\/z=16:=by
   simp at G;omega
  have u:Q5 (y:Int) (z:Int)=true:=by
   unfold Q5;simp;omega
  have Q:Qg A sp y z=if(cZ A sp y z 41).1.isSome then 0 else 6:=by unfold Qg;rw[u,zC rfl];rfl
  have S:ZT A sp y z=(cZ A sp y z 41).1.getD 0:=by unfold ZT;rw[u,zC rfl];rfl
  have P:cA A sp y z=match cZ A sp y z 41 with
   | (some x,A',j)=>({A' with runs:=cA.mset2 A'.runs x y},j)
   | (none,A',j)=>(A',j):=by unfold cA;rw[u,zC rfl];rfl
  refine Ew (no:=41) h O O hz O O (λw σ' e B=>?_) λx w hyn σ' F' H' s e B=>?_
  ·have:=hR σ' F H Fits.refl e;rw[Q,P,S,w]at this;generalize cZ A sp y z 41=g at *;obtain⟨V,g2,g3⟩:=g;simp only at w;subst w;exact cD rfl (this B)
  ·have r:=λσ' F' H'=>hR σ' F' H';rw[Q,P,S]at r;generalize cZ A sp y z 41=g at *;obtain⟨V,A',j⟩:=g;simp only at w B r;subst w;simp only at r;obtain⟨Z,hm,C⟩:=B.a.qI;refine cB rfl (aG (B.a.hd.rM rfl ⟨_,_,rfl,hm,λv N K=>?_⟩));have D:dL v Y.rn .i64 bN (dB (iD A'.runs) (x:Int) (y:Int)):=K;rw[Ii]at D;have E:=C v _ N D;have e2:Ext F' σ' v:=N.ext.sub λb M=>by subst M;exact Z
   have L:=B.lK e2 E;exact r v F' H' s (e.dV e2 λb M=>by
    rcases s.1 b M with h1|h1
    ·exact .inl (.inl h1)
    ·exact .inr h1) L
end Go.Ar
namespace Go.Proofs
open Go.Vc
set_option maxRecDepth 100000
end Go.Proofs
namespace Go.Ar
open Go Go.Vc Go.Proofs
variable {U:Hp}{Q:Rg}{key:Nat->Nat}
end Go.Ar
namespace Go.Ar
open Go Go.Vc Go.Proofs
variable {U:Hp}{F:Rg}{p q:Nat}{st:List Nat}
end Go.Ar
namespace Go.Ar
open Go Go.Vc Go.Proofs
open Go.Bu (Zb Qx Y8)
variable {U:Hp}{F H:Rg}{p hs:Nat}{A:AR}{sp:Sp}{Y:Lay}{T:Nat->Hp->Rg->Prop}
theorem dG.cM (h:dG U F Y A (cK A Y)){k q:Nat}{c:bZ}{t:gE}(h1:Y.fV[k]?=some q)(h2:A.tb[k]?=some c)(h3:A.cM[k]?=some t):∃G:Rg,(∀b,G b->F b)/\jk U G q c.batch A.room t:=by
 obtain⟨G,d,a,_⟩:=h.rZ h1 h2 h3;exact⟨G,d,a⟩
def part {α:Type}(f:bZ->α->Nat)(tb:List bZ)(l:List α)(i:Nat):Nat:=(((tb.zip l).take i).map λx=>f x.1 x.2).sum
end Go.Ar
namespace Go.Ar
open Go Go.Vc Go.Proofs
variable {U:Hp}
theorem Ea:∀(xs:List (Int×Int×Int)),uv xs=true↔∀(i:Nat) a b,xs[i]?=some a->xs[i+1]?=some b->a.1<b.1
 | []=>by simp[uv]
 | [x]=>by simp[uv]
 | x::y::l=>by
  have ih:=Ea (y::l);show(decide (x.1<y.1)&&uv (y::l))=true↔_;rw[zF,ih,zU];constructor
  ·rintro⟨h1,h2⟩ i a b d e;cases i with
   | zero=>simp at d e;subst d;subst e;exact h1
   | succ i=>exact h2 i a b (by simpa using d) (by simpa using e)
  ·intro h;exact⟨h 0 x y rfl rfl,λi a b d e=>h (i+1) a b (by simpa using d) (by simpa using e)⟩
theorem Z8 (xs:List (Int×Int×Int)):Qd xs=true↔1<=xs.length/\xs.length<=40/\(∀(i:Nat) t,xs[i]?=some t->VU t.1 t.2.1 t.2.2=true)/\∀(i:Nat) a b,xs[i]?=some a->xs[i+1]?=some b->a.1<b.1:=by
 unfold Qd;simp only[zF,zU,Ea,jW];constructor
 ·rintro⟨h1,h2,h3,h4⟩;exact⟨h1,h2,λi t d=>h3 t (zG d),h4⟩
 ·rintro⟨h1,h2,h3,h4⟩;exact⟨h1,h2,λt d=>by obtain⟨i,e⟩:=zQ d;exact h3 i t e,h4⟩
theorem Gj {s:Sl}{xs:List (Int×Int×Int)}(ha:ic U s xs){R:aO}(hR:∀σ',bK U σ'->R (Qd xs) σ'):Zs.c s U R:=by
 refine Zs.o ?_;unfold Zs.v;have L:∀σ',bK U σ'->¬(1<=xs.length/\xs.length<=40/\(∀(i:Nat) t,xs[i]?=some t->VU t.1 t.2.1 t.2.2=true)/\∀(i:Nat) a b,xs[i]?=some a->xs[i+1]?=some b->a.1<b.1)->R false σ':=λσ' e hn=>by
  have:=hR σ' e;have hf:Qd xs=false:=by rw[←pN,Z8];exact hn
  rw[hf]at this;exact this
 have aa:=ha.1;refine bV.intro (cQ (λc1=>cD rfl (L U (Ext.refl _ _) λh=>O)) λc1=>?_);refine cQ (λc2=>L U (Ext.refl _ _) λh=>O) λc2=>?_;refine ZS (a:=bN) (λ(t:Int) v=>∃i:Nat,t=(i:Int)/\i<=xs.length/\bK U v/\(∀(j:Nat) t,j<i->xs[j]?=some t->VU t.1 t.2.1 t.2.2=true)/\∀(j:Nat) a b,j+1<i->xs[j]?=some a->xs[j+1]?=some b->a.1<b.1) (λt _=>xs.length-t.toNat)
  ⟨0,rfl,O,Ext.refl _ _,λj t h=>O,λj a b h=>O⟩ ?_
 rintro t v ⟨i,rfl,M,e,W,X⟩;have S:=ZN ha e;refine cQ (λhlt=>?_) λhge=>?_
 ·have Q:i<xs.length:=by omega
  have B:xs[i]?=some xs[i]:=cV Q;generalize xs[i]=r at B;obtain⟨x,y,z⟩:=r;refine wU S B ?_;refine nw (cs:=[.int .i64 0,.int .i64 0,.int .i64 0]) λv2 hz2 e2 b2=>b2.s1 aA λv3 o3 b3=>b3.s1 aA λv4 o4 b4=>b4.s1 aA λv5 o5 J=>?_;have e5:bK v v5:=Ext.fresh (Ext.fresh (Ext.fresh e2 o3.ext λi M=>O) o4.ext λi M=>O) o5.ext λi M=>by omega
  refine Jn.intro ⟨(· = v5),rfl,⟨x,λm G=>by rw[G,add_lit,J.cell];rfl,⟨y,λm G=>by rw[G,add_lit,J.cell];rfl,⟨z,λm G=>by rw[G,add_lit,J.cell];rfl,?_⟩⟩⟩⟩;refine DX x y z λv7 Z=>?_;have w:=(Ext.trans e e5).trans Z;have E:(VU x y z=false\/∃a,0<i/\xs[i-1]?=some a/\x<=a.1)->R false v7:=λN=>L v7 w λK=>by
   rcases N with N|⟨a,H,hb1,hb2⟩
   ·have:=K.2.2.1 i _ B;simp only at this;rw[N]at this;cases this
   ·have:=K.2.2.2 (i-1) a (x,y,z) hb1 (by rw[show i-1+1=i by omega];exact B);simp only at this;omega
  cases hc:VU x y z
  ·exact cD rfl (cD rfl (E (.inl hc)))
  ·have next:(∀a,0<i->xs[i-1]?=some a->a.1<x)->Ar .i64 ((i:Int)+1) λg=>(∃i:Nat,g=(i:Int)/\i<=xs.length/\bK U v7/\(∀(j:Nat) t,j<i->xs[j]?=some t->VU t.1 t.2.1 t.2.2=true)/\∀(j:Nat) a b,j+1<i->xs[j]?=some a->xs[j+1]?=some b->a.1<b.1)/\xs.length-g.toNat<xs.length-(i:Int).toNat:=by
    intro H;refine cP (m:=i+1) O O ⟨⟨i+1,rfl,O,w,λj t hj A=>?_,λj a b hj u d=>?_⟩,O⟩
    ·by_cases hji:j=i
     ·subst hji;rw[B]at A;cases A;exact hc
     ·exact W j t O A
    ·by_cases hji:j+1=i
     ·subst hji;rw[B]at d;cases d;exact H a O u
     ·exact X j a b O u d
   refine cB rfl (cQ (λH=>?_) λH=>cB rfl (next λa kE=>O))
   have p:xs[i-1]?=some (xs[i-1]' O):=cV _;generalize xs[i-1]' O=r at p;obtain⟨V,y',z'⟩:=r;have C:=ZN ha w;obtain⟨b,o,g1,g2,g3,g4,g5⟩:=C.2 (i-1) V y' z' p;have Y:=Z.bT J id;refine cP (m:=i-1) O O ?_;rw[g1];refine ix O O ?_;have F:cell v7 ⟨b,o+(((i-1:Nat):Int)).toNat*3+0,none⟩=some (.int .i64 V):=by simpa using g3
   have fin:If (decide (x<=V)) (R false v7) (Ar .i64 ((i:Int)+1) λg=>(∃i:Nat,g=(i:Int)/\i<=xs.length/\bK U v7/\(∀(j:Nat) t,j<i->xs[j]?=some t->VU t.1 t.2.1 t.2.2=true)/\∀(j:Nat) a b,j+1<i->xs[j]?=some a->xs[j+1]?=some b->a.1<b.1)/\xs.length-g.toNat<xs.length-(i:Int).toNat):=by
    refine cQ (λP=>E (.inr ⟨_,O,p,P⟩)) λhgt=>next λa _ D=>?_
    rw[p]at D;cases D;simp only;omega
   rw[add_lit b o];exact⟨Y.rI rfl (fC F fin),fC F (Y.rI rfl fin)⟩
 ·have:i=xs.length:=by omega
  subst this;have K:Qd xs=true:=(Z8 xs).2 ⟨O,O,λi t A=>W i t (cW.1 A).1 A,λi a b u d=>X i a b (cW.1 d).1 u d⟩;have:=hR v e;rw[K]at this;exact this
end Go.Ar
namespace Go.Ar
open Go Go.Vc Go.Proofs
open Go.Bu (Zb Qx Y8)
variable {U:Hp}{F H:Rg}{p hs:Nat}{A:AR}{sp:Sp}{Y:Lay}{T:Nat->Hp->Rg->Prop}
open Classical in
theorem _root_.Go.Vc.Sep.put {L:Type}{C C':L->Hp->Rg->Prop}{U:Hp}{F G:Rg}(hC:∀i,dM (C i))(h:Sep C U F)(i:L)(hd:∀b,G b->¬F b)(hj:∀j,j≠i->C' j=C j)(hi:C' i U G)(hL:dM (C' i)):Sep C' U λb=>F b\/G b:=by
 obtain⟨ρ,h⟩:=h;refine⟨λb=>if G b then i else ρ b,λj=>?_⟩
 by_cases hji:j=i
 ·subst hji;exact hL.mono hi λb _ d=>⟨.inr d,zC d⟩
 ·rw[hj j hji];refine(hC j).mono (h j) λb _ a=>⟨.inl a.1,?_⟩;show(if G b then i else ρ b)=j
  rw[zB λe=>hd b e a.1];exact a.2
def fX (A:AR)(Y:Lay)(T:Nat->Hp->Rg->Prop)(cs:List Value):Lb->Hp->Rg->Prop
 | .hd=>iq Y.p cs
 | i=>AC A Y T i
theorem fX.loc {cs:List Value}(hT:∀k,dM (T k)):∀i,dM (fX A Y T cs i)
 | .hd=>iq.loc _ _
 | .dC=>AC.loc (A:=A) (Y:=Y) hT .dC
 | .free=>AC.loc (A:=A) (Y:=Y) hT .free
 | .nA=>AC.loc (A:=A) (Y:=Y) hT .nA
 | .own=>AC.loc (A:=A) (Y:=Y) hT .own
 | .dN=>AC.loc (A:=A) (Y:=Y) hT .dN
 | .cN=>AC.loc (A:=A) (Y:=Y) hT .cN
 | .runs=>AC.loc (A:=A) (Y:=Y) hT .runs
 | .cE k=>AC.loc (A:=A) (Y:=Y) hT (.cE k)
 | .cM k=>AC.loc (A:=A) (Y:=Y) hT (.cM k)
theorem PT:fX A Y T (kA Y)=AC A Y T:=by
 funext i;cases i<;>rfl
theorem Eu {cs:List Value}(hT:∀k,dM (T k))(h:Sep (fX A Y T cs) U F)(hlen:A.cE.length<=Y.fH.length)(hl:Y.fH.length<=40){vb cp ty:Nat}(hb:bY U vb [.pointer (some ⟨cp,0,none⟩)])(hvb:¬F vb){K:Sl->Hp->Prop}
 (hK:∀s' σ',Ext F U σ'->Sep (fX A {Y with dN:=s',fH:=Y.fH++[cp]} T cs) σ' (Grow F U)->K s' σ'):App Y.dN 1 8 ty [.pointer none] ⟨some ⟨vb,0,none⟩,1,1⟩ U K:=by
 obtain⟨G,g,d,_,a⟩:=h.jS (fX.loc hT) .dN;have d:bS Y.dN 1 (fM Y.fH) U G:=d;have r:Y.dN.len=Y.fH.length:=by have:=d.1;simp[fM]at this;omega
 refine d.app (ys:=[.pointer (some ⟨cp,0,none⟩)]) rfl rfl ?_ (by simp[dQ]) aC aC mG λs' σ' m e i=>hK s' σ' (e.sub g) ?_
 ·intro j u hu;rw[add_lit,zH,hb.cell];exact hu
 refine(Sep.loc (fX.loc hT)).mono (a σ' (fX A {Y with dN:=s',fH:=Y.fH++[cp]} T cs) (Grow G U) (λj p=>?_) e (λb hb=>hb) ?_ (fX.loc hT _)) λb _ hb=>HF g (λb hb=>hb) b hb
 ·cases j<;>first|rfl|exact absurd rfl p|skip
  rename_i k;show jV (Y.fH++[cp])[k]? A.tb[k]? A.cE[k]?=jV Y.fH[k]? A.tb[k]? A.cE[k]?;rcases ku k Y.fH.length with h1|h1
  ·rw[zh h1]
  ·have:A.cE[k]?=none:=zV O;rw[this]
   funext U F
   unfold jV;cases(Y.fH++[cp])[k]?<;>cases Y.fH[k]?<;>cases A.tb[k]?<;>rfl
 ·show bS s' 1 (fM (Y.fH++[cp])) σ' (Grow G U);have:fM (Y.fH++[cp])=fM Y.fH++[.pointer (some ⟨cp,0,none⟩)]:=by simp[fM]
  rw[this];exact i
theorem Ib (hlen:A.cM.length<=Y.fV.length)(tp:Nat)(s':Sl):cK A {Y with cN:=s',fV:=Y.fV++[tp]}=cK A Y:=by
 funext k
 unfold cK;simp only;rcases ku k Y.fV.length with h1|h1
 ·rw[zh h1]
 ·have:A.cM[k]?=none:=zV O;rw[this]
  funext U F
  unfold kM;cases(Y.fV++[tp])[k]?<;>cases Y.fV[k]?<;>cases A.tb[k]?<;>rfl
theorem CQ {cs:List Value}(h:Sep (fX A Y (cK A Y) cs) U F)(hlen:A.cM.length<=Y.fV.length)(hl:Y.fV.length<=40){vb tp ty:Nat}(hb:bY U vb [.pointer (some ⟨tp,0,none⟩)])(hvb:¬F vb){K:Sl->Hp->Prop}
 (hK:∀s' σ',Ext F U σ'->Sep (fX A {Y with cN:=s',fV:=Y.fV++[tp]} (cK A {Y with cN:=s',fV:=Y.fV++[tp]}) cs) σ' (Grow F U)->K s' σ'):App Y.cN 1 8 ty [.pointer none] ⟨some ⟨vb,0,none⟩,1,1⟩ U K:=by
 have g:∀k,dM (cK A Y k):=λk=>cK.loc k;obtain⟨G,i,d,_,a⟩:=h.jS (fX.loc g) .cN;have d:bS Y.cN 1 (fM Y.fV) U G:=d;have s:Y.cN.len=Y.fV.length:=by have:=d.1;simp[fM]at this;omega
 refine d.app (ys:=[.pointer (some ⟨tp,0,none⟩)]) rfl rfl ?_ (by simp[dQ]) aC aC mG λs' σ' p e m=>hK s' σ' (e.sub i) ?_
 ·intro j u hu;rw[add_lit,zH,hb.cell];exact hu
 rw[Ib hlen];refine(Sep.loc (fX.loc g)).mono (a σ' (fX A {Y with cN:=s',fV:=Y.fV++[tp]} (cK A Y) cs) (Grow G U) (λj r=>?_) e (λb hb=>hb) ?_ (fX.loc g _)) λb _ hb=>HF i (λb hb=>hb) b hb
 ·cases j<;>first|rfl|exact absurd rfl r
 ·show bS s' 1 (fM (Y.fV++[tp])) σ' (Grow G U);have:fM (Y.fV++[tp])=fM Y.fV++[.pointer (some ⟨tp,0,none⟩)]:=by simp[fM]
  rw[this];exact m
theorem C7 {cs:List Value}(hT:∀k,dM (T k))(h:Sep (fX A Y T cs) U F){i:Nat}{v:Value}(hi:i<cs.length){K:aP}(hK:∀σ',Ext F U σ'->Sep (fX A Y T (cs.set i v)) σ' F->K σ'):dX (Addr.add ⟨Y.p,0,none⟩ i) v U K:=by
 obtain⟨G,g,d,_,e⟩:=h.jS (fX.loc hT) .hd;have d:iq Y.p cs U G:=d;refine d.2.s1 O λσ' o b=>hK σ' (o.ext.sub λb a=>by subst a;exact g _ d.1) ?_;rw[zH]at b;refine(Sep.loc (fX.loc hT)).mono (e σ' (fX A Y T (cs.set i v)) G (λj m=>?_) (o.ext.sub λb a=>by subst a;exact d.1) (λb a=>.inl a) ⟨d.1,b⟩ (fX.loc hT _)) λb _ a=>yd g (λb a=>a) b a;cases j<;>first|rfl|exact absurd rfl m
theorem lT {cs:List Value}(h:Sep (fX A Y T cs) U F):bY U Y.p cs/\F Y.p:=by
 obtain⟨G,b,d,a⟩:=h.get .hd;exact⟨a,b _ d⟩
theorem Ro {cs:List Value}{i cp tp:Nat}{c:bZ}{ss:List cG}{t:gE}{ps:List (Nat×Nat)}{Gc Gt:Rg}(h:Sep (fX A Y (cK A Y) cs) U F)(hlc:A.cE.length=i)(hlt:A.cM.length=i)(hcp:Y.fH[i]?=some cp)(htp:Y.fV[i]?=some tp)(hc:A.tb[i]?=some c)
 (hC:fD U Gc cp c ps ss) (hTf:jk U Gt tp c.batch A.room t) (d1:∀b,Gc b->¬F b) (d2:∀b,Gt b->¬F b) (d3:∀b,Gc b->¬Gt b) :
 Sep (fX {A with cE:=A.cE++[ss],cM:=A.cM++[t]} Y (cK {A with cE:=A.cE++[ss],cM:=A.cM++[t]} Y) cs) U λb=>(F b\/Gc b)\/Gt b:=by
 have d:∀k,dM (cK A Y k):=λk=>cK.loc k;have u:Sep (fX {A with cE:=A.cE++[ss]} Y (cK A Y) cs) U λb=>F b\/Gc b:=by
  refine h.put (fX.loc d) (.cE i) d1 (λj m=>?_) ?_ (fX.loc d _)
  ·cases j<;>first|rfl|skip
   rename_i k;have g:k≠i:=λe=>m (by rw[e]);show jV Y.fH[k]? A.tb[k]? (A.cE++[ss])[k]?=jV Y.fH[k]? A.tb[k]? A.cE[k]?;rcases ku k i with h2|h2
   ·rw[zh O]
   ·have r:(A.cE++[ss])[k]?=none:=zV (by rw[zP,Bp];omega);have p:A.cE[k]?=none:=zV O;rw[r,p]
  ·show jV Y.fH[i]? A.tb[i]? (A.cE++[ss])[i]? U Gc;rw[hcp,hc,zp O,hlc,pK];exact⟨ps,hC⟩
 refine u.put (fX.loc d) (.cM i) (λb s a=>?_) (λj m=>?_) ?_ (fX.loc (λk=>cK.loc k) _)
 ·rcases a with a|a
  ·exact d2 b s a
  ·exact d3 b a s
 ·cases j<;>first|rfl|skip
  rename_i k;have g:k≠i:=λe=>m (by rw[e]);show kM Y.fV[k]? A.tb[k]? A.room (A.cM++[t])[k]?=kM Y.fV[k]? A.tb[k]? A.room A.cM[k]?;rcases ku k i with h2|h2
  ·rw[zh O]
  ·have r:(A.cM++[t])[k]?=none:=zV (by rw[zP,Bp];omega);have p:A.cM[k]?=none:=zV O;rw[r,p]
 ·show kM Y.fV[i]? A.tb[i]? A.room (A.cM++[t])[i]? U Gt;rw[htp,hc,zp O,hlt,pK];exact hTf
open Classical in
noncomputable def jm {L:Type}(C:L->Hp->Rg->Prop)(S:L->Prop)(i:L):Hp->Rg->Prop:=if S i then C i else xl
theorem jm.loc {L:Type}{C:L->Hp->Rg->Prop}{S:L->Prop}(hC:∀i,dM (C i))(i:L):dM (jm C S i):=by
 unfold jm;split
 ·exact hC i
 ·exact xl.loc
theorem jm.put {L:Type}{C:L->Hp->Rg->Prop}{S:L->Prop}{F G:Rg}(hC:∀i,dM (C i))(h:Sep (jm C S) U F)(i:L)(hd:∀b,G b->¬F b)(hi:C i U G):Sep (jm C λj=>S j\/j=i) U λb=>F b\/G b:=by
 refine h.put (jm.loc hC) i hd (λj a=>?_) ?_ (jm.loc hC i)
 ·unfold jm;by_cases hS:S j
  ·rw[zC (.inl hS),zC hS]
  ·rw[zB (λh=>hS (h.resolve_right a)),zB hS]
 ·unfold jm;rw[zC (.inr rfl)];exact hi
theorem jm.all {L:Type}{C:L->Hp->Rg->Prop}{S:L->Prop}{F:Rg}(h:Sep (jm C S) U F)(hS:∀i,S i):Sep C U F:=by
 have:jm C S=C:=by
  funext i;unfold jm;rw[zC (hS i)]
 rw[this]at h;exact h
theorem jm.one {L:Type}{C:L->Hp->Rg->Prop}(S:L->Prop)(l:L)(h:∀i,S i->C i U λ_=>False):Sep (jm C S) U λ_=>False:=by
 refine⟨λ_=>l,λi=>?_⟩;have:(λ(b:Nat)=>False/\l=i)=λ_=>False:=by funext b;simp
 rw[this];unfold jm;by_cases hS:S i
 ·rw[zC hS];exact h i hS
 ·rw[zB hS];trivial
theorem Se {tb:List bZ}:∀v∈fZ tb,dQ v=true:=by
 intro v hv;simp only[fZ,List.mem_flatMap]at hv;obtain⟨c,_,a⟩:=hv;simp at a;rcases a with rfl|rfl|rfl<;>rfl
theorem US {s:Sl}{xs:List (Int×Int×Int)}(ha:ic U s xs)(hv:Qd xs=true){i:Nat}{c:bZ}(hc:(xs.map ZY)[i]?=some c):xs[i]?=some ((c.size:Int),(c.aF:Int),(c.batch:Int))/\c.ok:=by
 rw[zg,ot]at hc;obtain⟨⟨x,y,z⟩,g,rfl⟩:=hc;obtain⟨c,a,j,e,b,d⟩:=Gk (((Z8 xs).1 hv).2.2.1 i _ g);simp only at e b d;rw[j,g,e,b,d];exact⟨rfl,a⟩
theorem VO {s:Sl}{xs:List (Int×Int×Int)}(ha:ic U s xs)(hv:Qd xs=true){R:Sl->Hp->Prop}(hR:∀s' σ',bK U σ'->cX s' 3 (fZ (xs.map ZY)) σ' (λb=>U.size<=b)->R s' σ'):Wi.c s U R:=by
 refine Wi.o ?_;unfold Wi.v;have D:=(Z8 xs).1 hv;have z:=ha.1;have r:0<(xs.map ZY).length:=by rw[zl];omega
 have C:(xs.map ZY)[0]?=some (xs.map ZY)[0]:=cV r;obtain⟨L,d,a,_⟩:=ha.2 0 _ _ _ (US ha hv C).1;refine cB (by rw[a];rfl) (nw (cs:=[]) λv H e1 K=>?_);have w:=ZN ha e1;refine(bS.nil v (λb=>U.size<=b) 3 (some ⟨U.size,0,none⟩)).app (ys:=fZ (xs.map ZY)) rfl (by rw[VD,zl];omega) ?_ Se aC aC O λs' A J E g=>hR s' A (Ext.fresh e1 E λi m=>m) ?_
 ·rw[a];intro j u hu;have x:=(cW.1 hu).1;rw[VD,zl]at x;have m:j/3<(xs.map ZY).length:=by rw[zl];omega
  have p:(xs.map ZY)[j/3]?=some (xs.map ZY)[j/3]:=cV m;generalize (xs.map ZY)[j/3]=c at p;have e:=Gq p;obtain⟨b,o,y,_,B,G,F⟩:=w.2 (j/3) _ _ _ (US ha hv p).1;rw[a]at y;cases y;rw[add_lit];rcases(by omega:j=3*(j/3)\/j=3*(j/3)+1\/j=3*(j/3)+2)with hj|hj|hj
  ·rw[hj]at hu;rw[e.1]at hu;cases hu;rw[show d+j=d+j/3*3 by omega];exact B
  ·rw[hj]at hu;rw[e.2.1]at hu;cases hu;rw[show d+j=d+j/3*3+1 by omega];exact G
  ·rw[hj]at hu;rw[e.2.2]at hu;cases hu;rw[show d+j=d+j/3*3+2 by omega];exact F
 ·rw[sA]at g;refine aH.mono g.gY λb _ e=>?_;rcases e with h|h
  ·exact h
  ·omega
def fA (n room:Nat)(tb:List bZ):AR:={n:=n,room:=room,tb:=tb,S:=Go.Bu.ir,st:=List.replicate n 0,ow:=λ_=>0,cE:=List.replicate tb.length [],cM:=List.replicate tb.length ⟨0,[]⟩,runs:=[]}
def ji (n room:Nat)(tb:List bZ)(i:Nat):AR:={fA n room tb with cE:=List.replicate i [],cM:=List.replicate i ⟨0,[]⟩}
def kT (xs:List (Int×Int×Int))(n:Nat)(room:Int):Int:=if Qd xs then(if 32<=n/\n%16=0/\0<=room/\room<=8 then 0 else 1)else 2
def S0:Lb->Prop
 | .dN | .cN | .cE _ | .cM _=>True
 | _=>False
theorem Cw {i cp tp:Nat}{c:bZ}{ss:List cG}{t:gE}{ps:List (Nat×Nat)}{Gc Gt:Rg}{dN cN:Sl}(hpos:Y.fH.length=i/\Y.fV.length=i)
 (h:Sep (fX A {Y with dN:=dN,cN:=cN,fH:=Y.fH++[cp],fV:=Y.fV++[tp]} (cK A {Y with dN:=dN,cN:=cN,fH:=Y.fH++[cp],fV:=Y.fV++[tp]}) (kA Y)) U F)
 (hlc:A.cE.length=i) (hlt:A.cM.length=i) (hc:A.tb[i]?=some c) (hC:fD U Gc cp c ps ss) (hTf:jk U Gt tp c.batch A.room t) (d1:∀b,Gc b->¬F b) (d2:∀b,Gt b->¬F b) (d3:∀b,Gc b->¬Gt b) {K:aP}
 (hK:∀σ' Y',Ext F U σ'->Y'.p=Y.p->Y'.hs=Y.hs->Y'.fH.length=i+1->Y'.fV.length=i+1->Sep (fX {A with cE:=A.cE++[ss],cM:=A.cM++[t]} Y' (cK {A with cE:=A.cE++[ss],cM:=A.cM++[t]} Y') (kA Y')) σ' (λb=>(F b\/Gc b)\/Gt b)->K σ') :
 bU (some ⟨Y.p,0,none⟩) λa93=>dX (a93.add 5) (.slice dN.a dN.len dN.cap) U λv25=>bU (some ⟨Y.p,0,none⟩) λa95=>dX (a95.add 6) (.slice cN.a cN.len cN.cap) v25 K:=by
 have m:∀k,dM (cK A {Y with dN:=dN,cN:=cN,fH:=Y.fH++[cp],fV:=Y.fV++[tp]} k):=λk=>cK.loc k;refine aG (C7 (Y:={Y with dN:=dN,cN:=cN,fH:=Y.fH++[cp],fV:=Y.fV++[tp]}) m h (i:=5) (by simp[kA]) λx e1 r=>aG (C7 (Y:={Y with dN:=dN,cN:=cN,fH:=Y.fH++[cp],fV:=Y.fV++[tp]}) m r (i:=6) (by simp[kA]) λw e2 s=>?_));have g:=(fD.loc (c:=c) (ps:=ps) (ss:=ss) (p:=cp)).bR ((fD.loc (c:=c) (ps:=ps) (ss:=ss) (p:=cp)).bR hC e1 λb _ e d=>d1 b e d) e2 λb _ e d=>d1 b e d;have j:=(jk.loc (p:=tp) (batch:=c.batch) (room:=A.room) (t:=t)).bR ((jk.loc (p:=tp) (batch:=c.batch) (room:=A.room) (t:=t)).bR hTf e1 λb _ e d=>d2 b e d) e2 λb _ e d=>d2 b e d;have u:=Ro (cp:=cp) (tp:=tp) s hlc hlt (by simp only;rw[zp O,hpos.1,pK];rfl) (by simp only;rw[zp O,hpos.2,pK];rfl) hc g j d1 d2 d3;exact hK w {Y with dN:=dN,cN:=cN,fH:=Y.fH++[cp],fV:=Y.fV++[tp]} (e1.trans e2) rfl rfl (by simp[hpos.1]) (by simp[hpos.2]) u
theorem qf {cs:List Value}{σ':Hp}(hT:∀k,dM (T k))(h:Sep (fX A Y T cs) U F)(e:bK U σ'):Sep (fX A Y T cs) σ' F:=(Sep.loc (fX.loc hT)).bO h e
theorem Dp {cs:List Value}(hT:∀k,dM (T k))(h:Sep (fX A Y T cs) U F):Sep (fX A Y T cs) U (Cut F U):=(Sep.loc (fX.loc hT)).cut h
theorem RC (n room:Nat)(tb:List bZ)(i:Nat):({ji n room tb i with cE:=(ji n room tb i).cE++[[]],cM:=(ji n room tb i).cM++[⟨0,[]⟩]}:AR)=ji n room tb (i+1):=by
 unfold ji;simp only[←Ao]
theorem IB (n room:Nat)(tb:List bZ):ji n room tb tb.length=fA n room tb:=rfl
theorem MM {i cp tp:Nat}{c:bZ}{ss:List cG}{t:gE}{ps:List (Nat×Nat)}{Gc Gt:Rg}{z:Nat}(hF:∀b,F b->z<=b/\b<U.size)(hpos:Y.fH.length=i/\Y.fV.length=i)(hi:i<40)
 (h:Sep (fX A Y (cK A Y) (kA Y)) U F) (hlc:A.cE.length=i) (hlt:A.cM.length=i) (hc:A.tb[i]?=some c) (hC:fD U Gc cp c ps ss) (hTf:jk U Gt tp c.batch A.room t) (d1:∀b,Gc b->¬F b/\z<=b/\b<U.size) (d2:∀b,Gt b->¬F b/\z<=b/\b<U.size) (d3:∀b,Gc b->¬Gt b) {J4:aP}
 (hK:∀σ' Y',Ext F U σ'->Y'.p=Y.p->Y'.hs=Y.hs->Y'.fH.length=i+1->Y'.fV.length=i+1->Sep (fX {A with cE:=A.cE++[ss],cM:=A.cM++[t]} Y' (cK {A with cE:=A.cE++[ss],cM:=A.cM++[t]} Y') (kA Y')) σ' (λb=>z<=b)->J4 σ') :
 eO U λS=>bU (some ⟨Y.p,0,none⟩) λa80=>gD S .s (a80.add 5) λ(t82:Sl)=>bU (some ⟨Y.p,0,none⟩) λa87=>gD S .s (a87.add 6) λ(t89:Sl)=>
  (Nw (.cells #[.pointer (some ⟨cp,0,none⟩)] 182 (0,0)) U λn84 v21=>And (S v21) <|
   (App t82 1 8 182 [.pointer none] ⟨some n84,1,1⟩ v21 λt85 v22=>And (S v22)<|Nw (.cells #[.pointer (some ⟨tp,0,none⟩)] 184 (0,0)) v22 λn91 v23=>And (S v23)<|App t89 1 8 184 [.pointer none] ⟨some n91,1,1⟩ v23 λt92 v24=>And (S v24) <|
   bU (some ⟨Y.p,0,none⟩) λa93=>dX (a93.add 5) (.slice t85.a t85.len t85.cap) v24 λv25=>bU (some ⟨Y.p,0,none⟩) λa95=>dX (a95.add 6) (.slice t92.a t92.len t92.cap) v25 λv26=>J4 v26) ∧
   (Nw (.cells #[.pointer (some ⟨tp,0,none⟩)] 184 (0,0)) v21 λn911 v27=>And (S v27)<|App t82 1 8 182 [.pointer none] ⟨some n84,1,1⟩ v27 λt851 v28=>And (S v28)<|App t89 1 8 184 [.pointer none] ⟨some n911,1,1⟩ v28 λt921 v29=>And (S v29) <|
   bU (some ⟨Y.p,0,none⟩) λa931=>dX (a931.add 5) (.slice t851.a t851.len t851.cap) v29 λv30=>bU (some ⟨Y.p,0,none⟩) λa951=>dX (a951.add 6) (.slice t921.a t921.len t921.cap) v30 λv31=>J4 v31)) ∧
  (Nw (.cells #[.pointer (some ⟨tp,0,none⟩)] 184 (0,0)) U λn912 v32=>And (S v32)<|Nw (.cells #[.pointer (some ⟨cp,0,none⟩)] 182 (0,0)) v32 λn841 v33=>And (S v33) <|
  App t82 1 8 182 [.pointer none] ⟨some n841,1,1⟩ v33 λt852 v34=>And (S v34)<|App t89 1 8 184 [.pointer none] ⟨some n912,1,1⟩ v34 λt922 v35=>And (S v35) <|
  bU (some ⟨Y.p,0,none⟩) λa932=>dX (a932.add 5) (.slice t852.a t852.len t852.cap) v35 λv36=>bU (some ⟨Y.p,0,none⟩) λa952=>dX (a952.add 6) (.slice t922.a t922.len t922.cap) v36 λv37=>J4 v37):=by
 have G:∀k,dM (cK A Y k):=λk=>cK.loc k;have ac:=fD.loc (c:=c) (ps:=ps) (ss:=ss) (p:=cp);have Q:=jk.loc (p:=tp) (batch:=c.batch) (room:=A.room) (t:=t);refine⟨λm=>bY m Y.p (kA Y),(lT h).1,aG ⟨Y.dN,λm hm=>by rw[add_lit,hm.cell];rfl,aG ⟨Y.cN,λm hm=>by rw[add_lit,hm.cell];rfl,?_⟩⟩⟩;have D:∀(w:Hp) (F1:Rg) (b1 b2:Nat),bK U w->(∀b,F1 b->F b)->Sep (fX A Y (cK A Y) (kA Y)) w F1->bY w b1 [.pointer (some ⟨cp,0,none⟩)]->bY w b2 [.pointer (some ⟨tp,0,none⟩)]->U.size<=b1->U.size<=b2 →
  App Y.dN 1 8 182 [.pointer none] ⟨some ⟨b1,0,none⟩,1,1⟩ w λt85 v28=>And (bY v28 Y.p (kA Y))<|App Y.cN 1 8 184 [.pointer none] ⟨some ⟨b2,0,none⟩,1,1⟩ v28 λt92 v29=>And (bY v29 Y.p (kA Y)) <|
   bU (some ⟨Y.p,0,none⟩) λa93=>dX (a93.add 5) (.slice t85.a t85.len t85.cap) v29 λv30=>bU (some ⟨Y.p,0,none⟩) λa95=>dX (a95.add 6) (.slice t92.a t92.len t92.cap) v30 λv31=>J4 v31:=by
  intro w F1 b1 b2 ew hF1 hw hb1 hb2 hz1 hz2;have y:∀b,F1 b->z<=b/\b<U.size:=λb d=>hF b (hF1 b d);have hsw:=ew.1;refine Eu G hw O O hb1 (λg=>by have:=y _ g;omega) λs1 v28 J ad=>?_;have af:=(lT ad).1;have X:Sep (fX A {Y with dN:=s1,fH:=Y.fH++[cp]} (cK A {Y with dN:=s1,fH:=Y.fH++[cp]}) (kA Y)) v28 (Grow F1 w):=ad;refine⟨af,?_⟩;have c28:Sep (fX A {Y with dN:=s1,fH:=Y.fH++[cp]} (cK A {Y with dN:=s1,fH:=Y.fH++[cp]}) (kA Y)) v28 (λb=>F1 b\/w.size<=b):=X;have L:=J.bT hb2 λg=>by have:=y _ g;omega
  have hb2lt:=hb2.lt;refine CQ c28 aC aC L (λg=>by
   rcases g with g|g
   ·have:=y _ g;omega
   ·omega) λs2 v29 e29 ae=>?_
  refine⟨(lT ae).1,?_⟩;have H:∀b,(F1 b\/w.size<=b)->F b\/U.size<=b:=λb d=>by
   rcases d with d|d
   ·exact .inl (hF1 b d)
   ·exact .inr O
  have j:Ext F U v29:=((bK.to ew).trans (J.sub hF1)).dV e29 H;have M:=ac.bR hC j λb _ d g=>(d1 b d).1 g;have K:=Q.bR hTf j λb _ d g=>(d2 b d).1 g;have hs28:=J.1;refine Cw (F:=Grow (λb=>F1 b\/w.size<=b) v28) hpos ae hlc hlt hc M K (λb d g=>?_) (λb d g=>?_) d3 λw2 Y' e2 p1 p2 p3 p4 h2=>?_
  ·have:=d1 b d;rcases g with(g|g)|g
   ·exact this.1 (hF1 b g)
   ·omega
   ·omega
  ·have:=d2 b d;rcases g with(g|g)|g
   ·exact this.1 (hF1 b g)
   ·omega
   ·omega
  ·refine hK w2 Y' (j.dV e2 λb d=>?_) p1 p2 p3 p4 ((Sep.loc (fX.loc (λk=>cK.loc k))).mono h2 λb _ d=>?_)
   ·rcases d with(d|d)|d
    ·exact .inl (hF1 b d)
    ·exact .inr O
    ·exact .inr O
   ·have hz0:z<=U.size:=by have:=(d1 _ hC.fp);omega
    rcases d with(((d|d)|d)|d)|d
    ·exact(y b d).1
    ·omega
    ·omega
    ·exact(d1 b d).2.1
    ·exact(d2 b d).2.1
 have S0:∀{w:Hp},bK U w->bY w Y.p (kA Y):=λe=>e.bT (lT h).1 id;refine⟨nw (cs:=[.pointer (some ⟨cp,0,none⟩)]) λv21 z21 u V=>⟨S0 u,?_,?_⟩,nw (cs:=[.pointer (some ⟨tp,0,none⟩)]) λv32 z32 x b32=>⟨S0 x,nw (cs:=[.pointer (some ⟨cp,0,none⟩)]) λv33 z33 B b33=>⟨S0 (Ext.trans x B),?_⟩⟩⟩
 ·-- row,box,row
  have h21:=qf G h u;refine Eu G h21 O O V (λg=>by have:=hF _ g;omega) λs1 v22 ab aa=>⟨(lT aa).1,?_⟩;have W:Sep (fX A {Y with dN:=s1,fH:=Y.fH++[cp]} (cK A {Y with dN:=s1,fH:=Y.fH++[cp]}) (kA Y)) v22 (Grow F v21):=aa;have c22:=Dp (λk=>cK.loc k) W;refine nw (cs:=[.pointer (some ⟨tp,0,none⟩)]) λv23 z23 E b23=>?_;have R:=qf (λk=>cK.loc k) c22 E;refine⟨(lT R).1,CQ R aC aC b23 (λg=>by have:=g.2;omega) λs2 v24 e24 P=>⟨(lT P).1,?_⟩⟩;have hs22:=ab.1;have hs23:=E.1;have r:∀b,Cut (Grow F v21) v22 b->F b\/U.size<=b:=λb d=>by
   rcases d.1 with h|h
   ·exact .inl h
   ·exact .inr O
  have j:Ext F U v24:=((((bK.to u).trans ab).jL E)).dV e24 r;have Z:=ac.bR hC j λb _ d g=>(d1 b d).1 g;have N:=Q.bR hTf j λb _ d g=>(d2 b d).1 g;refine Cw (F:=Grow (Cut (Grow F v21) v22) v23) hpos P hlc hlt hc Z N (λb d g=>?_) (λb d g=>?_) d3 λw2 Y' e2 p1 p2 p3 p4 h2=>?_
  ·have:=d1 b d;rcases g with g|g
   ·rcases g.1 with g|g
    ·exact this.1 g
    ·omega
   ·omega
  ·have:=d2 b d;rcases g with g|g
   ·rcases g.1 with g|g
    ·exact this.1 g
    ·omega
   ·omega
  ·refine hK w2 Y' (j.dV e2 λb d=>?_) p1 p2 p3 p4 ((Sep.loc (fX.loc (λk=>cK.loc k))).mono h2 λb _ d=>?_)
   ·rcases d with d|d
    ·exact r b d
    ·exact .inr O
   ·have hz0:z<=U.size:=by have:=(d1 _ hC.fp);omega
    rcases d with((d|d)|d)|d
    ·rcases r b d with h|h
     ·exact(hF b h).1
     ·omega
    ·omega
    ·exact(d1 b d).2.1
    ·exact(d2 b d).2.1
 ·-- box,row,row
  refine nw (cs:=[.pointer (some ⟨tp,0,none⟩)]) λv27 z27 C b27=>⟨S0 (Ext.trans u C),?_⟩;exact D v27 F U.size v21.size (Ext.trans u C) (λb d=>d) (qf G (qf G h u) C) (C.bT V id) b27 (zD _) O
 ·exact D v33 F v32.size U.size (Ext.trans x B) (λb d=>d) (qf G (qf G h x) B) b33 (B.bT b32 id) O (zD _)
theorem xy {P:Hp->Rg->Prop}(hl:dM P){a:Nat}(h:P U λb=>a<=b):P U λb=>a<=b/\b<U.size:=hl.mono h λb e d=>⟨d,e⟩
theorem Ol {n room:Nat}{tb:List bZ}(h1:32<=n)(h2:n<=1024)(h3:n%16=0)(h4:room<=8)(h5:1<=tb.length)(h6:tb.length<=40)(h7:∀c∈tb,c.ok)(hc:Y.fH.length=tb.length)(ht:Y.fV.length=tb.length):eX (fA n room tb) Y:=
 ⟨hc,ht,by simp[fA],by simp[fA],h5,h6,h1,h2,h3,by simp[fA],h4,h7⟩
theorem LV {s:Sl}{xs:List (Int×Int×Int)}(ha:ic U s xs)(hS:dK U H hs sp)(room:Int){R:Option Addr->Int->Hp->Prop}
 (h0:kT xs sp.st.length room≠0->∀σ',bK U σ'->R none (kT xs sp.st.length room) σ')
 (h1:kT xs sp.st.length room=0->∀σ' Y,bK U σ'->Y.hs=hs->dG σ' (λb=>U.size<=b) Y (fA sp.st.length room.toNat (xs.map ZY)) (cK (fA sp.st.length room.toNat (xs.map ZY)) Y)->R (some ⟨Y.p,0,none⟩) 0 σ') :
 QK.c s (some ⟨hs,0,none⟩) room U R:=by
 refine QK.o ?_;unfold QK.v;have hn2:sp.st.length<=1024:=by obtain⟨q,r,l,B,h⟩:=hS;exact h.n2
 refine Gj ha λv e=>?_;cases hv:Qd xs
 ·have e1:kT xs sp.st.length room=2:=by unfold kT;rw[hv];rfl
  have:=h0 (by rw[e1];decide) v e;rw[e1]at this;exact cD rfl this
 have eE:kT xs sp.st.length room=if 32<=sp.st.length/\sp.st.length%16=0/\0<=room/\room<=8 then 0 else 1:=by unfold kT;rw[hv,zC rfl]
 refine cB rfl (C5 (hS.bO e) ?_);have C:¬(32<=sp.st.length/\sp.st.length%16=0/\0<=room/\room<=8)->R none 1 v:=λhn=>by
  rw[zB hn]at eE;have:=h0 (by rw[eE];decide) v e;rw[eE]at this;exact this
 have tm:(((sp.st.length:Nat):Int).tmod 16)=((sp.st.length%16:Nat):Int):=by rw[Qm O];simp
 refine bV.intro (cQ (λc1=>bV.intro (cD rfl (bV.intro (cD rfl (cD rfl (C O)))))) λc1=>nz aB ?_);rw[tm,LI];refine bV.intro (cO (λc2=>bV.intro (cD rfl (cD rfl (C (λh=>by have:=h.2.1;simp[this]at c2))))) λc2=>?_);have c2':sp.st.length%16=0:=by simpa using c2
 refine bV.intro (cQ (λc3=>cD rfl (C O)) λc3=>cQ (λc4=>C O) λc4=>?_);obtain⟨X,rfl⟩:=za (show 0<=room by omega);rw[zC O]at eE;have h1:=h1 eE;simp only[dE]at h1;have hva:=(Z8 xs).1 hv;have Q:=ZN ha e;have hn1:32<=sp.st.length:=by omega
 generalize sp.st.length=n at *;have hlen:s.len=(xs.map ZY).length:=by rw[zl];exact ha.1
 have hcl:∀{σ':Hp} {i:Nat} {c:bZ},ic σ' s xs->(xs.map ZY)[i]?=some c->xs[i]?=some ((c.size:Int),(c.aF:Int),(c.batch:Int))/\c.ok:=λh M=>US h hv M;have J:1<=(xs.map ZY).length/\(xs.map ZY).length<=40:=by rw[zl];omega
 refine VO Q hv λdC v5 e5 htab=>Nv λW op e6 hop hP=>r7 λA z7 e7 hm=>?_;generalize htbd:xs.map ZY=tb at *;refine nw (cs:=[.slice dC.a dC.len dC.cap,.pointer (some ⟨hs,0,none⟩),.pointer none,.pointer none,.pointer (some ⟨op,0,none⟩),.slice none 0 0,.slice none 0 0,.map (some W.size)]) λv8 z8 e8 b8=>?_;refine Go.Bu.rY _ (λg=>absurd ⟨O,O⟩ g) λn' hn' _ _ v9 sb ms e9 hB hfp=>?_;have hnn:n=n':=by omega
 subst hnn;have b9:=e9.bT b8 id;refine aG (b9.s1 aA λv10 gQ b10=>L9 O O c2' λP tp tq L htp htq hTk=>aG ((L.bT b10 id).s1 aA λv12 N b12=>?_));have s5:=e5.1;have s6:=e6.1;have s9:=e9.1;have s10:=gQ.1;have s11:=L.1;have s12:=N.1;have hb8:=b8.lt;have x9:Ext (· = A.size) v9 v12:=(gQ.ext.trans (bK.to L)).trans N.ext;have x5:Ext (· = A.size) v5 v12:=(bK.to (Ext.trans (Ext.trans (Ext.trans e6 e7) e8) e9)).trans x9;have x6:Ext (· = A.size) W v12:=(bK.to (Ext.trans (Ext.trans e7 e8) e9)).trans x9;have x7:Ext (· = A.size) A v12:=(bK.to (Ext.trans e8 e9)).trans x9;have x11:Ext (· = A.size) P v12:=N.ext;have p1:=aH.bR (xy aH htab) x5 λb _ g d=>by omega
 have p2:=(iZ.loc (p:=op) (ow:=λ_=>0)).bR (xy iZ.loc hP) x6 λb _ g d=>by omega
 have p3:dL v12 W.size .i64 bN []:=x7.fR (hm _ _) O;have p5:sI v8.size n Go.Bu.ir v12 (λb=>v8.size<=b/\b<v9.size):=(sI.loc _ _ _).bR (xy (sI.loc _ _ _) ⟨sb,ms,hB,hfp⟩) x9 λb _ g d=>by omega
 have p6:l8 tp (List.replicate n 0) v12 (λb=>v10.size<=b/\b<P.size):=(l8.loc _ _).bR (xy (l8.loc _ _) ⟨tq,hTk,htp,htq⟩) x11 λb _ g d=>by omega
 let Y0:Lay:={p:=A.size,hs:=hs,fr:=v8.size,tr:=tp,op:=op,rn:=W.size,dC:=dC,dN:=⟨none,0,0⟩,cN:=⟨none,0,0⟩,fH:=[],fV:=[]}
 have b12':bY v12 A.size (kA Y0):=b12
 let Cf:=fX (ji n X tb 0) Y0 (cK (ji n X tb 0) Y0) (kA Y0)
 have u:∀i,dM (Cf i):=fX.loc λk=>cK.loc k;have q0:Sep (jm Cf S0) v12 λ_=>False:=jm.one S0 .hd λi V=>by
  cases i<;>first|exact V.elim|exact bS.nil _ _ _ _|exact trivial
 have q1:=jm.put u q0 .dC (G:=λb=>v.size<=b/\b<v5.size) (λb g d=>d) p1;have q2:=jm.put u q1 .own (G:=λb=>v5.size<=b/\b<W.size) (λb g d=>by
  rcases d with d|d
  ·exact d
  ·omega) p2
 have q3:=jm.put u q2 .runs (G:=λb=>b=W.size) (λb g d=>by
  rcases d with(d|d)|d
  ·exact d
  ·omega
  ·omega) ⟨rfl,p3⟩
 have q4:=jm.put u q3 .hd (G:=λb=>b=A.size) (λb g d=>by
  rcases d with((d|d)|d)|d
  ·exact d
  ·omega
  ·omega
  ·omega) ⟨rfl,b12'⟩
 have q5:=jm.put u q4 .free (G:=λb=>v8.size<=b/\b<v9.size) (λb g d=>by
  rcases d with(((d|d)|d)|d)|d
  ·exact d
  ·omega
  ·omega
  ·omega
  ·omega) p5
 have q6:=jm.put u q5 .nA (G:=λb=>v10.size<=b/\b<P.size) (λb g d=>by
  rcases d with((((d|d)|d)|d)|d)|d
  ·exact d
  ·omega
  ·omega
  ·omega
  ·omega
  ·omega) p6
 have q7:Sep Cf v12 λb=>v.size<=b:=by
  refine(Sep.loc u).mono (jm.all q6 λi=>?_) λb _ d=>?_
  ·cases i<;>simp[S0]
  ·rcases d with(((((d|d)|d)|d)|d)|d)|d
   ·exact d.elim
   ·omega
   ·omega
   ·omega
   ·omega
   ·omega
   ·omega
 have e12:bK v v12:=Ext.fresh e5 x5 λi V=>by omega
 have szv:=e.1;refine ZS (a:=bN) (λ(t:Int) w=>∃(i:Nat) (Y:Lay),t=(i:Int)/\i<=tb.length/\Y.p=A.size/\Y.hs=hs/\Y.fH.length=i/\Y.fV.length=i/\bK v w/\Sep (fX (ji n X tb i) Y (cK (ji n X tb i) Y) (kA Y)) w (λb=>v.size<=b)) (λt _=>tb.length-t.toNat)
  ⟨0,Y0,rfl,O,rfl,rfl,rfl,rfl,e12,q7⟩ ?_
 rintro t w ⟨i,Y,rfl,V,aa,Z,hYc,hYt,ew,y⟩;refine cQ (λhlt=>?_) λhge=>?_
 ·have hi':i<tb.length:=by omega
  have M:tb[i]?=some tb[i]:=cV hi';generalize tb[i]=c at M;have haw:=ZN Q ew;obtain⟨hxi,hok⟩:=hcl haw M;refine wU haw hxi ?_;refine nw (cs:=[.int .i64 0,.int .i64 0,.int .i64 0]) λv14 hz14 e14 b14=>b14.s1 aA λv15 o15 b15=>b15.s1 aA λv16 o16 b16=>b16.s1 aA λv17 o17 b17=>?_;have K:bK w v17:=Ext.fresh (Ext.fresh (Ext.fresh e14 o15.ext λi V=>O) o16.ext λi V=>O) o17.ext λi V=>by omega
  have x:bY v17 w.size [.int .i64 (c.size:Int),.int .i64 (c.aF:Int),.int .i64 (c.batch:Int)]:=b17;refine x.rI rfl (x.rI rfl (x.rI rfl (Ru hok λv18 cp E hcp1 hcp2 hCe=>?_)));have b18:=E.bT x id;obtain⟨_,_,_,_,_,_,hbt1,hbt2⟩:=id hok;refine b18.rI rfl (LD hbt1 hbt2 O λv19 tp2 D htp1 htp2 hTf=>Jn.intro ?_);have s14:=K.1;have s18:=E.1;have s19:=D.1;have sw:=ew.1;have hT:∀k,dM (cK (ji n X tb i) Y k):=λk=>cK.loc k;have h19:=qf hT (qf hT (qf hT (Dp hT y) K) E) D;have S:=hCe.bO D;rw[←aa];refine MM (F:=Cut (λb=>v.size<=b) w) (z:=v.size) (ss:=[]) (t:=⟨0,[]⟩) (λb g=>⟨g.1,by have:=g.2;omega⟩) ⟨hYc,hYt⟩ O h19 (by simp[ji]) (by simp[ji]) M S hTf (λb g=>?_) (λb g=>?_) (λb g hb2=>O) λw2 Y' e2 y1 y2 y3 y4 h2=>?_
  ·subst g;exact⟨λd=>by have:=d.2;omega,O,O⟩
  ·subst g;exact⟨λd=>by have:=d.2;omega,O,O⟩
  ·rw[RC]at h2;exact cP (m:=i+1) O O ⟨⟨i+1,Y',rfl,O,y1,y2.trans Z,y3,y4,Ext.fresh (Ext.trans (Ext.trans (Ext.trans ew K) E) D) e2 λb g=>g.1,h2⟩,O⟩
 ·have:i=tb.length:=by omega
  subst this;rw[IB,PT]at y;have hl:eX (fA n X tb) Y:=Ol hn1 hn2 c2' O J.1 J.2 (λc M=>by
   obtain⟨j,hj⟩:=zQ M;exact(hcl Q hj).2) hYc hYt
  have:=h1 w Y (Ext.trans e ew) Z ⟨hl,λk=>cK.loc k,(Sep.loc (AC.loc λk=>cK.loc k)).mono y λb _ g=>ze szv g⟩;rw[aa]at this;exact this
end Go.Ar
namespace Go.Vc
open Go
variable {U:Hp}{F:Rg}{s:Sl}{sz:Nat}{xs:List Value}
def dI (s:Sl)(sz:Nat)(xs:List Value):Hp->Rg->Prop:=λh F=>xs.length=s.len*sz/\(s.len=0/\s.cap=0\/∃b o cs,F b/\s.a=some ⟨b,o,none⟩/\bY h b cs/\s.len<=s.cap/\cs.length=o+s.cap*sz/\(cs.drop o).take xs.length=xs)
theorem dI.loc (s:Sl)(sz:Nat)(xs:List Value):dM (dI s sz xs):=λU g F G h d a=>by
 refine⟨h.1,h.2.imp id ?_⟩;rintro⟨b,o,cs,hq,ha,⟨e,he⟩,r⟩;have:=a b (bY.lt ⟨e,he⟩) hq;exact⟨b,o,cs,this.1,ha,⟨e,this.2.trans he⟩,r⟩
theorem dI.nil (h:Hp)(F:Rg)(sz:Nat)(a:Option Addr):dI ⟨a,0,0⟩ sz [] h F:=⟨by simp,.inl ⟨rfl,rfl⟩⟩
theorem bS.o (h:bS s sz xs U F):dI s sz xs U F:=⟨h.1,h.2.imp id λ⟨b,d,g,i,j,a,e,m⟩=>⟨b,0,d,g,i,j,a,O,by simpa using m⟩⟩
theorem dI.gY (h:dI s sz xs U F):cX s sz xs U F:=by
 refine⟨h.1,?_⟩;rcases h.2 with⟨hl,_⟩|⟨b,o,cs,hq,ha,hb,_,_,ht⟩
 ·left;have:=h.1;rw[hl]at this;simpa using this
 ·refine .inr ⟨b,o,cs,hq,ha,hb.q,λj a=>?_⟩;rw[←ht,zj,kL,zC a]
theorem dI.cap (h:dI s sz xs U F):s.len<=s.cap:=by
 rcases h.2 with⟨q1,q2⟩|⟨_,_,_,_,_,_,q,_⟩
 ·omega
 ·exact q
theorem dI.app {x:Sl}{bytes e:Nat}{zs ys:List Value}{K:Sl->Hp->Prop}(ho:dI s sz xs U F)(hz:zs.length=sz)
 (hy:ys.length=x.len*sz) (hr:Rd U x.a ys) (h1:∀v∈ys,dQ v=true) (hb:(s.len+x.len)*bytes<=2^46) (hc:s.len+x.len<=2^62)
 (hx:0<x.len) (hK:∀s' h',s'.len=s.len+x.len->Ext F U h'->dI s' sz (xs++ys) h' (Grow F U)->K s' h'):App s sz bytes e zs x U K:=by
 refine⟨xs,ys,ho.1,hy,ho.gY.rd,hr,h1,hb,hc,λg=>?_,λr c m=>?_⟩
 ·rcases ho.2 with⟨hl,hcap⟩|⟨b,o,cs,hQ,ha,hk,hle,hcl,ht⟩
  ·omega
  ·rw[ha];simp only;rw[add_lit];have u:(s.len+x.len)*sz<=s.cap*sz:=lS _ g;rw[zm]at u;have d:=ho.1;refine VF hk O λh' p i=>hK _ h' rfl (Ext.eM p hQ) ⟨?_,.inr ⟨b,o,_,.inl hQ,rfl,i,g,?_,?_⟩⟩
   ·simp[d,hy,zm]
   ·simp;omega
   ·rw[zP,d,jY];have e1:(cs.take (o+s.len*sz)++ys++cs.drop (o+s.len*sz+ys.length)).drop o=(cs.drop o).take (s.len*sz)++(ys++cs.drop (o+s.len*sz+ys.length)):=by
     rw[zz,List.drop_append_of_le_length (by rw[zZ];omega),List.drop_take]
     congr 2;omega
    have j:(cs.drop o).take (s.len*sz)=xs:=by rw[←d];exact ht
    rw[e1,j,←zz,nX aE,mN aE]
 ·refine hK _ _ rfl (Ext.push _ _ _) ⟨by simp[ho.1,hy,zm],.inr ⟨U.size,0,xs++ys++(List.replicate (c-(s.len+x.len)) zs).flatten,.inr (zD _),rfl,⟨e,by simp⟩,m,?_,?_⟩⟩
  ·simp only[zP,wh,uh,vR,ho.1,hy,hz,←zm];rw[zH];congr 1;omega
  ·rw[List.drop_zero,nX aA,mN aA]
theorem dI.sq {x:Sl}{bytes e:Nat}{zs:List Value}{K:Sl->Hp->Prop}(ho:dI s sz xs U F)(hx:x.len=0)(hb:s.len*bytes<=2^46)(hc:s.len<=2^62)(hK:dI ⟨s.a,s.len,s.cap⟩ sz xs U F->K ⟨s.a,s.len,s.cap⟩ U):App s sz bytes e zs x U K:=by
 have d:=ho.cap;refine⟨xs,[],ho.1,by simp[hx],ho.gY.rd,by cases x.a<;>simp[Rd],by simp,by rw[hx];exact hb,O,λg=>?_,λb=>absurd O b⟩
 rw[hx];have:=hK ho;cases ha:s.a<;>(rw[ha]at this;exact this)
theorem dI.from (h:dI s sz xs U F){lo:Nat}(h1:lo<=s.len):dI ⟨if s.cap=lo then s.a else s.a.map (·.add (lo*sz)),s.len-lo,s.cap-lo⟩ sz (xs.drop (lo*sz)) U F:=by
 have d:=h.1;refine⟨by rw[jX,d,Nat.sub_mul],?_⟩;rcases h.2 with⟨q1,q2⟩|⟨b,o,cs,hq,ha,hb,hle,hcl,ht⟩
 ·left;simp only;omega
 ·by_cases hm:s.cap=lo
  ·left;simp only;omega
  ·refine .inr ⟨b,o+lo*sz,cs,hq,by simp only[zB hm,ha,zX,add_lit],hb,by simp only;omega,?_,?_⟩
   ·have:lo*sz<=s.cap*sz:=lS _ O;rw[hcl,Nat.sub_mul];omega
   ·rw[jX]
    conv=>rhs;rw[←ht]
    rw[List.drop_take,List.drop_drop]
end Go.Vc
namespace Go.Ar
open Go Go.Vc Go.Proofs
variable {U:Hp}{F G:Rg}{Y:gK}{tb:List bZ}{bud:Nat}{ls:List Li}{b k:Nat}{l:Li}{c:bZ}
theorem MR {s:Sl}{xs:List (Int×Int×Int)}(ha:ic U s xs)(dA:Int){R:Option Addr->Int->Hp->Prop}(h0:Qd xs=false->∀σ',bK U σ'->R none 2 σ')
 (h1:Qd xs=true->¬(0<=dA/\dA<=65536)->∀σ',bK U σ'->R none 1 σ')
 (h2:Qd xs=true->0<=dA->dA<=65536->∀σ' Y,bK U σ'->eB σ' (λq=>U.size<=q) Y (xs.map ZY) dA.toNat (List.replicate (xs.map ZY).length ig)->R (some ⟨Y.p,0,none⟩) 0 σ') :
 QL.c s dA U R:=by
 refine QL.o ?_;unfold QL.v;refine Gj ha λv e=>?_;cases hv:Qd xs
 ·exact cD rfl (h0 hv v e)
 refine cB rfl (bV.intro (cQ (λu=>cD rfl (h1 hv O v e)) λu=>cQ (λw=>h1 hv O v e) λw=>?_));have g:=ZN ha e;have D:=(Z8 xs).1 hv;refine VO g hv λdC b e1 d=>r7 λj E e2 B=>nw (cs:=[.slice dC.a dC.len dC.cap,.int .i64 dA,.map (some b.size)]) λv3 F m C=>?_;have s1:=e1.1;have s0:=e.1;refine h2 hv O O v3 ⟨j.size,b.size,dC,[]⟩ (((e.trans e1).trans e2).trans m) ⟨by rw[zl];omega,λc z=>?_,by simp,by simp,?_⟩
 ·obtain⟨i,y⟩:=zQ z;exact(US g hv y).2
 ·refine⟨λq=>if q=j.size then .hd else if q=b.size then .mp else .dC,λi=>?_⟩
  cases i with
  | hd=>
   refine⟨⟨by show U.size<=j.size;omega,by simp⟩,?_⟩;have:((dA.toNat:Nat):Int)=dA:=by omega
   simp only[BK,this];exact C
  | mp=>
   refine⟨⟨by show U.size<=b.size;omega,?_⟩,m.fR (B .i64 .p) id⟩;show(if b.size=j.size then rO.hd else if b.size=b.size then rO.mp else rO.dC)=.mp
   rw[zB O,zC rfl]
  | dC=>
   have x:=aH.bO (aH.bO (aH.mono d (G:=λq=>v.size<=q/\q<b.size) λq r A=>⟨A,r⟩) e2) m;refine aH.mono x λq _ r=>⟨O,?_⟩;show(if q=j.size then rO.hd else if q=b.size then rO.mp else rO.dC)=.dC
   rw[zB O,zB O]
  | li k=>
   simp only[CC,oH,iK,List.find?_nil,Option.map_none];cases hk:(List.replicate (xs.map ZY).length ig)[k]? with
   | none=>trivial
   | some l=>simp only[lX]at hk;split at hk<;>simp_all
def kb (f:Nat->Nat)(l:List (Int×Option Addr)):Nat:=(l.map λx=>f x.1.toNat).sum
theorem CF (f:Nat->Nat):∀{l:List (Int×Option Addr)} {n:Int} {x:Option Addr},(l.map (·.1)).Nodup->(n,x)∈l->kb f l=f n.toNat+kb f (l.filter λy=>!(y.1==n))
 | [],_,_,_,h=>by simp at h
 | y::l,n,x,hn,h=>by
  simp only[zT,zr]at hn;rcases zW.1 h with h1|h1
  ·subst h1;have:l.filter (λy=>!(y.1==n))=l:=by
    rw[po];intro z hz;have:z.1≠n:=λe=>hn.1 (zE.2 ⟨z,hz,e⟩);simpa using this
   rw[uq aA,this];simp[kb]
  ·have a:y.1≠n:=λe=>hn.1 (zE.2 ⟨_,h1,e.symm⟩);rw[tE (by simpa using a)];have:=CF f hn.2 h1;simp only[kb,zT,nB]at *;omega
theorem OI (n a v:Nat):((List.range n).map λj=>if j=a then v else 0).sum=if a<n then v else 0:=by
 induction n with
 | zero=>simp
 | succ n ih=>
  rw[qm,kC,List.sum_append,ih];by_cases h:a=n
  ·subst h;simp
  ·by_cases h2:a<n
   ·rw[zC h2,zC O];simp[Ne.symm h]
   ·rw[zB h2,zB O];simp[Ne.symm h]
theorem PF (l:List Nat)(f g:Nat->Nat):(l.map λj=>f j+g j).sum=(l.map f).sum+(l.map g).sum:=by
 induction l with
 | nil=>rfl
 | cons x l ih=>simp only[zT,nB,ih];omega
theorem Dx (f:Nat->Nat)(n:Nat):∀(ps:List (Nat×Nat)),(ps.map (·.1)).Nodup->(∀x∈ps,x.1<n)->(ps.map λx=>f x.1).sum=((List.range n).map λj=>if j∈ps.map (·.1)then f j else 0).sum
 | [],_,_=>by
  have:((List.range n).map λj=>if j∈([]:List (Nat×Nat)).map (·.1)then f j else 0)=(List.range n).map λ_=>0:=by simp
  rw[this]
  induction n with
  | zero=>rfl
  | succ n a=>rw[qm,kC,List.sum_append];simp at *;exact a
 | x::ps,hn,hl=>by
  simp only[zT,zr]at hn;have a:=Dx f n ps hn.2 λy b=>hl y (by simp[b]);rw[zT,nB,a];have e:((List.range n).map λj=>if j∈(x::ps).map (·.1)then f j else 0)=(List.range n).map λj=>(if j=x.1 then f x.1 else 0)+(if j∈ps.map (·.1)then f j else 0):=by
   apply ko;intro j _;by_cases hj:j=x.1
   ·subst hj;rw[zC aA,zC rfl,zB hn.1];rfl
   ·rw[zB hj,zH];by_cases hm:j∈ps.map (·.1)
    ·rw[zC hm,zC (by simp only[zT,zW];exact .inr hm)]
    ·rw[zB hm,zB (by simp only[zT,zW,not_or];exact⟨hj,hm⟩)]
  rw[e,PF,OI,zC (hl x aA)]
def pt (tb:List bZ)(ls:List Li)(k:Nat):Nat:=match tb[k]?,ls[k]? with
 | some c,some l=>c.size*l.os.length
 | _,_=>0
theorem GM:∀(tb:List bZ) (ls:List Li),ls.length=tb.length->QN tb ls=((List.range tb.length).map (pt tb ls)).sum
 | [],[],_=>rfl
 | c::tb,l::ls,h=>by
  have ih:=GM tb ls (by simpa using h);simp only[QN]at ih;simp only[QN,List.zip_cons_cons,zT,nB,zY,ih,List.range_succ_eq_map,k8];rfl
 | [],_::_,h=>by simp at h
 | _::_,[],h=>by simp at h
theorem eB.nil (h:eB U F Y tb bud ls)(hf:iK Y.ps k=none)(hl:ls[k]?=some l):l=ig:=by
 obtain⟨G,_,a⟩:=h.sep.get (.li k);simp only[CC,oH,hf,hl]at a;exact a
theorem eB.wE (h:eB U F Y tb bud ls):(Y.ps.map (·.1)).Nodup:=by
 have:=h.map.nodup;have e:(jP Y.ps).map (·.1)=(Y.ps.map (·.1)).map λ(n:Nat)=>(n:Int):=by simp[jP]
 rw[e]at this;exact List.Pairwise.of_map (λ(n:Nat)=>(n:Int)) (λa b d e=>d (by rw[e])) this
theorem eB.bytes (h:eB U F Y tb bud ls):kb (pt tb ls) (jP Y.ps)=QN tb ls:=by
 have e1:kb (pt tb ls) (jP Y.ps)=(Y.ps.map λx=>pt tb ls x.1).sum:=by simp[kb,jP,Function.comp_def]
 rw[e1,Dx _ tb.length _ h.wE h.keys,GM _ _ h.len]
 congr 1
 apply ko;intro j hj;have a:=zc.1 hj;by_cases hm:j∈Y.ps.map (·.1)
 ·rw[zC hm]
 ·rw[zB hm];have g:iK Y.ps j=none:=by
   unfold iK;simp only[qU,ny,zS];exact λx d e=>hm (zE.2 ⟨x,d,e⟩)
  have b:ls[j]?=some (ls[j]'(by rw[h.len];exact a)):=cV _;have:=h.nil g b;unfold pt;rw[cV a,b,this];rfl
theorem Cr:∀(tb:List bZ) (ls:List Li),(∀c∈tb,c.ok)->(∀l∈ls,fK l)->QN tb ls<=tb.length*131072
 | [],_,_,_=>by simp[QN]
 | _::_,[],_,_=>by simp[QN]
 | c::tb,l::ls,h1,h2=>by
  have ih:=Cr tb ls (λc a=>h1 c (by simp[a])) (λl b=>h2 l (by simp[b]));simp only[QN]at ih;simp only[QN,List.zip_cons_cons,zT,nB,zY];have a:=h1 c aA;unfold bZ.ok at a;have d:=(h2 l aA).many;have e:c.size*l.os.length<=512*256:=lR O d;omega
theorem OD (h:eB U F Y tb bud ls)(hok:∀l∈ls,fK l):QN tb ls<=5242880:=by
 have a:=Cr tb ls h.ok hok;have b:=h.nk;omega
theorem eB.JZ (h:eB U F Y tb bud ls):∀l∈ls,fK l:=by
 intro l hl;obtain⟨k,a⟩:=zQ hl;cases hf:iK Y.ps k with
 | none=>rw[h.nil hf a];exact fK.nil
 | some b=>
  obtain⟨G,_,d,_⟩:=h.vj hf a;exact d.2.1
theorem Fa (h:eB U F Y tb bud ls){R:aN}(hR:∀σ',bK U σ'->R ((QN tb ls:Nat):Int) σ'):XG.c (aW Y.p) U R:=by
 refine XG.o ?_;unfold XG.v;have hle:=OD h h.JZ;have hT:=h.bytes;refine U0 h (cB rfl (aG (h.hd.rM rfl ?_)));refine tf (a:=bN) h.map (λg (z:Int) v=>∃n:Nat,z=(n:Int)/\n+kb (pt tb ls) g=QN tb ls/\(∀e∈g,e∈jP Y.ps)/\(g.map (·.1)).Nodup/\bK U v) ?_ ?_ ?_
 ·intro v hz e;exact⟨0,rfl,by rw[hT];omega,λe he=>he,h.map.nodup,e⟩
 ·rintro z v ⟨n,rfl,H,_,_,e⟩;simp only[kb,qT,List.sum_nil,jY]at H;rw[H];exact hR v e
 ·rintro g n x z v v' J ⟨m,rfl,H,r,A,e⟩ X ho hlt hJ;have V:bK U v':=e.only ho (.inr (zD _));have K:=h.bO V;have u:=r _ X;simp only[jP,zE,Prod.mk.injEq]at u;obtain⟨⟨k,b⟩,B,w,D⟩:=u;simp only at w D;subst w;subst D;have E:=h.keys _ B;simp only at E;have M:tb[k]?=some tb[k]:=cV E;have N:ls[k]?=some (ls[k]'(by rw[h.len];exact E)):=cV _;generalize tb[k]=c at M;generalize (ls[k]'(by rw[h.len];exact E))=l at N;have S:iK Y.ps k=some b:=CW h.map.nodup B;obtain⟨G,hG,hL,_⟩:=K.vj S N;obtain⟨_,hok,s,L,P,Z⟩:=hL;have Q:s.len=l.os.length:=by have:=P.1;simp[Wo]at this;omega
  have hb:pt tb ls k=c.size*l.os.length:=by unfold pt;rw[M,N]
  have j:=CF (pt tb ls) A X;simp only[dE]at j;refine aG (K.hd.rS rfl (sj K.ju M (d:=0) O ?_));simp only[zR];refine aG (L.rS rfl ?_);have C:m+c.size*l.os.length+kb (pt tb ls) (List.filter (λy=>!(y.1==(k:Int))) g)=QN tb ls:=by
   have W:=j;rw[hb]at W;rw[←H,W,vE]
  refine cP (m:=c.size*l.os.length) (by simp only[Q];simp) O (cP (m:=m+c.size*l.os.length) O O (hJ _ v' rfl rfl ⟨_,rfl,C,λy hy=>r y (zI.1 hy).1,A.sublist (List.filter_sublist.map _),V⟩))
theorem J0 (h:eB U F Y tb bud ls){R:aO}(hR:∀σ',bK U σ'->R (decide (bud<QN tb ls)) σ'):X6.c (aW Y.p) U R:=by
 refine X6.o ?_;unfold X6.v;have e:decide (((QN tb ls:Nat):Int)>(bud:Int))=decide (bud<QN tb ls):=by rw[decide_eq_decide];omega
 refine Jn.intro (U0 h (cD rfl (aG ⟨Fa h λσ' a=>(a.bT h.hd id).rI rfl ?_,h.hd.rI rfl (Fa h λσ' a=>?_)⟩)))
 ·rw[e];exact hR σ' a
 ·rw[e];exact hR σ' a
def A7 (f:bZ->Li->List Int×Li)(fn:Nat):Prop:=∀{U:Hp} {G:Rg} {b:Nat} {l:Li} {c:bZ},iL b l U G->c.ok->∀{R:Sl->Hp->Prop},
 (∀s z σ',Ext (· = b) U σ'->U.size<=z->bS s 1 (Wo (f c l).1) σ' (λq=>U.size<=q/\q<z)->iL b (f c l).2 σ' (λq=>q=b\/z<=q)->R s σ') →
 VH Tryz.prog ⟨fn,#[],#[]⟩ [.pointer (some ⟨b,0,none⟩),.int .i64 (c.batch:Int)] [.one .s] U R
theorem PW:A7 ZC 218:=by
 intro U G b l c h hc R hR;refine pd (all := #[.pointer (some ⟨b,0,none⟩),.int .i64 (c.batch:Int)]) (by kernel_rfl) aA ?_;refine Yq.o ?_;unfold Yq.v;have i:=h;obtain⟨_,j,s,d,e,g⟩:=h;have a:s.len=l.os.length:=by have:=e.1;simp[Wo]at this;omega
 refine aG (d.rS rfl ?_);simp only[a];exact U9 i (zD _) hR
theorem MF:A7 KC 216:=by
 intro U G b l c h hc R hR;refine pd (all := #[.pointer (some ⟨b,0,none⟩),.int .i64 (c.batch:Int)]) (by kernel_rfl) aA ?_;refine Xo.o ?_;unfold Xo.v;have S:=h;obtain⟨_,g,s,x,P,L⟩:=h;have o1:=g.low;have o2:=g.many;have o3:=g.lim;have u:=CM hc g;unfold bZ.ok at hc;refine aG (x.rI rfl (cP (m:=l.low+1) O O (nz aB (cP (m:=(l.low+1)/2) (by rw[Xs O];omega) O ?_))));refine U9 S O λout z v e Q M y=>?_;have J:=y;obtain⟨_,N,s1,d,w,C⟩:=y;have A:s1.len=(gp ((l.low+1)/2) l).2.os.length:=by have:=w.1;simp[Wo]at this;omega
 refine Jn.intro ?_;have i:∀(j:Hp) (lim:Nat),Ext (· = b) v j->lim=(if l.lim>c.batch then max (l.lim-c.batch) c.batch else l.lim)->bY j b (mL s1 {(gp ((l.low+1)/2) l).2 with lim:=lim}) →
  bU (some ⟨b,0,none⟩) λD=>jq (D.add 0) j λF=>bU (some ⟨b,0,none⟩) λE=>dX (E.add 2) (.int .i64 ((F.len:Nat):Int)) j λv2=>R out v2:=by
  intro j lim e1 hlim a;refine aG (a.rS rfl (aG (a.s1 (by simp[mL]) λv2 o2 r=>?_)));have e2:=e1.trans o2.ext;have V:=d.lt;refine hR out z v2 (e.trans e2) Q (aI.bR M e2 λq _ K H=>?_) ?_
  ·have:=x.lt;omega
  ·refine⟨.inl rfl,u,s1,?_,aH.bR w e2 λq _ K H=>K.2 H,C⟩;simp only[A]at r;subst hlim;exact r
 refine aG (d.rI rfl ?_);refine cQ (λB=>?_) λB=>?_
 ·have p:l.lim>c.batch:=by simp only[gp]at B;omega
  refine aG (d.rI rfl (cP (m:=l.lim-c.batch) (by simp only[gp];omega) O (aG (d.s1 (by simp[mL]) λj o1 a=>i j (max (l.lim-c.batch) c.batch) o1.ext (by rw[zC p]) ?_))));have:(if(c.batch:Int)>((l.lim-c.batch:Nat):Int)then(c.batch:Int)else((l.lim-c.batch:Nat):Int))=((max (l.lim-c.batch) c.batch:Nat):Int):=by split<;>omega
  rw[this]at a;exact a
 ·have p:¬l.lim>c.batch:=by simp only[gp]at B;omega
  exact i v l.lim (Ext.refl _ _) (by rw[zB p]) d
def nv (x:Nat×Sl):List Value:=[.int .i64 (x.1:Int),.slice x.2.a x.2.len x.2.cap]
def fE (l:List (Nat×Sl)):List Value:=l.flatMap nv
theorem Kt (l:List (Nat×Sl)):(fE l).length=l.length*2:=by
 induction l with
 | nil=>rfl
 | cons x l ih=>
  have e:fE (x::l)=nv x++fE l:=rfl;have e2:(nv x).length=2:=rfl;rw[e,zP,ih,e2,zY];omega
theorem UF (a b:List (Nat×Sl)):fE (a++b)=fE a++fE b:=by simp[fE]
theorem UK {l:List (Nat×Sl)}:∀v∈fE l,dQ v=true:=by
 intro v hv;obtain⟨p,_,a⟩:=List.mem_flatMap.1 hv;simp only[nv,zW,List.not_mem_nil,or_false]at a;rcases a with rfl|rfl<;>rfl
theorem RU {l:List (Nat×Sl)}{i:Nat}{p:Nat×Sl}(h:l[i]?=some p){d:Nat}(hd:d<2):(fE l)[2*i+d]?=(nv p)[d]? := by
 induction l generalizing i with
 | nil=>simp at h
 | cons x l ih=>
  have e:fE (x::l)=nv x++fE l:=rfl;have e2:(nv x).length=2:=rfl;rw[e];cases i with
  | zero=>
   simp at h;subst h;rw[zh O];congr 1;omega
  | succ i=>
   rw[zp O,e2,show 2*(i+1)+d-2=2*i+d by omega];exact ih (by simpa using h)
def ka (ps:List (Nat×Sl))(bs:List Bt)(U:Hp)(D:Rg):Prop:=ps.length=bs.length/\∀(i:Nat) p x,ps[i]?=some p->bs[i]?=some x->p.1=x.1/\cX p.2 1 (Wo x.2) U D/\p.2.len<=p.2.cap
theorem ka.loc (ps:List (Nat×Sl))(bs:List Bt):dM (ka ps bs):=λU g F G h d e=>⟨h.1,λi p x a b=>⟨(h.2 i p x a b).1,cX.loc _ _ _ _ _ _ _ (h.2 i p x a b).2.1 d e,(h.2 i p x a b).2.2⟩⟩
def tQ (ps:List (Nat×Sl)):Prop:=ps.Pairwise λp q=>∀a a',p.2.a=some a->q.2.a=some a'->a.block≠a'.block
theorem tQ.snoc {ps:List (Nat×Sl)}{bs:List Bt}{U v:Hp}{D X:Rg}{s:Sl}{xs:List Int}(h:tQ ps)(hB:ka ps bs U D)(hne:∀x∈bs,x.2≠[])(hs:cX s 1 (Wo xs) v X)(hx:xs≠[])(hd:∀b,b<U.size->D b->¬X b)(k:Nat):tQ (ps++[(k,s)]):=by
 refine px.2 ⟨h,List.pairwise_singleton _ _,λp w q r=>?_⟩;rw[zN]at r;subst r;intro a a' h1 h2 e;obtain⟨i,u⟩:=zQ w;have d:=(cW.1 u).1;have g:bs[i]?=some (bs[i]'(by rw[←hB.1];exact d)):=cV _;generalize (bs[i]'(by rw[←hB.1];exact d))=y at g;obtain⟨_,j,_⟩:=hB.2 i p y u g;have m:=j.bT (by simpa[Wo]using hne y (zG g)) ⟨a,h1,rfl⟩;have z:=hs.bT (by simpa[Wo]using hx) ⟨a',h2,rfl⟩;rw[e]at m;exact hd _ m.2 m.1 z.1
def ik (s:Sl)(bs:List Bt):Hp->Rg->Prop:=λU F=>∃(ps:List (Nat×Sl)) (D:Rg),dI s 2 (fE ps) U (λq=>F q/\¬D q)/\ka ps bs U D/\(∀q,D q->F q)/\tQ ps/\∀x∈bs,x.2≠[]
theorem ik.loc (s:Sl)(bs:List Bt):dM (ik s bs):=λU r F G ⟨m,D,i,p,g,j⟩ e b=>
 ⟨m,λq=>D q/\q<U.size,dI.loc _ _ _ _ _ _ _ i e λq a d=>⟨⟨(b q a d.1).1,λhd=>d.2 hd.1⟩,(b q a d.1).2⟩,ka.loc _ _ _ _ _ _ p e λq a hd=>⟨⟨hd,a⟩,(b q a (g q hd)).2⟩,λq a=>(b q a.2 (g q a.1)).1,j⟩
theorem ik.nil (U:Hp)(F:Rg)(a:Option Addr):ik ⟨a,0,0⟩ [] U F:=⟨[],λ_=>False,dI.nil _ _ _ _,⟨rfl,λi p x h=>by simp at h⟩,λq h=>h.elim,List.Pairwise.nil,by simp⟩
theorem ik.len {s:Sl}{bs:List Bt}(h:ik s bs U F):s.len=bs.length:=by
 obtain⟨d,D,a,b,_⟩:=h;have:=a.1;rw[Kt]at this;have:=b.1;omega
theorem ik.cap {s:Sl}{bs:List Bt}(h:ik s bs U F):s.len<=s.cap:=by
 obtain⟨b,D,a,_⟩:=h;exact a.cap
def H4:Prop:=∀{U:Hp} {F:Rg} {s:Sl} {xs:List (Nat×Sl)},bS s 2 (fE xs) U F->(∀x∈xs,x.1<64)->xs.length<=1000->∀{R:aP},
 (∀xs' σ',xs'.Perm xs->xs'.Pairwise (λa b=>a.1<=b.1)->Ext F U σ'->bS s 2 (fE xs') σ' F->R σ')->ZO.c s ⟨264,#[],#[]⟩ U R
theorem Dh:∀{a b:List Nat},a.Pairwise (· < ·)->b.Pairwise (· < ·)->(∀x,x∈a↔x∈b)->a=b
 | [],[],_,_,_=>rfl
 | [],y::b,_,_,h=>by have:=(h y).2 aA;simp at this
 | x::a,[],_,_,h=>by have:=(h x).1 aA;simp at this
 | x::a,y::b,ha,hb,h=>by
  rw[rD]at ha hb;have e:x=y:=by
   rcases zW.1 ((h x).1 aA)with h1|h1
   ·exact h1
   ·rcases zW.1 ((h y).2 aA)with h2|h2
    ·exact h2.symm
    ·have:=ha.1 y h2;have:=hb.1 x h1;omega
  subst e
  congr 1
  refine Dh ha.2 hb.2 λz=>?_;have d:=h z;simp only[zW]at d;constructor
  ·intro hza;have:=ha.1 z hza;rcases d.1 (.inr hza)with h1|h1
   ·omega
   ·exact h1
  ·intro hzb;have:=hb.1 z hzb;rcases d.2 (.inr hzb)with h1|h1
   ·omega
   ·exact h1
theorem U1 {f:bZ->Li->List Int×Li}{x:Bt}:x∈QW f tb ls↔∃c l,tb[x.1]?=some c/\ls[x.1]?=some l/\x.2=(f c l).1/\x.2≠[]:=by
 unfold QW;rw[uH];constructor
 ·rintro⟨k,hk,h⟩;split at h
  ·rename_i c l hc hl;split at h
   ·cases h
   ·rename_i hne;cases h;exact⟨c,l,hc,hl,rfl,hne⟩
  ·cases h
 ·rintro⟨c,l,hc,hl,e,hne⟩;refine⟨x.1,zc.2 (cW.1 hc).1,?_⟩;rw[hc,hl];simp only;rw[zB (by rw[←e];exact hne),←e]
theorem Nj {f:bZ->Li->List Int×Li}:((QW f tb ls).map (·.1)).Pairwise (· < ·):=by
 unfold QW;have key:∀(n:Nat),(((List.range n).filterMap λk=>match tb[k]?,ls[k]? with
  | some c,some l=>if(f c l).1=[]then none else some ((k,(f c l).1):Bt)
  | _,_=>none).map (·.1)).Pairwise (· < ·)/\∀x∈((List.range n).filterMap λk=>match tb[k]?,ls[k]? with
  | some c,some l=>if(f c l).1=[]then none else some ((k,(f c l).1):Bt)
  | _,_=>none),x.1<n:=by
  intro n
  induction n with
  | zero=>simp
  | succ n ih=>
   rw[qm,uP,kC];refine⟨px.2 ⟨ih.1,?_,?_⟩,?_⟩
   ·simp only[y7,List.filterMap_nil];split<;>simp
   ·intro a ha b hb;obtain⟨x,g,rfl⟩:=zE.1 ha;obtain⟨y,e,rfl⟩:=zE.1 hb;have j:=ih.2 x g;obtain⟨m,i,d⟩:=uH.1 e;clear e hb ha;simp only[zN]at i;subst i;split at d
    ·split at d
     ·cases d
     ·cases d;exact j
    ·cases d
   ·intro x g;rcases zK.1 g with g|g
    ·have:=ih.2 x g;omega
    ·obtain⟨m,i,e⟩:=uH.1 g;simp only[zN]at i;subst i;split at e
     ·split at e
      ·cases e
      ·cases e;omega
     ·cases e
 exact(key tb.length).1
def mE (todo:List (Int×Option Addr))(k:Nat):Prop:=((k:Nat):Int)∈todo.map (·.1)
instance (todo:List (Int×Option Addr)) (k:Nat):Decidable (mE todo k):=by unfold mE;infer_instance
theorem Hr {todo:List (Int×Option Addr)}{m k:Nat}:mE (todo.filter λy=>!(y.1==(m:Int))) k↔mE todo k/\k≠m:=by
 unfold mE;simp only[zE,zI,mj,mf];constructor
 ·rintro⟨y,⟨h1,h2⟩,h3⟩;exact⟨⟨y,h1,h3⟩,λe=>h2 O⟩
 ·rintro⟨⟨y,h1,h3⟩,h2⟩;exact⟨y,⟨h1,λe=>h2 O⟩,h3⟩
structure yq (f:bZ->Li->List Int×Li) (tb:List bZ) (ls:List Li) (todo:List (Int×Option Addr)) (ls':List Li) (outs:List Bt):Prop where
 l:∀k c l,tb[k]?=some c->ls[k]?=some l->ls'[k]?=some (if mE todo k then l else(f c l).2)
 n:(outs.map (·.1)).Nodup
 o:∀x:Bt,x∈outs↔∃c l,tb[x.1]?=some c/\ls[x.1]?=some l/\¬mE todo x.1/\x.2=(f c l).1/\x.2≠[]
theorem yq.step {f:bZ->Li->List Int×Li}{todo:List (Int×Option Addr)}{ls':List Li}{outs:List Bt}(h:yq f tb ls todo ls' outs)(hc:tb[k]?=some c)(hl:ls[k]?=some l)(hk:mE todo k) :
 yq f tb ls (todo.filter λy=>!(y.1==(k:Int))) (ls'.set k (f c l).2) (if(f c l).1=[]then outs else outs++[(k,(f c l).1)]):=by
 have w:=h.l k c l hc hl;have A:=(cW.1 w).1;have u:∀x∈outs,x.1≠k:=λx g e=>by
  obtain⟨_,_,_,_,B,_⟩:=(h.o x).1 g;rw[e]at B;exact B hk
 refine⟨λj d m hd p=>?_,?_,λx=>?_⟩
 ·by_cases hj:j=k
  ·subst hj;rw[hc]at hd;cases hd;rw[hl]at p;cases p;rw[zL A,zB (by rw[Hr];exact λg=>g.2 rfl)]
  ·rw[zk (Ne.symm hj),h.l j d m hd p]
   congr 1
   by_cases r:mE todo j
   ·rw[zC r,zC (Hr.2 ⟨r,hj⟩)]
   ·rw[zB r,zB λg=>r (Hr.1 g).1]
 ·split
  ·exact h.n
  ·rw[kC,nt];refine⟨h.n,by simp,λa D b C e=>?_⟩;simp only[zT,qT,zN]at C;subst C;obtain⟨x,g,e2⟩:=zE.1 D;exact u x g (e2.trans e)
 ·have s:(∃d m,tb[x.1]?=some d/\ls[x.1]?=some m/\¬mE (todo.filter λy=>!(y.1==(k:Int))) x.1/\x.2=(f d m).1/\x.2≠[])↔x∈outs\/(x=(k,(f c l).1)/\(f c l).1≠[]):=by
   constructor
   ·rintro⟨d,m,hd,p,r,e,i⟩;by_cases hj:x.1=k
    ·right;rw[hj]at hd p;rw[hc]at hd;cases hd;rw[hl]at p;cases p;exact⟨Prod.ext hj e,by rw[←e];exact i⟩
    ·left;exact(h.o x).2 ⟨d,m,hd,p,λg=>r (Hr.2 ⟨g,hj⟩),e,i⟩
   ·rintro(g|⟨rfl,i⟩)
    ·obtain⟨d,m,hd,p,r,e,i⟩:=(h.o x).1 g;exact⟨d,m,hd,p,λz=>r (Hr.1 z).1,e,i⟩
    ·exact⟨c,l,hc,hl,λz=>(Hr.1 z).2 rfl,rfl,i⟩
  rw[s];split
  ·rename_i he;constructor
   ·exact .inl
   ·rintro(g|⟨_,i⟩)
    ·exact g
    ·exact absurd he i
  ·rename_i he;rw[zK,zN];constructor
   ·rintro(g|g)
    ·exact .inl g
    ·exact .inr ⟨g,he⟩
   ·rintro(g|g)
    ·exact .inl g
    ·exact .inr g.1
set_option maxRecDepth 4000 in
theorem DF (hso:H4){f:bZ->Li->List Int×Li}{fn:Nat}(hf:A7 f fn)(hnil:∀c,c.ok->f c ig=([],ig))(h:eB U F Y tb bud ls){R:Sl->Hp->Prop}
 (hR:∀σ' s (Q:Rg),Ext F U σ'->(∀q,Q q->U.size<=q)->eB σ' (λq=>Grow F U q/\¬Q q) Y tb bud (QS f tb ls)->ik s (QW f tb ls) σ' Q->R s σ') :
 Xf.c (aW Y.p) ⟨fn,#[],#[]⟩ U R:=by
 refine Xf.o ?_;unfold Xf.v;refine U0 h (cB rfl (aG (h.hd.rM rfl ?_)));have htb:=h.nk;refine tf (a:=.s) h.map (λC (out:Sl) v=>∃(ls':List Li) (w:List Bt) (Q D:Rg) (ps:List (Nat×Sl)),Ext F U v/\(∀q,Q q->U.size<q)/\eB v (λq=>(Cut F U q\/U.size<q)/\¬Q q) Y tb bud ls' ∧
  bS out 2 (fE ps) v (λq=>Q q/\¬D q)/\ka ps w v D/\(∀q,D q->Q q)/\yq f tb ls C ls' w/\(∀e∈C,e∈jP Y.ps)/\(C.map (·.1)).Nodup/\tQ ps) ?_ ?_ ?_
 ·intro v hz e;refine⟨ls,[],λ_=>False,λ_=>False,[],bK.to e,λq g=>g.elim,((eB.loc.bO h.cut e).mono λq _ g=>⟨.inl g,id⟩),bS.nil _ _ _ _,⟨rfl,λi p x K=>by simp at K⟩,λq g=>g.elim,⟨λk c l E N=>?_,by simp,λx=>?_⟩,λe P=>P,h.map.nodup,List.Pairwise.nil⟩
  ·by_cases hi:mE (jP Y.ps) k
   ·rw[zC hi,N]
   ·rw[zB hi];have hf0:iK Y.ps k=none:=by
     unfold iK;simp only[qU,ny,zS];exact λx r e=>hi (zE.2 ⟨((x.1:Int),some ⟨x.2,0,none⟩),zE.2 ⟨x,r,rfl⟩,by rw[e]⟩)
    have:=h.nil hf0 N;rw[N,this,hnil c (h.ok c (zG E))]
  ·simp only[List.not_mem_nil,false_iff];rintro⟨c,l,E,N,hi,e,hne⟩;have hf0:iK Y.ps x.1=none:=by
    unfold iK;simp only[qU,ny,zS];exact λy X e=>hi (zE.2 ⟨((y.1:Int),some ⟨y.2,0,none⟩),zE.2 ⟨y,X,rfl⟩,by rw[e]⟩)
   have:=h.nil hf0 N;rw[this,hnil c (h.ok c (zG E))]at e;exact hne e
 ·rintro out v ⟨ls',w,Q,D,ps,e,hQ,hC,W,hB,hD,hI,_,_,S⟩;have hno:∀k,¬mE [] k:=λk hk=>by simp[mE]at hk
  have hls:ls'=QS f tb ls:=by
   apply zo;intro k;by_cases hk:k<tb.length
   ·have E:tb[k]?=some tb[k]:=cV hk;have N:ls[k]?=some (ls[k]'(by rw[h.len];exact hk)):=cV _;rw[hI.l k _ _ E N,zB (hno k)];simp[QS,A5,E,N]
   ·rw[zV (by rw[hC.len];omega),zV (by simp[QS,h.len];omega)]
  subst hls;have hk1:∀(i:Nat) p,ps[i]?=some p->∃x,w[i]?=some x/\p.1=x.1/\cX p.2 1 (Wo x.2) v D/\p.2.len<=p.2.cap:=λi p K=>by
   have hi:=(cW.1 K).1;have r:w[i]?=some (w[i]'(by rw[←hB.1];exact hi)):=cV _;exact⟨_,r,hB.2 i p _ K r⟩
  have B:ps.map (·.1)=w.map (·.1):=by
   apply zo;intro i;simp only[zg];cases K:ps[i]? with
   | none=>
    have:w[i]?=none:=by
     rw[List.getElem?_eq_none_iff]at K ⊢;rw[←hB.1];exact K
    rw[this];rfl
   | some p=>
    obtain⟨x,r,e1,_⟩:=hk1 i p K;rw[r];simp[e1]
  have Z:∀x∈w,x.1<40:=λx r=>by
   obtain⟨c,l,E,_⟩:=(hI.o x).1 r;have:=(cW.1 E).1;omega
  have hlen:ps.length<=40:=by
   have hn:=hI.n;rw[←B]at hn;have:=hn.length_le_of_subset (l₂:=List.range 40) λj S=>by
    rw[B]at S;obtain⟨x,r,rfl⟩:=zE.1 S;exact zc.2 (Z x r)
   simpa using this
  refine hso W (λp K=>?_) O λps' v' L hsort e' hrow'=>?_
  ·have:p.1∈w.map (·.1):=by rw[←B];exact zE.2 ⟨p,K,rfl⟩
   obtain⟨x,r,e1⟩:=zE.1 this;have:=Z x r;omega
  ·have hnd:(ps'.map (·.1)).Nodup:=(L.map _).nodup_iff.2 (by rw[B];exact hI.n);have hinc:(ps'.map (·.1)).Pairwise (· < ·):=by
    refine List.Pairwise.map (R:=λa b:Nat×Sl=>a.1<b.1) _ (λa b hab=>hab) ?_;have A:ps'.Pairwise λa b=>a.1≠b.1:=uk.1 hnd;exact(hsort.and A).imp λ{a b} hab=>by have:=hab.1;have:=hab.2;omega
   have hkk:ps'.map (·.1)=(QW f tb ls).map (·.1):=by
    refine Dh hinc Nj λj=>?_;rw[(L.map _).mem_iff,B];constructor
    ·intro S;obtain⟨x,r,rfl⟩:=zE.1 S;obtain⟨c,l,E,N,_,e1,e2⟩:=(hI.o x).1 r;exact zE.2 ⟨x,U1.2 ⟨c,l,E,N,e1,e2⟩,rfl⟩
    ·intro S;obtain⟨x,r,rfl⟩:=zE.1 S;obtain⟨c,l,E,N,e1,e2⟩:=U1.1 r;exact zE.2 ⟨x,(hI.o x).2 ⟨c,l,E,N,hno _,e1,e2⟩,rfl⟩
   have eQ:Ext F U v':=e.dV e' λq g=>.inr (sO (hQ q g.1));refine hR v' out Q eQ (λq g=>sO (hQ q g)) ?_ ⟨ps',D,hrow'.o,⟨?_,λi p x K r=>?_⟩,hD,(L.pairwise_iff λ{a b} hab x y A h2 e=>hab y x h2 A e.symm).2 S,λx r=>by
    obtain⟨_,_,_,_,_,h2⟩:=U1.1 r;exact h2⟩
   ·refine(eB.loc.bR hC e' λq _ g hq2=>g.2 hq2.1).mono λq _ g=>⟨?_,g.2⟩;rcases g.1 with r|r
    ·exact .inl r.1
    ·exact .inr (sO r)
   ·have:=congrArg List.length hkk;simpa using this
   ·have e1:p.1=x.1:=by
     have:=congrArg (λl=>l[i]?) hkk;simp only[zg,K,r,zX,Option.some.injEq]at this;exact this
    obtain⟨j,S⟩:=zQ (L.mem_iff.1 (zG K));obtain⟨y,X,e2,hs,hcap⟩:=hk1 j p S;have e3:x.2=y.2:=by
     obtain⟨c,l,E,N,_,A,_⟩:=(hI.o y).1 (zG X);obtain⟨c',l',hc',hl',h2,_⟩:=U1.1 (zG r);rw[←e1,e2,E]at hc';cases hc';rw[←e1,e2,N]at hl';cases hl';rw[A,h2]
    rw[e3];exact⟨e1,aH.bR hs e' λq _ g hq2=>hq2.2 g,hcap⟩
 ·rintro C n x out v v' J ⟨ls',w,Q,D,ps,e,hQ,hC,W,hB,hD,hI,hsub,hnd,S⟩ r ho hlt hJ;have e1:Ext F U v':=e.only ho (.inr (zD _));have V:eB v' (λq=>(Cut F U q\/U.size<q)/\¬Q q) Y tb bud ls':=eB.loc.bR hC ho.ext λq _ g P=>by
   rcases g.1 with A|A
   ·have:=A.2;omega
   ·omega
  have hrow1:bS out 2 (fE ps) v' (λq=>(Q q/\¬D q)/\q<v'.size):=aI.cut (aI.bR W ho.ext λq _ g P=>by have:=hQ q g.1;omega);have hB1:ka ps w v' (λq=>D q/\q<v'.size):=(ka.loc _ _).cut ((ka.loc _ _).bR hB ho.ext λq _ g P=>by have:=hQ q (hD q g);omega);have hmem:=hsub _ r;simp only[jP,zE,Prod.mk.injEq]at hmem;obtain⟨⟨k,b⟩,hkb,hk1,hx1⟩:=hmem;simp only at hk1 hx1;subst hk1;subst hx1;have hk:=h.keys _ hkb;simp only at hk;have E:tb[k]?=some tb[k]:=cV hk;have N:ls[k]?=some (ls[k]'(by rw[h.len];exact hk)):=cV _;generalize tb[k]=c at E;generalize (ls[k]'(by rw[h.len];exact hk))=l at N;have hcok:=h.ok c (zG E);have hlk:iK Y.ps k=some b:=CW h.map.nodup hkb;have hin:mE C k:=zE.2 ⟨_,r,rfl⟩;have hl':ls'[k]?=some l:=by rw[hI.l k c l E N,zC hin]
  have M:=hI.step E N hin;have hmF:(λq=>(Cut F U q\/U.size<q)/\¬Q q) Y.m:=by
   obtain⟨H,hH,hm⟩:=V.sep.get .mp;exact hH _ hm.1
  obtain⟨G,hG,hL,hGm,hput⟩:=V.vj hlk hl';have hbF:=hG b hL.1;have hbm:b≠Y.m:=λe=>hGm (e▸hL.1);have hbs:b≠U.size:=λe=>by
   subst e;rcases hbF.1 with A|A
   ·have:=A.2;omega
   ·omega
  have hblt:b<v'.size:=by obtain⟨_,_,s,hbk,_⟩:=hL;exact hbk.lt
  have hsz1:=ho.1;refine aG (V.hd.rS rfl (sj V.ju E (d:=2) O ?_));simp only[zB (show ¬(2=0) by omega),zB (show ¬(2=1) by omega)];refine hf hL hcok λs z v5 e5 hz hr hL5=>?_;have hs5:=e5.1;obtain⟨eF,h5⟩:=hput v5 _ (λq=>q=b\/z<=q) (e5.sub λq g=>by rw[g];exact hL.1) (λq g=>g.imp (λ(r:q=b)=>by rw[r];exact hL.1) λ(r:z<=q)=>O) hL5;have h5:=h5.cut;have eF5:Ext F U v5:=e1.dV eF λq g=>by
   rcases g.1 with A|A
   ·exact .inl A.1
   ·exact .inr (sO A)
  have hnb:∀q,Q q->q≠b:=λq g hqb=>hbF.2 (hqb▸g);have hrow5:=aI.bR hrow1 e5 λq _ g P=>hnb q g.1.1 P;have hB5:=(ka.loc _ _).bR hB1 e5 λq _ g P=>hnb q (hD q g.1) P;have hsl:s.len=(f c l).1.length:=by have:=hr.1;simp[Wo]at this;omega
  have hsub':∀y∈C.filter (λy=>!(y.1==(k:Int))),y∈jP Y.ps:=λy X=>hsub y (zI.1 X).1;have hnd':((C.filter λy=>!(y.1==(k:Int))).map (·.1)).Nodup:=hnd.sublist (List.filter_sublist.map _);by_cases hemp:(f c l).1=[]
  ·rw[zC hemp]at M;refine fS (by rw[hsl,hemp];simp) (hJ out v5 (e5.2 _ O λP=>hbs P.symm) (e5.2 _ V.map.lt λP=>hbm P.symm) ?_);refine⟨_,w,λq=>Q q/\q<v'.size,λq=>D q/\q<v'.size,ps,eF5,λq g=>hQ q g.1,h5.mono λq _ g=>?_,aI.mono hrow5 λq _ g=>⟨⟨g.1.1,g.2⟩,λhd=>g.1.2 hd.1⟩,hB5,λq g=>⟨hD q g.1,g.2⟩,M,hsub',hnd',S⟩;rcases g.1 with A|A|A
   ·exact⟨A.1.1,λr=>A.1.2 r.1⟩
   ·subst A;exact⟨hbF.1,λr=>hbF.2 r.1⟩
   ·exact⟨.inr O,λr=>O⟩
  ·rw[zB hemp]at M;have hpos:=pf.2 hemp;refine lB (by rw[hsl];omega) (nw (cs:=nv (k,s)) λv6 hz6 e6 hb6=>?_);have hrow6:=aI.bO hrow5 e6;have hB6:=(ka.loc _ _).bO hB5 e6;have hr6:=aI.bO (aI.cut hr) e6;have hpl:out.len=ps.length:=by have:=W.1;rw[Kt]at this;omega
   have hol:ps.length<=40:=by
    have B:w.map (·.1)⊆List.range 40:=λj S=>by
     obtain⟨x,r,rfl⟩:=zE.1 S;obtain⟨c,l,E,_⟩:=(hI.o x).1 r;have:=(cW.1 E).1;exact zc.2 O
    have:=hI.n.length_le_of_subset B;rw[hB.1];simpa using this
   refine hrow6.app (ys:=nv (k,s)) rfl rfl ?_ (λv hv=>UK (l:=[(k,s)]) v (by simpa[fE]using hv)) ?_ ?_ mG λs' v7 hl7 e7 hr7=>?_
   ·intro j u hu;rw[add_lit,zH,hb6.cell];exact hu
   ·simp only;have:(out.len+1)*32<=41*32:=lR O O;omega
   ·simp only;omega
   have hs7:=e7.1;have e57:Ext (λq=>(Q q/\¬D q)/\q<v'.size) v5 v7:=(bK.to e6).trans e7;refine hJ s' v7 ?_ ?_ ?_
   ·rw[e57.2 _ O λr=>by have:=hQ _ r.1.1;omega];exact e5.2 _ O λP=>hbs P.symm
   ·rw[e57.2 _ (by have:=V.map.lt;omega) λr=>hmF.2 r.1.1];exact e5.2 _ V.map.lt λP=>hbm P.symm
   refine⟨_,_,λq=>Q q/\q<v'.size\/(v'.size<=q/\q<z)\/v5.size<=q,λq=>D q/\q<v'.size\/(v'.size<=q/\q<z)/\q<v5.size,ps++[(k,s)],eF5.dV e57 λq g=>.inr (sO (hQ q g.1.1)),λq g=>?_,(eB.loc.bR h5 e57 λq hq5 g r=>?_).mono λq _ g=>?_,?_,⟨?_,λi p y K X=>?_⟩,λq g=>?_,M,hsub',hnd',S.snoc hB1 (λx r=>by
    obtain⟨_,_,_,_,_,_,h2⟩:=(hI.o x).1 r;exact h2) hr.gY hemp (λb hb r X=>by have:=r.2;have:=X.1;omega) k⟩
   ·rcases g with g|g|g
    ·exact hQ q g.1
    ·omega
    ·omega
   ·rcases g.1 with A|A|A
    ·exact A.1.2 r.1.1
    ·exact hnb q r.1.1 A
    ·have:=r.2;omega
   ·have hq5:=g.2;rcases g.1 with A|A|A
    ·exact⟨A.1.1,λr=>by
      rcases r with r|r|r
      ·exact A.1.2 r.1
      ·have:=A.2.1;omega
      ·omega⟩
    ·subst A;exact⟨hbF.1,λr=>by
      rcases r with r|r|r
      ·exact hbF.2 r.1
      ·omega
      ·omega⟩
    ·exact⟨.inr O,λr=>by
      rcases r with r|r|r<;>omega⟩
   ·rw[UF];have:fE [(k,s)]=nv (k,s):=by simp[fE]
    rw[this];refine aI.mono hr7 λq _ g=>?_;rcases g with g|g
    ·exact⟨.inl ⟨g.1.1,g.2⟩,λhd=>by
      rcases hd with hd|hd
      ·exact g.1.2 hd.1
      ·omega⟩
    ·exact⟨.inr (.inr O),λhd=>by
      rcases hd with hd|hd<;>omega⟩
   ·rw[zP,zP,hB.1];rfl
   ·rcases ku i ps.length with hi|hi
    ·rw[zh hi]at K;rw[zh (by rw[←hB.1];exact hi)]at X;obtain⟨a1,a2,a3⟩:=hB6.2 i p y K X;exact⟨a1,aH.mono (aH.bR a2 e7 λq _ g r=>r.1.2 g.1) λq _ g=>.inl g,a3⟩
    ·rw[zp hi]at K;rw[zp (by rw[←hB.1];exact hi)]at X;have hi0:i-ps.length=0:=by
      have:=(cW.1 K).1;simp at this;omega
     rw[hi0]at K;rw[show i-w.length=0 by rw[←hB.1];exact hi0]at X;simp at K X;subst K;subst X;exact⟨rfl,aH.mono (aH.bR hr6.gY e7 λq _ g r=>by have:=r.2;have:=g.1;omega) λq _ g=>.inr g,bS.pW hr⟩
   ·rcases g with g|g
    ·exact .inl ⟨hD q g.1,g.2⟩
    ·exact .inr (.inl g.1)
theorem Sg (hso:H4)(h:eB U F Y tb bud ls){R:Sl->Hp->Prop}
 (hR:∀σ' s (Q:Rg),Ext F U σ'->(∀q,Q q->U.size<=q)->eB σ' (λq=>Grow F U q/\¬Q q) Y tb bud (QS ZC tb ls)->ik s (QW ZC tb ls) σ' Q->R s σ'):XH.c (aW Y.p) U R:=by
 refine XH.o ?_;unfold XH.v;exact DF hso PW (λc _=>Re c) h hR
theorem On (hso:H4)(h:eB U F Y tb bud ls){R:Sl->Hp->Prop}
 (hR:∀σ' s (Q:Rg),Ext F U σ'->(∀q,Q q->U.size<=q)->eB σ' (λq=>Grow F U q/\¬Q q) Y tb bud (QS KC tb ls)->ik s (QW KC tb ls) σ' Q->R s σ'):WY.c (aW Y.p) U R:=by
 refine WY.o ?_;unfold WY.v;exact DF hso MF P0 h hR
end Go.Ar