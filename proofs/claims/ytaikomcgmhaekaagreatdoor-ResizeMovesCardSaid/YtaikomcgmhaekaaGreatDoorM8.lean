/- Texts joined. -/
import Derived.Shelf.SlIterI.Nil
import Derived.Ground.GgzProg
import Derived.Test.YtaikomcgmhaekaaGreatDoorProg
import Derived.Shelf.SlMaps.Clone
import Derived.Ground.SlmcProg
import Derived.Test.YtaikomcgmhaekaaGreatDoorRows
import Derived.ChangeVars
import Derived.JoinedOf
import Derived.RowKit
import Derived.WalkKit
import Derived.ProofKit
import Derived.OpenShut
import Derived.ChangeOld
import Derived.Carry
import Derived.Test.YtaikomcgmhaekaaGreatDoorM7
set_option linter.unusedVariables false
set_option linter.unusedSimpArgs false
namespace Go.Proofs
open Go.Vc
set_option maxRecDepth 100000
def Xn.h:Hn:=.q .o1 (.q .o1 (.q .o3 (.q (.q .o1 (.k (.loop [(3,.one .s),(5,.I)] (.q (.q .o4 (.c .l .l)) (.q (.k (.q (.cW (.held true [11] (.tk [0,1,2,3,4,5,6,7,8,9,10] (.all [(11,.all [(12,.take 13 (.done))])])))) (.q .o6 (.k (.loop [(3,.one .s),(6,.I)] (.q (.q (.oq 14) (.c .l .l)) (.q (.k (.q .o8 .o5)) .o3))))))) .o3))))) .aL)))
def Xn.v (a:R2)(b:Hp)(c:Sl->Hp->Prop):Prop:=X9.c a b λd e=>WU [.s,bN] (λf=>f ⟨none,0,0⟩ 0 e) λg (h:Sl) (i:Int) j=>If (i<((d.len:Nat):Int)) (dP j λk=>Ix d.a d.len i 4 λl=>aS k l 0 λm=>Ix d.a d.len i 4 λn=>aS k n 1 λo=>aV #[.I m,.I o] 3 j λp q=>App h 1 8 3 [.I 0] ⟨some p,2,2⟩ q λr s=>Ix d.a d.len i 4 λt=>aQ t 0 s λu=>WU [.s,bN] (λv=>v r u s) λw (x:Sl) (y:Int) z=>bL (y+8) λaa=>Ix d.a d.len i 4 λab=>aQ ab 0 z λac=>Ix d.a d.len i 4 λad=>aQ ad 1 z λae=>bL (ac+ae) λaf=>If (aa<=af) (WT.c a y z λag ah ai=>aV #[.I ag] 3 ai λaj ak=>App x 1 8 3 [.I 0] ⟨some aj,1,1⟩ ak λal am=>bL (y+8) λan=>w al an am) (bL (i+1) λao=>g x ao z)) (c h j)
theorem Xn.o {a b c}(d:Xn.v a b c):Xn.c a b c:=Wa Tryz.func13 (x:=Xn.h) (R0 d)
def XK.h:Hn:=.q .o2 (.q (.q (.cW (.seq [.op,.op,.op,.op,.cY false 3 (RI.ops 3)])) (.c (.q .o3 .l) .l)) (.q (.oq 12) .l))
def XK.v (a:Sl)(b c d e f g h:Int)(i:ByteArray)(j:Hp)(k:aN):Prop:=aV #[.I b,.I c,.I d,.I e,.I f,.I g,.I h,.string i] 42 j λl m=>aQ l 4 m λn=>bW (λo p=>If o (aQ l 5 p λq=>k q p) (aQ l 4 p λr=>Nz ((a.len:Nat):Int) <| Ix a.a a.len (r.tmod ((a.len:Nat):Int)) 1 λs=>bM s p λt=>aQ l 5 p λu=>bL (t+u) λv=>k v p)) λw=>If (n<0) (w true m) (w (((a.len:Nat):Int)==0) m)
theorem XK.o {a b c d e f g h i j k}(l:XK.v a b c d e f g h i j k):XK.c a b c d e f g h i j k:=Wa Tryz.func15 (x:=XK.h) (R0 l)
def WP.h:Hn:=.q .o2 (.q .o5 .l)
def WP.v (a b c d e f:Int)(g:Hp)(h:aO):Prop:=aV #[.I a,.I b,.I c,.I d,.I e,.I f] 25 g λi j=>bM ((i.add 1).add 0) j λk=>h (decide (k>128)) j
theorem WP.o {a b c d e f g h}(i:WP.v a b c d e f g h):WP.c a b c d e f g h:=Wa Tryz.func24 (x:=WP.h) (R0 i)
def Ww.h:Hn:=.q .o2 (.q .o8 (.q .o9 (.q (.q .o2 .aK) .aL)))
def Ww.v (a b c d e f:Int)(g:Hp)(h:Option Addr->Hp->Prop):Prop:=aV #[.I a,.I b,.I c,.I d,.I e,.I f] 25 g λi j=>aQ i 0 j λk=>W3.c k j λl m n=>bM ((i.add 1).add 0) n λo=>bM ((i.add 1).add 1) n λp=>bM ((i.add 1).add 2) n λq=>bM ((i.add 1).add 3) n λr=>bM ((i.add 1).add 4) n λs=>Vg.c l o p q r s n λt u v=>If (u != 0) (h none v) (h t v)
theorem Ww.o {a b c d e f g h}(i:Ww.v a b c d e f g h):Ww.c a b c d e f g h:=Wa Tryz.func25 (x:=Ww.h) (R0 i)
def Za.h:Hn:=.q .o4 (.q .o4 (.q (.q .o2 (.k (.q .o2 (.c (.q (.o 13) (.q .o6 .l)) (.q .o2 (.c (.q .o8 .l) (.q .o2 (.c (.q .o7 .l) (.q .o2 (.c (.q .o8 .l) (.q .o2 (.c (.q .o8 (.q .o5 .l)) (.q .o2 (.c (.q (.o 12) .l) (.q .o2 (.c (.q .o9 .l) (.q .o2 (.c (.q (.o 12) (.q (.q (.cW (.seq [.op,.op,.op,.cY false 2 [.op,.op]])) (.c (.q .o4 .l) .l)) (.q (.oq 10) .l))) (.q .o2 (.c (.q .o9 (.q .o5 .l)) (.q .o2 (.c (.q .o5 .l) (.q .o2 (.c .o2 .l)))))))))))))))))))))))) (.q .o3 .l)))
def Za.v (a:R2)(b:Sl)(c d e f g h i:Int)(j:ByteArray)(k:Hp)(l:Int->Int->Int->Hp->Prop):Prop:=aV #[.I c,.I d,.I e,.I f,.I g,.I h,.I i,.string j] 42 k λm n=>aQ m 0 n λo=>aQ m 1 n λp=>aQ m 2 n λq=>aQ m 3 n λr=>aQ m 4 n λs=>aQ m 5 n λt=>aQ m 6 n λu=>bC m 7 n λv=>XK.c b o p q r s t u v n λw x=>aQ m 0 x λy=>If (y==0) (aQ m 1 x λz=>aQ m 2 x λaa=>aQ m 3 x λab=>Xw.c a z aa ab x λac ad ae=>l ac ad ac ae) (If (y==1) (aQ m 1 x λaf=>Zf.c a af w x λag ah=>l 0 ag 0 ah) (If (y==2) (aQ m 1 x λai=>Zt.c a ai x λaj ak=>l 0 aj 0 ak) (If (y==3) (aQ m 6 x λal=>XT.c a w al x λam an=>l 0 am 0 an) (If (y==4) (WT.c a w x λao ap aq=>l ao ap 0 aq) (If (y==5) (aQ m 1 x λar=>aQ m 2 x λau=>aQ m 3 x λav=>Yo.c a ar 0 au av 0 x λaw ax=>l 0 aw 0 ax) (If (y==6) (aQ m 1 x λay=>Yo.c a ay 1 0 0 w x λaz a0=>l 0 az 0 a0) (If (y==7) (aQ m 1 x λa1=>XE.c a a1 x λa2 a3 a4 a5 a6=>aV #[.I 0,.I 0] 108 a6 λa7 a8=>aR a7 0 (.I a3) a8 λa9=>aR a7 1 (.I a4) a9 λba=>bW (λbb bc=>If bb (l 0 a5 0 bc) (aQ a7 0 bc λbd=>aQ a7 1 bc λbe=>bL (100+be) λbf=>aQ a7 0 bc λbg=>l bd bf bg bc)) λbh=>If (a5 != 0) (bh true ba) (bh (!a2) ba)) (If (y==8) (aQ m 2 x λbi=>
 YD.c a bi x λbj bk bl=>l bj bk 0 bl) (If (y==9) (ZE.c a x λbm bn=>l bm 0 0 bn) (If (y==10) (ZG.c a x λbo=>l 0 0 0 bo) (l 0 0 0 x)))))))))))
theorem Za.o {a b c d e f g h i j k l}(m:Za.v a b c d e f g h i j k l):Za.c a b c d e f g h i j k l:=Wa Tryz.func26 (x:=Za.h) (R0 m)
def XG.h:Hn:=.q .o1 (.q .o4 .l)
def XG.v (a:Hp)(b:Option Addr->Hp->Prop):Prop:=Ww.c 8 64 1 1 1024 2 a λc d=>b c d
theorem XG.o {a b}(c:XG.v a b):XG.c a b:=Wa Tryz.func27 (x:=XG.h) (R0 c)
def X2.h:Hn:=.q .o1 (.q .o5 .l)
def X2.v (a:Sl)(b:Int)(c:Hp)(d:aO):Prop:=d (decide (((a.len:Nat):Int)>b)) c
theorem X2.o {a b c d}(e:X2.v a b c d):X2.c a b c d:=Wa Tryz.func37 (x:=X2.h) (R0 e)
end Go.Proofs
namespace Go.Ar
open Go Go.Vc Go.Proofs
variable {U w w':Hp}{F P Q:Rg}{L:dS}{H H':Hw}{held:List Pc}{s0:Sp}{t n:Nat}{g:Th}
structure fP where
 kd:Int
 th:Int
 a:Int
 b:Int
 of:Int
 pl:Int
 va:Int
 s:ByteArray
def pf (d:fP):List Value:=[.int .i64 d.kd,.int .i64 d.th,.int .i64 d.a,.int .i64 d.b,.int .i64 d.of,.int .i64 d.pl,.int .i64 d.va,.string d.s]
def kG (x:Int):Prop:=-9223372036854775808<=x/\x<=9223372036854775807
structure jW (d:fP):Prop where
 a:kG d.a
 b:kG d.b
 pl:kG d.pl
 va:kG d.va
structure jA (U:Hp) (sl:Sl) (ds:List fP):Prop where
 len:sl.len=ds.length
 at_:∀(i:Nat) (d:fP),ds[i]?=some d->∃b o,sl.a=some ⟨b,o,none⟩/\b<U.size/\∀(j:Nat) v,(pf d)[j]?=some v->cell U ⟨b,o+i*8+j,none⟩=some v
 i:∀d∈ds,jW d
 vq:ds.length<=9223372036854775807
theorem jA.aF {sl:Sl}{ds:List fP}(h:jA U sl ds)(e:aG U w):jA w sl ds:=⟨h.len,λi d r=>by
 obtain⟨b,o,m,g,p⟩:=h.at_ i d r;exact⟨b,o,m,by have:=e.1;omega,λj v a=>by rw[Ki e g id];exact p j v a⟩,h.i,h.vq⟩
theorem jA.rd {sl:Sl}{ds:List fP}(h:jA U sl ds)(e:aG U w){i:Nat}{d:fP}(hx:ds[i]?=some d){K:Addr->Prop}(hK:∀b o,(∀w',aG U w'->∀(j:Nat) v,(pf d)[j]?=some v->cell w' ⟨b,o+j,none⟩=some v)->K ⟨b,o,none⟩):Ix sl.a sl.len (i:Int) 8 K:=by
 obtain⟨b,o,s,r,u⟩:=h.at_ i d hx;have x:=(cV.1 hx).1;have g:=h.len;rw[s];refine ix O O ?_;rw[add_lit,dE];exact hK b _ λw' m j v p=>by rw[Ki m r id];exact u j v p
theorem vW {b o i:Nat}{h:Hp}{x:ByteArray}{K:ByteArray->Prop}(hc:cell h ⟨b,o+i,none⟩=some (.string x))(hK:K x):wU (Addr.add ⟨b,o,none⟩ i) h K:=⟨x,by rw[add_lit];exact hc,hK⟩
theorem _root_.Go.Vc.bY.rT {b o i:Nat}{cs:List Value}(hb:bY U b cs){x:ByteArray}{K:ByteArray->Prop}(hc:cs[o+i]?=some (.string x))(hK:K x):wU (Addr.add ⟨b,o,none⟩ i) U K:=⟨x,by rw[add_lit,hb.cell];exact hc,hK⟩
def qP (ad:List Int)(d:fP):Int:=if d.of<0\/ad=[]then d.pl else IntKind.i64.wrap (ad.getD (d.of.toNat%ad.length) 0+d.pl)
theorem AD {ad:List Int}{d:fP}(h:jW d):kG (qP ad d):=by
 unfold qP;split
 ·exact h.pl
 ·exact TB _
theorem B4 {addrs:Sl}{ad:List Int}(hs:cS addrs 1 (Wu ad) U F)(d:fP){R:aN}(hR:∀σ',aG U σ'->R (qP ad d) σ'):XK.c addrs d.kd d.th d.a d.b d.of d.pl d.va d.s U R:=by
 refine XK.o ?_;unfold XK.v;have z:addrs.len=ad.length:=by have:=hs.1;simp[Wu]at this;omega
 refine nw (cs:=pf d) λv D e j=>j.rI rfl (Ko (λr w=>w=v/\r=decide (d.of<0\/ad=[])) (λr w ⟨C,A⟩=>?_) λJ u=>cL (λm=>u _ _ ⟨rfl,by rw[zI (.inl m)]⟩) λm=>u _ _ ⟨rfl,?_⟩)
 ·subst C;have g:=hR w e;by_cases hc:d.of<0\/ad=[]
  ·refine cJ (by rw[A];exact zI hc) (j.rI rfl ?_);unfold qP at g;rw[zB hc]at g;exact g
  ·have i:0<ad.length:=qo.2 λh=>hc (.inr h);refine bZ (by rw[A];exact zJ hc) (j.rI rfl (nz O ?_));have x:0<=d.of:=by omega
   have B:d.of.tmod (addrs.len:Int)=((d.of.toNat%ad.length:Nat):Int):=by
    rw[QY x,z,Int.natCast_emod,Int.toNat_of_nonneg x]
   rw[B];have p:d.of.toNat%ad.length<ad.length:=uX _ i;have y:ad[d.of.toNat%ad.length]?=some ad[d.of.toNat%ad.length]:=cQ p;refine(cS.loc _ _ _ |>.aF (aH.cut hs) e).nK y (j.rI rfl (pc ?_));unfold qP at g;rw[zA hc,zM,y]at g;exact g
 ·rw[z];rw[nP];simp only[za,zU];constructor
  ·intro h;exact .inr (xX.1 O)
  ·rintro(h|h)
   ·exact(m h).elim
   ·rw[h];rfl
theorem T7 {l:Sl}{most:Int}{R:aO}(hR:R (decide ((l.len:Int)>most)) U):X2.c l most U R:=by
 refine X2.o ?_;unfold X2.v;exact hR
theorem SC {xs:List (Int×Int×Int)}(h:QM xs=true):(xs.map Qx).map kE=xs:=by
 rw[mC]
 conv=>rhs;rw[←wE xs]
 apply k5;intro t ht;obtain⟨i,a⟩:=zN ht;have:=((Qr xs).1 h).2.2.1 i t a;obtain⟨c,_,e,g,d,b⟩:=yr this;simp only[Function.comp,id];rw[show Qx t=c from e];unfold kE;rw[←g,←d,←b]
theorem Si {xs:List (Int×Int×Int)}(h:QM xs=true):(xs.map Qx).length<=40/\∀c∈xs.map Qx,c.ok:=by
 refine⟨by have:=((Qr xs).1 h).2.1;simpa using this,λc g=>?_⟩;obtain⟨t,d,rfl⟩:=zD.1 g;obtain⟨i,b⟩:=zN d;have:=((Qr xs).1 h).2.2.1 i t b;obtain⟨c,a,e,_⟩:=yr this;rw[show Qx t=c from e];exact a
structure wI (H:Hw) (bK:Int):Prop where
 hi:HI H [] (VT H.cf.bK)
 cf:im H
 pg:(H.cf.bK:Int)=bK
 live:H.live=[]
 ph:∀g∈H.bQ,g.ph=none
 th:1<=H.cf.threads
theorem RP {xs:List (Int×Int×Int)}{p a t b r:Int}(h:QM xs=true)(hc:rU p a t b r=true):wI (Uy (xs.map Qx) ⟨p.toNat,a.toNat,t.toNat,b.toNat,r.toNat⟩) p:=by
 obtain⟨⟨m,u,s⟩,⟨j,w⟩,⟨y,x⟩,_⟩:=(Iq p a t b r).1 hc;obtain⟨e,d⟩:=Si h;refine⟨TO (cf:=⟨p.toNat,a.toNat,t.toNat,b.toNat,r.toNat⟩) aC aC aC aC e d,⟨by simp only[Uy];omega,by simp[Uy],?_⟩,by simp only[Uy];omega,rfl,λg i=>by rw[Bx i],by simp only[Uy];omega⟩;show QM ((xs.map Qx).map kE)=true;rw[SC h];exact h
theorem OH (g:Gl U)(gd:Gd U)(b b1 b2 b3 b4 b5:Int){R:Option Addr->Hp->Prop}(h0:∀σ',aG U σ'->R none σ')
 (h1:∀σ' L N H,aG U σ'->U.size<=N->N<=σ'.size->HH σ' (λb=>N<=b) L H->wI H b1->R (some ⟨L.p,0,none⟩) σ'):Ww.c b b1 b2 b3 b4 b5 U R:=by
 refine Ww.o ?_;unfold Ww.v;refine nw (cs:=[.int .i64 b,.int .i64 b1,.int .i64 b2,.int .i64 b3,.int .i64 b4,.int .i64 b5]) λv E e j=>j.rI rfl ?_;by_cases hw:2<=b/\b<=16
 ·refine I6 b hw.1 hw.2 λs C e1 w=>?_;have a:=e1.bX j id;have d:=e.trans e1;have m:QM (sH b)=true:=by
   have:=Es b.toNat O O;rw[show((b.toNat:Nat):Int)=b by omega]at this;exact this
  refine a.gA rfl (a.gA rfl (a.gA rfl (a.gA rfl (a.gA rfl ?_))));refine A5 w (g.aF d) (gd.aF d) b1 b2 b3 b4 b5 (λu=>by rw[m]at u;cases u) (λ_ A r e2=>?_) λ_ A r L e2 B=>?_
  ·exact cJ rfl (h0 r (d.trans e2))
  ·exact bZ rfl (h1 r L C.size _ (d.trans e2) d.1 e2.1 B (RP m A))
 ·refine T8 b O (j.gA rfl (j.gA rfl (j.gA rfl (j.gA rfl (j.gA rfl ?_)))));have w:iB v ⟨none,0,0⟩ []:=⟨rfl,λi x y z D=>by simp at D⟩;refine A5 w (g.aF e) (gd.aF e) b1 b2 b3 b4 b5 (λ_ r e2=>cJ rfl (h0 r (e.trans e2))) (λm=>?_) λm=>?_
  ·exact absurd m aB
  ·exact absurd m aB
theorem RC (h:HH U F L H)(thread:Int)(hn:∀t:Nat,thread=t->t<H.bQ.length->fX H t=none){R:Bool->Int->Int->Int->Hp->Prop}(hR:∀σ' e,aG U σ'->e≠0->R false 0 0 e σ'):XE.c (aW L.p) thread U R:=by
 refine XE.o ?_;unfold XE.v;refine nw (cs:=[.int .i64 0,.int .i64 0]) λv s e u=>?_;have K1:=(HK.start h).box e s;have fin:∀d:Int,d≠0->eP (Addr.add ⟨U.size,0,none⟩ 0) (.int .i64 0) v λA=>eP (Addr.add ⟨U.size,0,none⟩ 1) (.int .i64 0) A λv6=>gO .i64 (Addr.add ⟨U.size,0,none⟩ 0) v6 λa=>gO .i64 (Addr.add ⟨U.size,0,none⟩ 1) v6 λb=>R false a b d v6:=λd i=>
  u.s1 aA λB o1 z=>z.s1 aA λy o2 r=>r.rI rfl (r.rI rfl (hR y d ((e.only o1 (.inr (zC _))).only o2 (.inr (zC _))) i))
 refine QP K1.h (bZ rfl (H5 K1.h thread ?_));by_cases hth:0<=thread/\thread<(H.bQ.length:Int)
 ·obtain⟨t,rfl⟩:∃t:Nat,thread=(t:Int):=⟨thread.toNat,O⟩;have m:t<H.bQ.length:=by omega
  obtain⟨x,g,w,j⟩:=h.th m;have hp:=hn t rfl m;unfold fX at hp;rw[j]at hp;have hp:g.ph=none:=hp;refine bZ (by rw[zI hth];rfl) (bO (K1.h.hd.rS rfl (K1.h.tR w j ⟨tQ _,?_⟩)));rw[hp];exact cJ rfl (fin 5 aB)
 ·exact cJ (by rw[zJ hth];rfl) (fin 1 aB)
def Safe (H:Hw)(d:fP)(x:Int)(e:Int×Bk):Prop:=(∀j,fX H j≠some (.find e.1))/\¬((d.kd=3\/d.kd=1\/d.kd=6)/\e.1<=x/\x<e.1+e.2.2.1)
structure ja (H:Hw) (d:fP) (x:Int) (H':Hw):Prop where
 hi:∃held s0,HI H' held s0
 kp:QF H' H
 fx:∀e∈H.live,Safe H d x e->e∈H'.live/\(∀w:Nat,e.1<=((8*w:Nat):Int)->((8*w:Nat):Int)<e.1+e.2.2.1->H'.sp.wd w=H.sp.wd w)/\∀j,fX H' j≠some (.find e.1)
theorem ja.same (h:HI H held s0)(d:fP)(x:Int):ja H d x H:=⟨⟨_,_,h⟩,QF.refl _,λe a b=>⟨a,λ_ _ _=>rfl,b.1⟩⟩
theorem ja.op (h:HI H held s0){d:fP}{x:Int}(o:iG H H')(hl:∀e∈H.live,Safe H d x e->e∈H'.live):ja H d x H':=
 ⟨o.hi,o.kp,λe a b=>⟨hl e a b,h.kl o.ks e a,λj=>by rw[o.ph];exact b.1 j⟩⟩
theorem ja.ar {d:fP}{x:Int}(o:iX H H'):ja H d x H':=
 ⟨o.hi,o.kp,λe a b=>⟨by rw[o.live];exact a,o.kl e a,λj=>by unfold fX;rw[o.bQ];exact b.1 j⟩⟩
theorem HI.eW (h:HI H held s0){e:Int×Bk}(he:e∈H.live):8<=e.2.2.1/\0<=e.1/\e.1%8=0/\e.2.2.1%8=0/\e.1+e.2.2.1<=270000:=by
 obtain⟨_,p,hp,D,E,J,B,_⟩:=h.lv e he;have C:=h.xR.size_pos hp;have G:=h.xR.ka hp;obtain⟨A,w,hd⟩:=h.xR.hf p hp;have z:p.addr%8=0:=by
  rcases hd with⟨_,_,r,hr,c2,c3⟩|⟨j,c,c1,c2,c3,c4,_⟩
  ·omega
  ·obtain⟨a,u,b,x⟩:=c4;have:a=c:=Option.some.inj (b.1.symm.trans c2);subst this;have g:=(h.xR.ga _ A w).cI j a u b;obtain⟨l,s,i,F,y,e,_⟩:=(Un g).1 x;have d:=g.ok;unfold cD.ok at d;unfold at_ at e;have m:a.size=8*(a.size/8):=by omega
   have:i*a.size=8*(i*(a.size/8)):=by rw[Nat.mul_left_comm,←m]
   omega
 omega
theorem ja.write (h:HI H held s0){d:fP}{x:Int}(hd:d.kd=3)(v:Int):ja H d x {H with sp:=KZ H.sp x v}:=by
 refine⟨⟨_,_,h.write x v⟩,⟨rfl,rfl,rfl,rfl⟩,λe a b=>⟨a,λw g i=>?_,b.1⟩⟩;have j:=h.eW a;rw[(Bd H.sp x v).2.2,zA];rintro⟨h0,hw⟩;have m:=I2 h0;exact b.2 ⟨.inl hd,O,O⟩
theorem Ot {size align a e:Int}(h:vK H size align H' a e):∀x∈H.live,x∈H'.live:=λx b=>by
 rcases h with⟨_,_,h3⟩|⟨_,h2,_,cl,h3,_⟩
 ·rw[h3];exact b
 ·rw[h3];exact(Gw h2).2 (.inl b)
theorem ja.free (h:HI H held s0){d:fP}{x thread e:Int}(hd:d.kd=1)(o:iG H H')(hf:vE H thread x H' e):ja H d x H':=by
 refine ja.op h o λi a g=>?_;have j:=h.eW a;rcases hf with⟨_,h2,_⟩|⟨_,_,_,h4⟩|⟨_,b,_,_,h4⟩
 ·rw[h2];exact a
 ·rw[h4];exact a
 ·rw[h4];refine Aa.2 ⟨a,λm=>g.2 ⟨.inr (.inl hd),O,O⟩⟩
theorem ja.step (h:HI H held s0){d:fP}{x:Int}(hg:H.bQ[t]?=some g){p:Ph}(hp:g.ph=some p):ja H d x (Q6 H t p):=by
 have J:=(cV.1 hg).1;have s:=h.JE hg hp;have z:fX H t=some p:=by unfold fX;rw[hg];exact hp
 have live:∀e∈H.live,p≠.find e.1->e∈(Q6 H t p).live:=λe i D=>by
  by_cases hf:la p
  ·obtain⟨_,_,_,K,r⟩:=rl h hg hp hf;by_cases u:∃y,p=.find y
   ·obtain⟨y,rfl⟩:=u;cases hm:cB H.live y with
    | none=>rw[((r y rfl).1 hm).2.2];exact i
    | some b=>
     rw[((r y rfl).2 b hm).2];exact Aa.2 ⟨i,λa=>D (by rw[a])⟩
   ·rw[(K λy a=>u ⟨y,a⟩).2];exact i
  ·obtain⟨cl,G,E⟩:=Ay h hg hp hf;obtain⟨_,m⟩:=qV h hg hp E;rcases m with⟨_,_,_,e2,_⟩|⟨_,_,_,e4⟩|⟨_,_,e3,e4⟩
   ·rw[e2];exact i
   ·rw[e4];exact i
   ·rw[e4];exact(Gw e3).2 (.inl i)
 have B:∀y,(Wv H t p).2.1≠some (.find y):=λy a=>by
  by_cases hf:la p
  ·obtain⟨_,_,m,_⟩:=rl h hg hp hf;rcases m with⟨p',w,e1,_,e3,_⟩|e1
   ·rw[e1]at a;exact e3 y (Option.some.inj a)
   ·rw[e1]at a;cases a
  ·obtain⟨cl,G,E⟩:=Ay h hg hp hf;obtain⟨_,m⟩:=qV h hg hp E;rcases m with⟨p',w,e1,_,_,e4,_⟩|⟨e1,_⟩|⟨e1,_⟩
   ·rw[e1]at a;cases a;exact e4.elim
   ·rw[e1]at a;cases a
   ·rw[e1]at a;cases a
 refine⟨s.hi,Ho H t p,λe i F=>⟨live e i λu=>F.1 t (by rw[z,u]),h.kl s.ks e i,λj=>?_⟩⟩;by_cases hj:j=t
 ·subst hj;obtain⟨w,C,A⟩:=Gy (p:=p) J;unfold fX;rw[C];show w.ph≠_;rw[A];exact B _
 ·unfold fX;rw[U0 p hj];exact F.1 j
theorem ja.start (h:HI H held s0){d:fP}{x:Int}{kind size align addr:Int}(ha:iz addr)(hk:kind=1->d.kd=6/\addr=x)(hk2:kind=0\/kind=1){t:Nat}{p:Ph}{thread:Int}(hs:Va H thread kind size align addr=.inr (t,p)):ja H d x (eO H t (some p)):=by
 rcases VX H thread kind size align addr with⟨e,m,_⟩|⟨t',p',g,hth,hg,hn,b,hs'⟩
 ·rw[m]at hs;cases hs
 ·rw[hs']at hs;obtain⟨rfl,rfl⟩:t'=t/\p'=p:=by cases hs;exact⟨rfl,rfl⟩
  have r:∀s a,p'≠.dG s a:=λs a e=>by
   subst e;unfold iL at b;split at b
   ·split at b
    ·split at b
     ·split at b<;>cases b
     ·cases b
    ·cases b
   ·split at b
    ·cases b
    ·split at b<;>cases b
  have w:=h.eO hg hn (yY (g:=g) b ha (Hs h hg hn)) r;refine⟨⟨_,_,w⟩,Ky _ _ _,λe m i=>⟨m,λ_ _ _=>rfl,λj=>?_⟩⟩;by_cases hj:j=t'
  ·subst hj;obtain⟨y,u,kJ⟩:=Le (H:=H) (p:=some p') (cV.1 hg).1;unfold fX;rw[u];show y.ph≠_;rw[kJ];intro hx;cases hx;unfold iL at b;rcases hk2 with rfl|rfl
   ·simp at b;obtain⟨_,b⟩:=b;split at b<;>(obtain⟨_,b⟩:=b;cases b)
   ·simp at b;obtain⟨z,B⟩:=hk rfl;have A:=h.eW m;exact i.2 ⟨.inr (.inr z),O,O⟩
  ·rw[Ef hg _ hj];exact i.1 j
end Go.Ar
namespace Go.Proofs
open Go.Vc
set_option maxRecDepth 100000
def X5.h:Hn:=.q .o3 (.q (.q (.cW (.seq [.op,.op,.op,.cY false 3 (RI.ops 3)])) .aJ) (.q .o3 (.q (.q .o2 .aJ) (.q .o1 (.q (.q .o1 (.k (.loop [(9,.one .s),(10,.I)] (.q (.q .o4 (.c .l .l)) (.q (.k (.q (.q .o6 (.c .l .l)) (.q (.o 14) (.q .o2 (.c .o5 .l))))) .o3))))) (.q .o4 .l))))))
def X5.v (a b c d e f:Int)(g:Sl)(h:Int)(i:Hp)(j:Option Addr->Sl->Hp->Prop):Prop:=aV #[.I a,.I b,.I c,.I d,.I e,.I f] 25 i λk l=>aQ k 0 l λm=>aQ k 1 l λn=>aQ k 2 l λo=>aQ k 3 l λp=>aQ k 4 l λq=>aQ k 5 l λr=>WP.c m n o p q r l λs t=>bW (λu v=>If u (j none ⟨none,0,0⟩ v) (aQ k 0 v λw=>aQ k 1 v λx=>aQ k 2 v λy=>aQ k 3 v λz=>aQ k 4 v λaa=>aQ k 5 v λab=>Ww.c w x y z aa ab v λac ad=>If ac.isNone (j none ⟨none,0,0⟩ ad) (WU [.s,bN] (λae=>ae ⟨none,0,0⟩ 0 ad) λaf (ag:Sl) (ah:Int) ai=>If (ah<((g.len:Nat):Int)) (Ix g.a g.len ah 8 λaj=>aQ aj 0 ai λak=>If (ak≥20) (bL (ah+1) λal=>af ag al ai) (Ix g.a g.len ah 8 λam=>aQ am 0 ai λan=>aQ am 1 ai λao=>aQ am 2 ai λap=>aQ am 3 ai λaq=>aQ am 4 ai λar=>aQ am 5 ai λau=>aQ am 6 ai λav=>bC am 7 ai λaw=>Za.c ac ag an ao ap aq ar au av aw ai λax ay az a0=>If (az>0) (aV #[.I az] 3 a0 λa1 a2=>App ag 1 8 3 [.I 0] ⟨some a1,1,1⟩ a2 λa3 a4=>bL (ah+1) λa5=>af a3 a5 a4) (bL (ah+1) λa6=>af ag a6 a0))) (j ac ag ai)))) λa7=>If s (a7 true t) (XD.c g h t λa8 a9=>a7 a8 a9)
theorem X5.o {a b c d e f g h i j}(k:X5.v a b c d e f g h i j):X5.c a b c d e f g h i j:=Wa Tryz.func6 (x:=X5.h) (R0 k)
def W8.h:Hn:=.q .o1 (.q .o2 (.q (.q .o2 .aK) (.q .o7 (.q .o7 (.q .o8 (.q .o8 (.q .o7 (.q .o8 (.q .o9 (.q .o8 (.q (.cW (.seq [.op,.op,.op,.cY true 2 [.op,.op],.op,.cY true 2 [.op,.op],.op,.cY true 2 [.op,.op],.op,.cY true 3 (RI.ops 3),.op,.cY true 2 [.op,.op],.op,.cY true 3 (RI.ops 3),.op,.cY true 2 [.op,.op],.op,.cY true 2 [.op,.op],.op,.cY true 2 [.op,.op],.op,.cY true 2 [.op,.op],.op,.cY true 2 [.op,.op],.op,.cY true 2 [.op,.op],.op,.cY true 2 [.op,.op],.op])) .l)))))))))))
def W8.v (a:Hp)(b:aO):Prop:=XG.c a λc d=>If c.isNone (b false d) (Qj.c c 24 8 d λe f g=>Ze.c c 0 0 24 g λh i j=>Ze.c c 0 h 20 j λk l m=>Ze.c c 0 h 300 m λn o p=>QW.c c 0 (ByteArray.mk #[97,98,99]) p λq r s=>WT.c c q s λt u v=>bL (q+8) λw=>WT.c c w v λx y z=>QU.c c q z λaa ab ac=>bW (λad ae=>bW (λaf ag=>bW (λah ai=>bW (λaj ak=>bW (λal am=>bW (λan ao=>bW (λap aq=>bW (λar au=>bW (λav aw=>bW (λax ay=>bW (λaz a0=>bW (λa1 a2=>bW (λa3 a4=>b a3 a4) λa5=>If a1 (a5 (ab==0) a2) (a5 false a2)) λa6=>If az (a6 (aa.toList==(ByteArray.mk #[97,98,99]).toList) a0) (a6 false a0)) λa7=>If ax (a7 (x==6513249) ay) (a7 false ay)) λa8=>If av (a8 (t==3) aw) (a8 false aw)) λa9=>If ar (a9 (r==0) au) (a9 false au)) λba=>If ap (ba (o==0) aq) (ba false aq)) λbb=>If an (bb (n != 0) ao) (bb false ao)) λbc=>If al (bc (n != h) am) (bc false am)) λbd=>If aj (bd (l==0) ak) (bd false ak)) λbe=>If ah (be (k==h) ai) (be false ai)) λbf=>If af (bf (i==0) ag) (bf false ag)) λbg=>If ad (bg (h==4096) ae) (bg false ae)) λbh=>If (e==24) (bh (f==0) ac) (bh false ac))
theorem W8.o {a b}(c:W8.v a b):W8.c a b:=Wa Tryz.func7 (x:=W8.h) (R0 c)
def XD.h:Hn:=.q .o1 (.q (.q .o3 .aK) (.q .o1 (.q (.q .o1 (.k (.loop [(5,.I),(6,.I)] (.q (.q .o4 (.c .l .l)) (.q (.k (.q .o9 (.q .o2 .aK))) .o3))))) .aM)))
def XD.v (a:Sl)(b:Int)(c:Hp)(d:aO):Prop:=X2.c a b c λe f=>If e (d true f) (WU [bN,bN] (λg=>g 0 0 f) λh (i:Int) (j:Int) k=>If (j<((a.len:Nat):Int)) (Ix a.a a.len j 8 λl=>bC l 7 k λm=>bL (i+((m.size:Nat):Int)) λn=>If (n>5000) (d true k) (bL (j+1) λo=>h n o k)) (d false k))
theorem XD.o {a b c d}(e:XD.v a b c d):XD.c a b c d:=Wa Tryz.func12 (x:=XD.h) (R0 e)
end Go.Proofs
namespace Go.Ar
open Go Go.Vc Go.Proofs
variable {U w w':Hp}{F P Q X:Rg}{L:dS}{H H':Hw}{held:List Pc}{s0:Sp}{t n:Nat}{g:Th}
set_option maxRecDepth 8000 in
theorem Ν (h:HH U F L H)(gc:Gc U)(hi:HI H held s0)(hc:im H)(h208:H.cf.bK<=208){addrs:Sl}{ad:List Int}(hs:cS addrs 1 (Wu ad) U X)(d:fP)(di:jW d){R:Int->Int->Int->Hp->Prop}
 (hR:∀a e n σ' ts' H',Ext F U σ'->HH σ' (Grow F U) {L with ts:=ts'} H'->ja H d (qP ad d) H'->R a e n σ') :
 Za.c (aW L.p) addrs d.kd d.th d.a d.b d.of d.pl d.va d.s U R:=by
 refine Za.o ?_;unfold Za.v;refine nw (cs:=pf d) λv hz e i=>i.rI rfl (i.rI rfl (i.rI rfl (i.rI rfl (i.rI rfl (i.rI rfl (i.rI rfl (i.rT rfl ?_)))))));refine B4 (aH.aF (aH.cut hs) e) d λv1 e1=>?_;have K:=((HK.start h).box e hz).fr e1;have j:=e1.bX i id;have C:=AD (ad:=ad) di;generalize hx:qP ad d=x at C hR;refine j.rI rfl (cU (λy=>?_) λhk0=>?_)
 ·obtain⟨H',a,V,D,o,me⟩:=SB hi d.th d.a d.b;refine j.rI rfl (j.rI rfl (j.rI rfl (VC sj K.h hc.2.2 D λm ts e2 u=>?_)));have K2:=K.to e2 u λb _ i=>i;exact hR _ _ _ m ts H' K2.e (K2.fin h) (ja.op hi o λe W _=>Ot me e W)
 refine cU (λy=>?_) λhk1=>?_
 ·obtain⟨H',V,D,o,fe⟩:=Υ hi d.th x C.2;refine j.rI rfl (BC sj K.h hc.2.2 D λm ts e2 u=>?_);have K2:=K.to e2 u λb _ i=>i;exact hR _ _ _ m ts H' K2.e (K2.fin h) (ja.free hi (by simpa using y) o fe)
 refine cU (λy=>?_) λhk2=>?_
 ·obtain⟨H',V,D,o,le⟩:=LI hi d.th;refine j.rI rfl (RZ sj K.h hc.2.2 D λm ts e2 u=>?_);have K2:=K.to e2 u λb _ i=>i;exact hR _ _ _ m ts H' K2.e (K2.fin h) (ja.op hi o λe W _=>by rw[le];exact W)
 refine cU (λy=>?_) λhk3=>?_
 ·refine j.rI rfl (Gu K.h (gc.aF (e.trans e1)) x d.va C.2 λm e2 u=>?_);have K2:=K.to e2 u λb _ i=>i;exact hR _ _ _ m L.ts _ K2.e (K2.fin h) (ja.write hi (by simpa using y) d.va)
 refine cU (λy=>?_) λhk4=>?_
 ·refine KN K.h x C.2 λm e2=>?_;have K2:=K.fr e2;exact hR _ _ _ m L.ts _ K2.e (K2.fin h) (ja.same hi d x)
 refine cU (λy=>?_) λhk5=>?_
 ·refine j.rI rfl (j.rI rfl (j.rI rfl (BN K.h hc.2.2 d.th 0 d.a d.b 0 (λV W N m e2 u=>?_) λt p z B ht m e2 u=>?_)))
  ·have K2:=K.to e2 u λb _ i=>i;exact hR _ _ _ m L.ts _ K2.e (K2.fin h) (ja.same hi d x)
  ·have K2:=K.to e2 u λb _ i=>i;exact hR _ _ _ m L.ts _ K2.e (K2.fin h) (ja.start hi (by unfold iz;decide) (λh=>by cases h) (.inl rfl) z)
 refine cU (λy=>?_) λhk6=>?_
 ·refine j.rI rfl (BN K.h hc.2.2 d.th 1 0 0 x (λV W N m e2 u=>?_) λt p z B ht m e2 u=>?_)
  ·have K2:=K.to e2 u λb _ i=>i;exact hR _ _ _ m L.ts _ K2.e (K2.fin h) (ja.same hi d x)
  ·have K2:=K.to e2 u λb _ i=>i;exact hR _ _ _ m L.ts _ K2.e (K2.fin h) (ja.start hi C.2 (λ_=>⟨by simpa using y,rfl⟩) (.inr rfl) z)
 refine cU (λy=>?_) λhk7=>?_
 ·refine j.rI rfl ?_;by_cases z:∃(t:Nat) (g:Th) (p:Ph),d.th=t/\H.bQ[t]?=some g/\g.ph=some p
  ·obtain⟨t,g,p,B,S,hp⟩:=z;rw[B];refine IV sj K.h S hp (hi.JE S hp).ok λm ts e2 u=>?_;have K2:=K.to e2 u λb _ i=>i;refine nw (cs:=[.int .i64 0,.int .i64 0]) λv3 P e3 M=>M.s1 aA λv4 o4 b4=>b4.s1 aA λv5 o5 Q=>?_;have K5:=((K2.box e3 P).own o4 (.inr rfl)).own o5 (.inr rfl);have fin:∀a e n,R a e n v5:=λa e n=>hR a e n v5 ts _ K5.e (K5.fin h) (ja.step hi S hp);refine Ko (λr w=>w=v5) (λr w D=>?_) λJ Y=>bZ rfl (Y _ _ rfl);subst D;exact cU (λ_=>fin _ _ _) λ_=>Q.rI rfl (Q.rI rfl (pc (Q.rI rfl (fin _ _ _))))
  ·refine RC K.h d.th (λt B ht=>?_) λm V e2 N=>?_
   ·obtain⟨x',g,_,S⟩:=h.th ht;unfold fX;rw[S];cases hp:g.ph with
    | none=>exact hp
    | some p=>exact(z ⟨t,g,p,B,S,hp⟩).elim
   ·have K2:=K.fr e2;refine nw (cs:=[.int .i64 0,.int .i64 0]) λv3 P e3 M=>M.s1 aA λv4 o4 b4=>b4.s1 aA λv5 o5 Q=>?_;have K5:=((K2.box e3 P).own o4 (.inr rfl)).own o5 (.inr rfl);refine Ko (λr w=>w=v5) (λr w D=>?_) λJ Y=>cJ (by simpa using N) (Y _ _ rfl);subst D;have fin:∀a e n,R a e n w:=λa e n=>hR a e n w L.ts _ K5.e (K5.fin h) (ja.same hi d x);exact cU (λ_=>fin _ _ _) λ_=>Q.rI rfl (Q.rI rfl (pc (Q.rI rfl (fin _ _ _))))
 refine cU (λy=>?_) λhk8=>?_
 ·have E:=Sw hi d.a;refine j.rI rfl (Ru K.h d.a di.a.2 (λn A hn Z=>?_) (λn hn=>?_) (λhneg=>?_) λhpos m e2 u=>?_)
  ·obtain⟨G,s0',h'⟩:=(E n).1.hi;exact h'.lZ (by rw[(E n).1.kp.2.1];exact h208) Z
  ·have:=(E n).2;have:=h.s.a2;omega
  ·exact hR _ _ _ v1 L.ts _ K.e (K.fin h) (ja.same hi d x)
  ·have K2:=K.to e2 u λb _ i=>i;exact hR _ _ _ m L.ts _ K2.e (K2.fin h) (ja.ar (E _).1)
 refine cU (λy=>?_) λhk9=>?_
 ·have tr:=Sb hi;refine Ta K.h (λn hn=>?_) λm e2 u=>?_
  ·have:=(tr n).2;have:=h.s.a2;omega
  ·have K2:=K.to e2 u λb _ i=>i;exact hR _ _ _ m L.ts _ K2.e (K2.fin h) (ja.ar (tr _).1)
 refine cU (λy=>?_) λhk10=>?_
 ·have ti:=Rp hi;refine RA K.h (λn A hn Z=>?_) λm e2 u=>?_
  ·obtain⟨G,s0',h'⟩:=(ti n).hi;exact(h'.wi.ga n A Z).De
  ·have K2:=K.to e2 u λb _ i=>i;exact hR _ _ _ m L.ts _ K2.e (K2.fin h) (ja.ar (ti _))
 exact hR _ _ _ v1 L.ts _ K.e (K.fin h) (ja.same hi d x)
structure fJ (σ0 U:Hp) (L:dS) (H:Hw) (held:List Pc) (s0:Sp) (P Q:Rg) (addrs:Sl) (ad:List Int):Prop where
 e:aG σ0 U
 h:HH U P L H
 hi:HI H held s0
 cf:im H
 pg:H.cf.bK<=128
 pP:∀b,P b->σ0.size<=b/\b<U.size
 pQ:∀b,Q b->σ0.size<=b/\b<U.size/\¬P b
 row:bR addrs 1 (Wu ad) U Q
 al:ad.length<=60
 g0:jk (λb=>σ0.size<=b)/\¬σ0.size<=1
variable {σ0:Hp}{addrs:Sl}{ad:List Int}
theorem fJ.step (p:fJ σ0 U L H held s0 P Q addrs ad){ts':List dQ}(e:Ext P U w)(h':HH w (Grow P U) {L with ts:=ts'} H'){held':List Pc}{s0':Sp}(hi':HI H' held' s0')(k:QF H' H) :
 fJ σ0 w {L with ts:=ts'} H' held' s0' (Cut (Grow P U) w) Q addrs ad:=by
 have r:=e.1;refine⟨Ext.eY p.e e λb a=>.inr (p.pP b a).1,h'.cut,hi',p.cf.bV k,by rw[k.2.1];exact p.pg,λb a=>⟨?_,a.2⟩,λb a=>?_,aI.bV p.row e λb _ g hp=>(p.pQ b g).2.2 hp,p.al,p.g0⟩
 ·have:=p.e.1;rcases a.1 with h1|h1
  ·exact(p.pP b h1).1
  ·omega
 ·obtain⟨d,m,i⟩:=p.pQ b a;exact⟨d,O,λj=>by
   rcases j.1 with h1|h1
   ·exact i h1
   ·omega⟩
theorem fJ.fr (p:fJ σ0 U L H held s0 P Q addrs ad)(e:aG U w):fJ σ0 w L H held s0 P Q addrs ad:=
 ⟨p.e.trans e,p.h.aF e,p.hi,p.cf,p.pg,λb a=>⟨(p.pP b a).1,by have:=(p.pP b a).2;have:=e.1;omega⟩,λb a=>⟨(p.pQ b a).1,by have:=(p.pQ b a).2.1;have:=e.1;omega,(p.pQ b a).2.2⟩,aI.aF p.row e,p.al,p.g0⟩
theorem fJ.out (p:fJ σ0 U L H held s0 P Q addrs ad){T:Rg}(e:Ext T U w)(hT:∀b,b<U.size->T b->¬P b/\¬Q b/\σ0.size<=b):fJ σ0 w L H held s0 P Q addrs ad:=by
 have m:=e.1;have g:Ext (λb=>T b/\b<U.size) U w:=⟨e.1,λb a i=>e.2 b a λd=>i ⟨d,a⟩⟩;refine⟨Ext.eY p.e g λb a=>.inr (hT b a.2 a.1).2.2,p.h.bV g (λb a hp d=>(hT b a d.1).1 hp) (λb a=>?_) (λa=>?_),p.hi,p.cf,p.pg,λb a=>⟨(p.pP b a).1,by have:=(p.pP b a).2;omega⟩,λb a=>⟨(p.pQ b a).1,by have:=(p.pQ b a).2.1;omega,(p.pQ b a).2.2⟩,aI.bV p.row g λb a j d=>(hT b a d.1).2.1 j,p.al,p.g0⟩
 ·exact p.g0.1 b (hT b a.2 a.1).2.2
 ·exact p.g0.2 (hT _ a.2 a.1).2.2
theorem O7 (hr:bR addrs 1 (Wu ad) U Q)(hl:ad.length<=1000000)(x:Int){e t:Nat}{K:Sl->Hp->Prop}(hK:∀s' w,Ext Q U w->bR s' 1 (Wu (ad++[x])) w (λb=>Q b\/U.size<=b/\b<w.size)->K s' w) :
 Nw (.cells #[.int .i64 x] t (0,0)) U λn v=>App addrs 1 8 e [.int .i64 0] ⟨some n,1,1⟩ v K:=by
 have p:addrs.len=ad.length:=by have:=hr.1;simp[Wu]at this;omega
 refine bR.push (F:=λb=>Q b\/U.size<=b) (vs:=[.int .i64 x]) (aI.mono hr λb _ a=>.inl a) (λb a=>.inr a) rfl rfl (by simp[dJ]) O O λs' w i g m=>hK s' w ⟨g.1,λb a j=>g.2 b a λd=>d.elim j λd=>O⟩ ?_;have:Wu (ad++[x])=Wu ad++[.int .i64 x]:=by simp[Wu]
 rw[this];refine aI.mono (aI.cut m) λb a d=>?_;rcases d.1 with h1|h1
 ·exact .inl h1
 ·exact .inr ⟨h1,a⟩
end Go.Ar
namespace Go.Ar
open Go.Vc (cB dO dK)
def i63 (x:Int):Bool:=decide (x<=9223372036854775807)
def qm (H:Hw)(t:Nat):Ph->Bool
 | .take k=>decide (k<H.tb.length)&&(match KJ (H.cls k) ((H.kr t).li k)with
  | (some y,_)=>i63 y
  | (none,_)=>true)
 | .cN k _=>decide (k<H.tb.length)&&(Qq (H.eI t) (k:Int) != 0 || !(YQ (H.eI t) (k:Int)).isEmpty)
 | .cP _ _=>true
 | .grow _ _=>true
 | .fill=>match (H.kr t).bP with
  | (k,x::xs)::_=>decide (k<H.tb.length)&&(i63 x&&decide (((H.kr t).li k).os.length+xs.length<=256))
  | _=>false
 | .eN m=>decide (Qo (H.eI t) H.sp (m:Int) 1<=1000000)
 | .find x=>i63 x&&((cB H.live x).isSome&&decide (0<=x))
 | .put k _=>decide (k<H.tb.length) && !(H.kr t).bP.isEmpty
 | .back=>match (H.kr t).bP with
  | (_,xs)::_=>(xs.all λx=>i63 x&&decide (0<=Ye H.bT x))&&decide (xs.length<=1000000)
  | _=>false
 | .dG _ a=>decide (0<=a)&&(decide (a.toNat<H.bT.length)&&H.bT.all λA=>A.runs.all λr=>decide (r.1<=1000000))
 | .drain=>true
theorem yU {x:Int}(h:i63 x=true):iz x:=by
 unfold i63 at h;unfold iz;exact rj h
theorem Wkn {H:Hw}{t:Nat}{p:Ph}(h:qm H t p=true):ve H t p:=by
 cases p with
 | take k=>
  simp only[qm,zF,zU]at h;refine⟨h.1,λy l u=>?_⟩;have e:=h.2;rw[u]at e;exact yU e
 | cN k w=>
  simp only[qm,zF,zU,mQ]at h;refine⟨h.1,λj d=>?_⟩;rw[j,d]at h;simp at h
 | cP k w=>trivial
 | grow k w=>trivial
 | fill=>
  simp only[qm]at h;split at h
  ·rename_i k x xs r hh;simp only[zF,zU]at h;exact⟨k,x,xs,r,hh,h.1,yU h.2.1,h.2.2⟩
  ·cases h
 | eN m=>
  simp only[qm,zU]at h;exact h
 | find x=>
  simp only[qm,zF,zU]at h;exact⟨yU h.1,λi=>by rw[i]at h;simp at h,λb _=>h.2.2⟩
 | put k x=>
  simp only[qm,zF,zU]at h;exact⟨h.1,λd=>by rw[d]at h;simp at h⟩
 | back=>
  simp only[qm]at h;split at h
  ·rename_i k xs r hh;simp only[zF,zU,kK]at h;exact⟨k,xs,r,hh,λx g=>⟨yU (h.1 x g).1,(h.1 x g).2⟩,h.2⟩
  ·cases h
 | dG s a=>
  simp only[qm,zF,zU,kK]at h;exact⟨h.1,h.2.1,h.2.2⟩
 | drain=>trivial
def pO:Nat->Hw->Nat->Ph->Option (Hw×Int×Int)
 | 0,_,_,_=>none
 | n+1,H,t,p=>if qm H t p&&decide ((H.kr t).bP.length<=900)then(match (Wv H t p).2.1 with
  | none=>some (Q6 H t p,(Wv H t p).2.2.1,(Wv H t p).2.2.2)
  | some p'=>pO n (Q6 H t p) t p')else none
theorem JS:∀{n:Nat} {H:Hw} {t:Nat} {p:Ph} {r:Hw×Int×Int},pO n H t p=some r->∃m,jP m H t p r.1 r.2.1 r.2.2
 | 0,_,_,_,_,h=>by simp[pO]at h
 | n+1,H,t,p,r,h=>by
  rw[pO]at h;split at h
  ·rename_i hc;simp only[zF,zU]at hc;have hok:uq H t p:=⟨Wkn hc.1,λg b=>by rw[←sk b];exact hc.2⟩;split at h
   ·rename_i hn;cases h;exact⟨1,.done hok hn⟩
   ·rename_i p' hs;obtain⟨m,a⟩:=JS h;exact⟨m+1,.next hok hs a⟩
  ·cases h
def yB (H:Hw)(thread kind size align addr:Int):Option (Hw×Int×Int):=match Va H thread kind size align addr with
 | .inl e=>if e=0 then none else some (H,0,e)
 | .inr (t,p)=>pO 40 (eO H t (some p)) t p
theorem LK {H:Hw}{thread kind size align addr:Int}{r:Hw×Int×Int}(h:yB H thread kind size align addr=some r):VP H thread kind size align addr r.1 r.2.1 r.2.2:=by
 unfold yB at h;split at h
 ·rename_i e he;split at h
  ·cases h
  ·rename_i hne;cases h;exact .inl ⟨he,hne,rfl,rfl⟩
 ·rename_i t p he;obtain⟨m,a⟩:=JS h;exact .inr ⟨t,p,m,he,a⟩
def AZ:List cD:=(sH 8).map Qx
def w0:Hw:=Uy AZ ⟨64,1,1,1024,2⟩
def oe (H:Hw)(kind size addr:Int):Hw×Int×Int:=(yB H 0 kind size (if kind=0 then 8 else 0) addr).getD (H,0,99)
def w1:Hw×Int×Int:=oe w0 0 24 0
def w2:Hw×Int×Int:=oe w1.1 0 300 0
def vv:Hw:={w2.1 with sp:=Vw w2.1.sp w2.2.1 4096 3}
def w3:Hw×Int×Int:=oe vv 1 0 4096
def w4:Hw×Int×Int:=oe w3.1 0 16 0
def ux:ByteArray:=ByteArray.mk #[97,98,99]
def w5:Hw:={w4.1 with sp:=nt w4.1.sp w4.2.1 ux 1}
theorem Ro {H:Hw}{kind size addr:Int}(h:(oe H kind size addr).2.2≠99):VP H 0 kind size (if kind=0 then 8 else 0) addr (oe H kind size addr).1 (oe H kind size addr).2.1 (oe H kind size addr).2.2:=by
 unfold oe at *;cases hw:yB H 0 kind size (if kind=0 then 8 else 0) addr with
 | none=>rw[hw]at h;exact absurd rfl h
 | some r=>exact LK hw
theorem Mf:w1.2=(4096,0):=by decide +kernel
theorem oD:QL w1.1 4096=some 24/\QO w1.1 0=0/\UT w1.1.tb 20 8=(24,0):=by decide +kernel
theorem CM:w2.2.2=0:=by decide +kernel
theorem yD:w2.2.1=5120/\QL w2.1 5120=some 320/\UT w1.1.tb 300 8=(320,0):=by decide +kernel
theorem Ei:w4.2=(4352,0):=by decide +kernel
theorem xo:KT w5.sp 4352=3/\KT w5.sp 4360=6513249/\(p9 w5 4352).toList=ux.toList/\py w5 4352=0/\QL w5 4352=some 16:=by decide +kernel
theorem AY:QO w0 0=0/\UT w0.tb 24 8=(24,0)/\QO w3.1 0=0:=by decide +kernel
theorem On:QM (AZ.map kE)=true:=by decide +kernel
theorem DI:im w0:=⟨by decide,by decide +kernel,On⟩
theorem rq {H:Hw}{kind size addr al a e:Int}{N:Hw×Int×Int}(hN:N=oe H kind size addr)(h:N.2=(a,e))(hne:e≠99)(hal:al=if kind=0 then 8 else 0):VP H 0 kind size al addr N.1 a e:=by
 have b:=Ro (H:=H) (kind:=kind) (size:=size) (addr:=addr) (by rw[←hN,h];exact hne);rw[←hN,h,←hal]at b;exact b
theorem CV:VP w0 0 0 24 8 0 w1.1 4096 0:=rq rfl Mf aB rfl
theorem Be:VP w1.1 0 0 300 8 0 w2.1 5120 0:=rq rfl (Prod.ext yD.1 CM) aB rfl
theorem AS:w3.2=(0,0):=by decide +kernel
theorem A8:VP vv 0 1 0 0 4096 w3.1 0 0:=rq rfl AS aB rfl
theorem Bb:VP w3.1 0 0 16 8 0 w4.1 4352 0:=rq rfl Ei aB rfl
theorem P3:vv = {w2.1 with sp:=Vw w2.1.sp 5120 4096 ((min (320:Int) 24).toNat/8)}:=by
 unfold vv;rw[yD.1];rfl
theorem wR:w5 = {w4.1 with sp:=nt w4.1.sp 4352 ux ((ux.size+7)/8)}:=by
 unfold w5;rw[Ei];rfl
theorem Dt:QL w0 0=none:=by decide +kernel
theorem Bn:Uy ((sH 8).map Qx) ⟨(64:Int).toNat,(1:Int).toNat,(1:Int).toNat,(1024:Int).toNat,(2:Int).toNat⟩=w0:=rfl
end Go.Ar
namespace Go.Ar
open Go Go.Vc Go.Proofs
variable {U u u':Hp}{F:Rg}{L:dS}{H H':Hw}{N:Nat}
attribute [local irreducible] w0 w1 w2 vv w3 w4 w5 oe AZ
theorem wc (h:im H)(sp:Sp):im {H with sp:=sp}:=⟨h.1,h.2.1,h.2.2⟩
theorem HH.norm (h:HH u (λb=>N<=b) L H)(hN:N<=u.size){L':dS}(h':HH u' (Grow (λb=>N<=b) u) L' H'):HH u' (λb=>N<=b) L' H':=
 h'.mono (λb _ a=>by
  have a:N<=b\/u.size<=b:=a;show N<=b;omega) h.o h.o2
theorem NL (g:Gl U)(gd:Gd U){R:Option Addr->Hp->Prop}(hR:∀σ' L N,aG U σ'->U.size<=N->N<=σ'.size->HH σ' (λb=>N<=b) L w0->R (some ⟨L.p,0,none⟩) σ'):XG.c U R:=by
 refine XG.o ?_;unfold XG.v;refine Ww.o ?_;unfold Ww.v;refine nw (cs:=[.int .i64 8,.int .i64 64,.int .i64 1,.int .i64 1,.int .i64 1024,.int .i64 2]) λv y e m=>m.rI rfl ?_;refine I6 8 aB aB λs r e1 w=>?_;have a:=e1.bX m id;have d:=e.trans e1;refine a.gA rfl (a.gA rfl (a.gA rfl (a.gA rfl (a.gA rfl ?_))));refine A5 w (g.aF d) (gd.aF d) 64 1 1 1024 2 (λj=>?_) (λ_ u=>?_) λ_ _ x L e2 i=>?_
 ·have:=Es 8 aB aB;rw[show((8:Nat):Int)=8 from rfl]at this;rw[this]at j;cases j
 ·exact absurd u aB
 ·rw[Bn]at i;exact bZ rfl (hR x L r.size (d.trans e2) d.1 e2.1 i)
set_option maxRecDepth 8000 in
theorem GR (g:Gl U)(gc:Gc U){R:aO}(hR:∀σ',aG U σ'->R true σ'):W8.c U R:=by
 refine W8.o ?_;unfold W8.v;refine NL g gc.gd λv L N e hsN K Q=>bZ rfl ?_;have A:=DI;refine ym Q A 24 8 λv1 e1=>?_;have F:=Q.aF e1;have S:N<=v1.size:=zP K e1.1;rw[AY.2.1];have j:=CV;refine Cx sj F ((gc.aF e).aF e1) A (jT.first AY.1 rfl aB aB j) (λb a=>?_) λv2 ts2 e2 x=>?_
 ·rw[Dt]at a;cases a
 have G:=F.norm S x;have g2:=((gc.aF e).aF e1).bV e2 F.o2;have W:N<=v2.size:=zP S e2.1;have P:=A.bV (Up j);have i:∀b,QL w1.1 4096=some b->0<=b/\b<=1000000000:=λb a=>by
  rw[oD.1]at a;cases a;decide
 refine Cx sj G g2 P (jT.same (u:=24) oD.2.1 aB aB aB oD.1 (by rw[oD.2.2];decide)) i λv3 ts3 J E=>?_;have z:=G.norm W E;have X:=g2.bV J G.o2;have n3:N<=v3.size:=zP W J.1;have w:=Be;have d:=A8;rw[P3]at d;refine Cx sj z X P (jT.dT (u:=24) (u2:=320) oD.2.1 aB aB aB oD.1 (by rw[yD.2.2];decide) w yD.2.1 aB aB aB d) i λv4 ts4 y C=>?_;have Y:=z.norm n3 C;have g4:=X.bV y z.o2;have n4:N<=v4.size:=zP n3 y.1;have c2:=P.bV (Up w);have c3:im w3.1:=im.bV (H:={w2.1 with sp:=Vw w2.1.sp 5120 4096 ((min (320:Int) 24).toNat/8)}) (wc c2 _) (Up d);have p:VP w3.1 0 0 ((((ux.size+7)/8+1)*8:Nat):Int) 8 0 w4.1 4352 0:=Bb;refine Η sj Y g4 c3 (s:=ux) (nX.ok AY.2.2 aB p aB aB) λv5 ts5 e5 m=>?_;rw[←wR]at m;have B:=Y.norm n4 m;have n5:N<=v5.size:=zP n4 e5.1;have c5:im w5:=by rw[wR];exact wc (H:=w4.1) (im.bV (H:=w3.1) c3 (Up p)) _
 have M:aG U v5:=by
  have q1:=e.trans e1;have q2:=Ext.eY q1 e2 λb a=>.inr (by show U.size<=b;have:N<=b:=a;omega);have q3:=Ext.eY q2 J λb a=>.inr (by show U.size<=b;have:N<=b:=a;omega);have q4:=Ext.eY q3 y λb a=>.inr (by show U.size<=b;have:N<=b:=a;omega);exact Ext.eY q4 e5 λb a=>.inr (by show U.size<=b;have:N<=b:=a;omega)
 refine KN B 4352 aB λv6 D=>?_;rw[xo.1];refine ar aB aB (KN (B.aF D) 4360 aB λv7 V=>?_);rw[xo.2.1];refine Woa ((B.aF D).aF V) c5 4352 aB (λu Z=>?_) (λ_=>by decide) λv8 e8=>?_
 ·rw[xo.2.2.2.2]at Z;cases Z;decide
 rw[xo.2.2.2.1];have r:=hR v8 (((M.trans D).trans V).trans e8);refine bW.intro (cJ rfl (bW.intro (cJ rfl (bW.intro (cJ rfl (bW.intro (cJ rfl (bW.intro (cJ rfl (bW.intro (cJ rfl (bW.intro (cJ rfl (bW.intro (cJ rfl (bW.intro (cJ rfl (bW.intro (cJ rfl (bW.intro (cJ rfl (bW.intro (cJ ?_ (bW.intro (cJ ?_ r)))))))))))))))))))))))))
 ·rfl
 ·rw[xo.2.2.1];decide +kernel
end Go.Ar
namespace Go.Ar
open Go Go.Vc Go.Proofs
open Go.Vc (cB dO dK)
variable {U w w':Hp}{F P Q X:Rg}{L:dS}{H H':Hw}{held:List Pc}{s0:Sp}{t n:Nat}{g:Th}{σ0:Hp}{addrs:Sl}{ad:List Int}{l:Sl}{ds:List fP}
theorem fJ.push (p:fJ σ0 U L H held s0 P Q addrs ad){s':Sl}{x:Int}(e:Ext Q U w)(hr:bR s' 1 (Wu (ad++[x])) w (λb=>Q b\/U.size<=b/\b<w.size))(hl:(ad++[x]).length<=60):fJ σ0 w L H held s0 P (λb=>Q b\/U.size<=b/\b<w.size) s' (ad++[x]):=by
 have i:=e.1;have g:=p.e.1;refine⟨Ext.eY p.e e λb a=>.inr (p.pQ b a).1,p.h.bV e (λb a hp d=>(p.pQ b d).2.2 hp) (λb a=>p.g0.1 b (p.pQ b a).1) (λa=>p.g0.2 (p.pQ _ a).1),p.hi,p.cf,p.pg,λb a=>⟨(p.pP b a).1,by have:=(p.pP b a).2;omega⟩,λb a=>?_,hr,hl,p.g0⟩;rcases a with a|a
 ·exact⟨(p.pQ b a).1,by have:=(p.pQ b a).2.1;omega,(p.pQ b a).2.2⟩
 ·exact⟨O,a.2,λhp=>by have:=(p.pP b hp).2;omega⟩
theorem Sd (hd:jA σ0 l ds)(e:aG σ0 U)(most:Int){R:aO}(hR:∀r,(r=false->(ds.length:Int)<=most)->R r U):XD.c l most U R:=by
 refine XD.o ?_;unfold XD.v;have y:=hd.len;have d:=hd.vq;refine T7 (cL (λp=>hR true λh=>by cases h) λp=>?_);refine Vu (a:=bN) (bb:=bN) (λ(m z:Int) w=>w=U/\∃i:Nat,z=i/\i<=ds.length) (λ_ z _=>ds.length-z.toNat) ⟨rfl,0,rfl,O⟩ ?_;rintro(m:Int) (z:Int) w ⟨rfl,i,rfl,hi⟩;refine cL (λs=>?_) λj=>hR false λ_=>by omega
 have x:ds[i]?=some (ds[i]' O):=cQ _;refine hd.rd e x λb o u=>?_;refine vW (u _ e 7 _ rfl) (pc (cL (λg=>hR true λh=>by cases h) λg=>ar O O ⟨⟨rfl,i+1,O,O⟩,O⟩))
set_option maxRecDepth 8000 in
theorem Pr (gl:Gl U)(gc:Gc U)(b b1 b2 b3 b4 b5:Int)(hd:jA U l ds)(most:Int)(hmost:most<=60){R:Option Addr->Sl->Hp->Prop}(h0:∀σ',aG U σ'->R none ⟨none,0,0⟩ σ')
 (h1:∀σ' L H held s0 P Q addrs ad,fJ U σ' L H held s0 P Q addrs ad->R (some ⟨L.p,0,none⟩) addrs σ'):X5.c b b1 b2 b3 b4 b5 l most U R:=by
 refine X5.o ?_;unfold X5.v;have hl:=hd.len;have aa:=hd.vq;refine nw (cs:=[.int .i64 b,.int .i64 b1,.int .i64 b2,.int .i64 b3,.int .i64 b4,.int .i64 b5]) λv hz e j=>j.rI rfl (j.rI rfl (j.rI rfl (j.rI rfl (j.rI rfl (j.rI rfl (WP.o ?_))))));unfold WP.v;refine nw (cs:=[.int .i64 b,.int .i64 b1,.int .i64 b2,.int .i64 b3,.int .i64 b4,.int .i64 b5]) λv1 hz1 e1 K=>K.gA rfl ?_;have d:=e.trans e1;have g:=e1.bX j id;refine Ko (λr w=>w=v1/\(r=false->b1<=128/\(ds.length:Int)<=most)) (λr w ⟨hw,S⟩=>?_) λJ W=>cL (λh=>W _ _ ⟨rfl,λh=>by cases h⟩) λh=>Sd hd d most λr S=>W _ _ ⟨rfl,λh'=>⟨O,S h'⟩⟩;subst hw;refine cU (λht=>h0 w d) λhf=>?_;obtain⟨hpg,hlm⟩:=S hf;refine g.rI rfl (g.rI rfl (g.rI rfl (g.rI rfl (g.rI rfl (g.rI rfl ?_)))));refine OH (gl.aF d) (gc.aF d).gd b b1 b2 b3 b4 b5 (λy e2=>cJ rfl (h0 y (d.trans e2))) λy L0 N H0 e2 hsN hNv hh G=>bZ rfl ?_;have D:=d.trans e2;have p0:fJ U y L0 H0 [] (VT H0.cf.bK) (Cut (λb=>N<=b) y) (λ_=>False) ⟨none,0,0⟩ []:=
  ⟨D,hh.cut,G.hi,G.cf,by have:=G.pg;omega,λb j=>⟨by have:=d.1;have:N<=b:=j.1;omega,j.2⟩,λb j=>j.elim,⟨rfl,.inl ⟨rfl,rfl⟩⟩,by simp,J0 gl gc.gd⟩
 refine Vu (a:=.s) (bb:=bN) (λ(addrs:Sl) (z:Int) w=>∃(i:Nat) (L:dS) (H:Hw) (held:List Pc) (s0:Sp) (P Q:Rg) (ad:List Int),z=i/\i<=ds.length/\ad.length<=i/\L.p=L0.p/\fJ U w L H held s0 P Q addrs ad) (λ_ z _=>ds.length-z.toNat) ⟨0,L0,H0,_,_,_,_,[],rfl,O,by simp,rfl,p0⟩ ?_;rintro(addrs:Sl) (z:Int) w ⟨i,L,H,held,s0,P,Q,ad,rfl,hi,hal,hLp,p⟩;refine cL (λhlt=>?_) λhge=>by rw[←hLp];exact h1 w L H held s0 P Q addrs ad p
 have M:ds[i]?=some (ds[i]' O):=cQ _;have A:=hd.i _ (zE M);refine hd.rd p.e M λba oa u=>hO (u _ p.e 0 _ rfl) (cL (λB=>?_) λB=>?_)
 ·exact cC (m:=i+1) O O ⟨⟨i+1,L,H,held,s0,P,Q,ad,rfl,O,O,hLp,p⟩,O⟩
 ·refine hd.rd p.e M λba oa u=>hO (u _ p.e 0 _ rfl) (hO (u _ p.e 1 _ rfl) (hO (u _ p.e 2 _ rfl) (hO (u _ p.e 3 _ rfl) (hO (u _ p.e 4 _ rfl) (hO (u _ p.e 5 _ rfl) (hO (u _ p.e 6 _ rfl) (vW (u _ p.e 7 _ rfl) ?_)))))));rw[←hLp];refine Ν p.h (gc.aF p.e) p.hi p.cf (by have:=p.pg;omega) (bR.fM p.row) _ A λa er nn w3 x H3 e3 h3 Y=>?_;obtain⟨E,s3,V⟩:=Y.hi;have C:=p.step e3 h3 V Y.kp;refine cL (λZ=>?_) λX=>?_
  ·refine O7 C.row O nn λs' w4 e4 F=>?_;have p4:=C.push e4 F aE;exact cC (m:=i+1) O O ⟨⟨i+1,{L with ts:=x},_,_,_,_,_,ad++[nn],rfl,O,by simp;omega,rfl,p4⟩,O⟩
  ·exact cC (m:=i+1) O O ⟨⟨i+1,{L with ts:=x},_,_,_,_,_,ad,rfl,O,O,rfl,C⟩,O⟩
end Go.Ar
namespace Go.Ar
open Go Go.Vc Go.Proofs
variable {U u w w':Hp}{F B P Q:Rg}{L:dS}{H H':Hw}{t n:Nat}{g:Th}
end Go.Ar
namespace Go.Ar
open Go Go.Vc Go.Proofs
open Go.Vc (cB dO dK)
variable {U w w':Hp}{F P Q X S:Rg}{L:dS}{H H':Hw}{held:List Pc}{s0 sp:Sp}{t n:Nat}{g:Th}{σ0:Hp}{addrs:Sl}{ad:List Int}{l:Sl}{ds:List fP}
def pU (sp:Sp)(a:Int)(f:Nat->Int)(n:Nat):Sp:=(List.range n).foldl (λs (i:Nat)=>KZ s (a+(i:Int)*8) (f i)) sp
theorem Ln (sp:Sp)(a:Int)(f:Nat->Int)(n:Nat):pU sp a f (n+1)=KZ (pU sp a f n) (a+(n:Int)*8) (f n):=by
 unfold pU;rw[kI,lb];rfl
theorem uC {sp:Sp}{x:Nat}:fG sp ((8*x:Nat):Int)=0↔gf sp.st (x/32)≠0:=by
 unfold fG;rw[zA O,show((8*x:Nat):Int).toNat/256=x/32 by omega];unfold gf;split
 ·rename_i h;rw[h];simp
 ·rename_i h;exact⟨λ_=>h,λ_=>rfl⟩
theorem IA (sp:Sp)(a:Nat)(f:Nat->Int):∀n:Nat,(pU sp ((8*a:Nat):Int) f n).st.length=sp.st.length/\(∀p,gf (pU sp ((8*a:Nat):Int) f n).st p=0↔gf sp.st p=0) ∧
 ∀w,(pU sp ((8*a:Nat):Int) f n).wd w=if a<=w/\w<a+n/\gf sp.st (w/32)≠0 then f (w-a)else sp.wd w
 | 0=>⟨rfl,λ_=>Iff.rfl,λw=>by rw[zA O];rfl⟩
 | n+1=>by
  obtain⟨i1,i2,i3⟩:=IA sp a f n;rw[Ln,show((8*a:Nat):Int)+(n:Int)*8=((8*(a+n):Nat):Int) by omega];obtain⟨g,i,e⟩:=Bd (pU sp ((8*a:Nat):Int) f n) ((8*(a+n):Nat):Int) (f n);refine⟨g.trans i1,λp=>(i p).trans (i2 p),λw=>?_⟩;rw[e,i3,show((8*(a+n):Nat):Int).toNat/8=a+n by omega];have b:=uC (sp:=pU sp ((8*a:Nat):Int) f n) (x:=a+n);have d:=i2 ((a+n)/32);by_cases hw:w=a+n
  ·subst hw;by_cases hm:gf sp.st ((a+n)/32)=0
   ·rw[zA λh=>b.1 h.1 (d.2 hm),zA O,zA λh=>h.2.2 hm]
   ·rw[zB ⟨b.2 λh=>hm (d.1 h),rfl⟩,zB ⟨O,O,hm⟩]
    congr 1;omega
  ·rw[zA λh=>hw h.2];by_cases hc:a<=w/\w<a+n/\gf sp.st (w/32)≠0
   ·rw[zB hc,zB ⟨hc.1,O,hc.2.2⟩]
   ·rw[zA hc,zA λh=>hc ⟨h.1,O,h.2.2⟩]
theorem HI.wr (h:HI H held s0)(a:Int)(f:Nat->Int)(n:Nat):∃s0',HI {H with sp:=pU H.sp a f n} held s0':=by
 induction n with
 | zero=>exact⟨s0,h⟩
 | succ n ih=>
  obtain⟨s0',b⟩:=ih;rw[Ln];exact⟨_,b.write (a+(n:Int)*8) (f n)⟩
theorem Bm (sp:Sp)(x:Nat):KT sp ((8*x:Nat):Int)=if gf sp.st (x/32)≠0 then sp.wd x else 0:=by
 unfold KT;by_cases h:gf sp.st (x/32)≠0
 ·rw[zB (uC.2 h),zB h];congr 1;omega
 ·rw[zA (λa=>h (uC.1 a)),zA h]
structure CT (H H':Hw):Prop where
 hi:∃held s0,HI H' held s0
 kp:QF H' H
theorem iG.hp (o:iG H H'):CT H H':=⟨o.hi,o.kp⟩
end Go.Ar
namespace Go.Ar
open Go Go.Vc Go.Proofs
variable {U u w w':Hp}{F B P Q:Rg}{L:dS}{H H':Hw}{t n k:Nat}{A:AR}{Y:Lay}
def UM (H:Hw)(x:Int):Option Bk:=if 0<=Ye H.bT x then(match H.bT[(Ye H.bT x).toNat]? with
 | some A=>(match Ux A x with
  | some (_,y)=>cB H.live (y:Int)
  | none=>none)
 | none=>none)else none
theorem Rh (h:HH U F L H)(x:Int)(hx:iz x)(hr:∀A∈H.bT,gY A){R:Int->Int->Int->Int->Int->Hp->Prop}
 (h1:∀b,UM H x=some b->∀σ',aG U σ'->R b.1 b.2.1 b.2.2.1 b.2.2.2 0 σ') (h0:UM H x=none->∀σ',aG U σ'->R 0 0 0 0 8 σ'):Zv.c (aW L.p) x U R:=by
 refine Zv.o ?_;unfold Zv.v;refine nw (cs:=[.int .i64 0,.int .i64 0,.int .i64 0,.int .i64 0]) λv hz e hb=>QP (h.aF e) (bZ rfl ?_);have s:∀{w:Hp} {a b c d y0 y1 y2 y3:Int} {K:Int->Int->Int->Int->Hp->Prop},aG U w->bY w U.size [.int .i64 y0,.int .i64 y1,.int .i64 y2,.int .i64 y3]->(∀m,aG U m->K a b c d m) →
  eP (Addr.add ⟨U.size,0,none⟩ 0) (.int .i64 a) w λv7=>eP (Addr.add ⟨U.size,0,none⟩ 1) (.int .i64 b) v7 λv8=>eP (Addr.add ⟨U.size,0,none⟩ 2) (.int .i64 c) v8 λv9=>eP (Addr.add ⟨U.size,0,none⟩ 3) (.int .i64 d) v9 λv10=>
  gO .i64 (Addr.add ⟨U.size,0,none⟩ 0) v10 λr0=>gO .i64 (Addr.add ⟨U.size,0,none⟩ 1) v10 λr1=>gO .i64 (Addr.add ⟨U.size,0,none⟩ 2) v10 λr2=>gO .i64 (Addr.add ⟨U.size,0,none⟩ 3) v10 λr3=>K r0 r1 r2 r3 v10:=λew D hK=>
  D.s1 aA λv1 o1 b1=>b1.s1 aA λv2 o2 b2=>b2.s1 aA λv3 o3 b3=>b3.s1 aA λv4 o4 b4=>b4.rI rfl (b4.rI rfl (b4.rI rfl (b4.rI rfl (hK v4 ((((ew.only o1 (.inr (zC _))).only o2 (.inr (zC _))).only o3 (.inr (zC _))).only o4 (.inr (zC _)))))))
 refine tU (λw=>UM H x=none/\aG U w/\bY w U.size [.int .i64 0,.int .i64 0,.int .i64 0,.int .i64 0]) (λw ⟨hn,ew,D⟩=>s (K:=λa b c d m=>R a b c d 8 m) ew D λm e'=>h0 hn m e') λJ hJ=>?_;refine Gm (h.aF e) x hx λv11 N=>?_;have e1:=e.trans N;have C:=N.bX hb id;refine cL (λZ=>?_) λhlt=>hJ v11 ⟨by unfold UM;rw[zA O],e1,C⟩;have aa:=Gq Z;obtain⟨A,hA⟩:∃A,H.bT[(Ye H.bT x).toNat]?=some A:=⟨_,cQ aa.1⟩;have B:=h.aF e1;obtain⟨Y,hY,_,hAY⟩:=B.ar hA;have g:UM H x=(match Ux A x with
  | some (_,y)=>cB H.live (y:Int)
  | none=>none):=by unfold UM;rw[zB Z,hA]
 rw[aa.2];refine bO (B.hd.rS rfl (B.rA hY (FD hAY (hr A (zE hA)) x hx (λz k y i hf=>?_) λz i hf=>?_)))
 ·rw[hf]at g;simp only at g;have e2:=e1.trans i;have Q:=i.bX C id;have P:=h.aF e2;refine cJ rfl (bO (P.hd.rM rfl ⟨_,P.jd,?_⟩));refine nw (cs:=[.int .i64 0,.int .i64 0,.int .i64 0,.int .i64 0]) λv13 hz13 W M=>?_;have hlt2:=Q.lt;have r:U.size≠z.size:=by omega
  refine M.s1 aA λv14 S b14=>b14.s1 aA λv15 G b15=>b15.s1 aA λv16 V b16=>b16.s1 aA λv17 E j=>?_;have u:=Wm E (Wm V (Wm G (Wm S (W.bX Q id) r) r) r) r;have ir:=e2.1;have X:aG U v17:=((((e2.trans W).only S (.inr ir)).only G (.inr ir)).only V (.inr ir)).only E (.inr ir);cases hm:cB H.live (y:Int)with
  | none=>
   rw[hm]at g;exact bZ rfl (hJ v17 ⟨g,X,u⟩)
  | some b=>
   rw[hm]at g;have hgb:(cB H.live (y:Int)).getD ((0,0,0,0):Bk)=b:=by rw[hm];rfl
   rw[hgb]at j;refine cJ rfl (j.rI rfl (j.rI rfl (j.rI rfl (j.rI rfl ?_))));exact s (K:=λa b c d m=>R a b c d 0 m) X u λm e'=>h1 b g m e'
 ·rw[hf]at g;exact bZ rfl (hJ z ⟨g,e1.trans i,i.bX C id⟩)
def QC (H:Hw)(x n:Int):Bool:=match UM H x with
 | some b=>(x.tmod 8==0)&&(decide (n<=b.2.1/8)&&decide (x+n*8<=b.1+b.2.1))
 | none=>false
theorem JW (h:HH U F L H)(x n:Int)(hx:iz x)(hx0 : -9223372036854775808<=x)(hn:0<=n)(hr:∀A∈H.bT,gY A)(hb:∀b,UM H x=some b->0<=b.1/\b.1<=500000000000/\0<=b.2.1/\b.2.1<=1000000000/\x<=1000000000000){R:aO}
 (hR:∀σ',aG U σ'->R (QC H x n) σ'):ZK.c (aW L.p) x n U R:=by
 refine ZK.o ?_;unfold ZK.v;have j:∀(a b c d e:Int) (v:Hp),aG U v->((e=0/\(0<=a/\a<=500000000000/\0<=b/\b<=1000000000/\x<=1000000000000)/\QC H x n=((x.tmod 8==0)&&(decide (n<=b/8)&&decide (x+n*8<=a+b))))\/e≠0/\QC H x n=false) →
  Nw (.cells #[.int .i64 0,.int .i64 0,.int .i64 0,.int .i64 0] 54 (0,0)) v λs Z=>
  eP (s.add 0) (.int .i64 a) Z λv2=>eP (s.add 1) (.int .i64 b) v2 λv3=>eP (s.add 2) (.int .i64 c) v3 λv4=>eP (s.add 3) (.int .i64 d) v4 λv5=>
  bW (λr V=>bW (λr1 D=>bW (λr2 v8=>R r2 v8) λJ2=>
   If r1 (Ar .i64 (n*8) λK=>Ar .i64 (x+K) λP=>gO .i64 (s.add 0) D λQ=>gO .i64 (s.add 1) D λG=>Ar .i64 (Q+G) λY=>J2 (decide (P<=Y)) D) (J2 false D)) λJ1=>
   If r (gO .i64 (s.add 1) V λW=>ZA.c W V λS v9=>J1 (decide (n<=S)) v9) (J1 false V)) λJ=>
  If (e==0) (Nz 8<|J ((x.tmod 8)==0) v5) (J false v5):=by
  intro a b c d e v ev hc;refine nw (cs:=[.int .i64 0,.int .i64 0,.int .i64 0,.int .i64 0]) λZ hz1 e1 N=>?_;refine N.s1 aA λv2 o2 b2=>b2.s1 aA λv3 o3 b3=>b3.s1 aA λv4 o4 b4=>b4.s1 aA λv5 o5 X=>?_;have E:=ev.1;have e5:aG U v5:=((((ev.trans e1).only o2 (.inr E)).only o3 (.inr E)).only o4 (.inr E)).only o5 (.inr E);have i:=hR v5 e5;rcases hc with⟨rfl,hbd,hin⟩|⟨hne,hin⟩
  ·rw[hin]at i;refine Ko (λr w=>w=v5/\r=(x.tmod 8==0)) (λr w ⟨B,y⟩=>?_) λJ m=>cJ rfl (nz aB (m _ _ ⟨rfl,rfl⟩));subst B;refine Ko (λr w2=>w2=w/\r=((x.tmod 8==0)&&decide (n<=b/8))) (λr w2 ⟨B,z⟩=>?_) λJ m=>?_
   ·rw[B];refine Ko (λr w2=>w2=w/\r=((x.tmod 8==0)&&(decide (n<=b/8)&&decide (x+n*8<=a+b)))) (λr w2 ⟨B,M⟩=>by rw[B,M];exact i) λJ m=>?_;refine cU (λu=>?_) λC=>m _ _ ⟨rfl,?_⟩
    ·rw[z]at u;simp only[zF,zU]at u;refine ar O O (ar O O (X.rI rfl (X.rI rfl (ar O O (m _ _ ⟨rfl,?_⟩)))));rw[u.1,zI u.2,sF,sF]
    ·rw[z]at C;rw[←Bool.and_assoc,C,rO]
   ·refine cU (λu=>X.rI rfl (C0 b hbd.2.2.1 O (m _ _ ⟨rfl,?_⟩))) λC=>m _ _ ⟨rfl,?_⟩
    ·rw[←y,u,sF]
    ·rw[←y,C,rO]
  ·rw[hin]at i;exact bW.intro (bZ (by simpa using hne) (bW.intro (bZ rfl (bW.intro (bZ rfl i)))))
 refine Rh h x hx hr (λb g v e=>j _ _ _ _ _ v e (.inl ⟨rfl,hb b g,?_⟩)) λg v e=>j _ _ _ _ _ v e (.inr ⟨by decide,?_⟩)
 ·unfold QC;rw[g]
 ·unfold QC;rw[g]
end Go.Ar
namespace Go.Proofs
open Go.Shelf
def Tryz.iw:Go.Shelf.Ren:=⟨fun|7=>32|10=>62|n=>n,fun|23=>65|26=>3|3=>54|28=>63|0=>0|27=>62|33=>116|4=>4|n=>n,fun|n=>n⟩
theorem Tryz.lR:Go.Proofs.SlLaysZI.n7 Tryz.prog Tryz.iw:={
 mixed:=by kernel_rfl
 f7:=⟨Tryz.f32.name,by decide,Tryz.func32.trans (congrArg some (by kernel_rfl))⟩
 f10:=⟨Tryz.f62.name,by decide,Tryz.func62.trans (congrArg some (by kernel_rfl))⟩
 t0:=Tryz.underlying0
 a0:=Tryz.isAgg0
 z0:=Tryz.sizeOf0
 v0:=Tryz.zeroValue0
 t4:=Tryz.underlying4
 a4:=Tryz.isAgg4
 z4:=Tryz.sizeOf4
 v4:=Tryz.zeroValue4
 t23:=Tryz.underlying65
 a23:=Tryz.isAgg65
 z23:=Tryz.sizeOf65
 v23:=Tryz.zeroValue65
 t26:=Tryz.underlying3
 a26:=Tryz.isAgg3
 z26:=Tryz.sizeOf3
 v26:=Tryz.zeroValue3
 t27:=Tryz.underlying62
 a27:=Tryz.isAgg62
 z27:=Tryz.sizeOf62
 v27:=Tryz.zeroValue62
 t28:=Tryz.underlying63
 a28:=Tryz.isAgg63
 z28:=Tryz.sizeOf63
 v28:=Tryz.zeroValue63
 t33:=Tryz.underlying116
 a33:=Tryz.isAgg116
 z33:=Tryz.sizeOf116
 v33:=Tryz.zeroValue116}
end Go.Proofs
namespace Go.Ar
open Go Go.Vc Go.Proofs Go.RowKit Go.Maps Go.Sort Go.Shelf
open Go.Vc (cB dO dK)
open Go.Bu (nu Db G9 CE HP IJ)
variable {U w w':Hp}{F P Q X S:Rg}{L:dS}{H H':Hw}{held:List Pc}{s0 sp:Sp}{t n:Nat}{g:Th}{σ0:Hp}
def GL:Nat:=Tryz.iw.f 10
def xr:Nat:=Tryz.iw.t 23
theorem Jt (m:Option Nat){R:Fv->Hp->Prop}(hR:R ⟨GL,#[],#[.pointer (some ⟨U.size,0,none⟩)]⟩ (U.push (.cells #[.map m] xr (0,0)))) :
 ZS.c m U R:=by
 rintro w rfl;refine(callsIn_wide.1 (AnyZI.keys_in Tryz.lR Fence.wide 5 trivial rfl m w)).mono ?_;rintro e a ⟨rfl,rfl⟩;exact⟨⟨rfl,rfl,rfl,oT (by show _<(w.heap.push _).size;simp)⟩,[.func (.func GL) #[] #[.pointer (some ⟨w.heap.size,0,none⟩)]],rfl,⟨GL,#[],#[.pointer (some ⟨w.heap.size,0,none⟩)]⟩,rfl,hR⟩
theorem SF {w:World}{c m:Nat}{B:List (Int×Bk)}(hc:cell w.heap ⟨c,0,none⟩=some (.map (some m)))(hm:dD w.heap m .i64 (.ag 4) B)(hb:∀x∈B,Go.Bu.kG x.1)(hs:B.length<=1000000)(n:Nat)(hn:1<=n) :
 SeqGives Fence.wide n Tryz.prog GL #[.pointer (some ⟨c,0,none⟩)] encZ (λss=>ss.Perm (B.map (·.1))) B.length w:=by
 obtain⟨D,b,hp,ir⟩:=HP (P:=Tryz.prog) Tryz.lR.t26 hm hb hs;have a:c<w.heap.size:=by
  unfold cell at hc;split at hc
  ·rename_i h;exact(lY.1 h).1
  ·cases hc
 have:=AnyZI.keys_gives (ρ:=Tryz.iw) {Tryz.lR with} Fence.wide n trivial rfl hn c m B.length D w a hc b;intro l J W hW hJ hY h0;rw[ir]at this;refine(this l J W hW hJ hY h0).mono ?_;rintro e W' ⟨d,ss,g,i⟩;exact⟨d,ss,g.trans hp,i⟩
theorem DQ {c m:Nat}{B:List (Int×Bk)}(hc:cell U ⟨c,0,none⟩=some (.map (some m)))(hm:dD U m .i64 (.ag 4) B)(hb:∀x∈B,Go.Bu.kG x.1)(hs:B.length<=1000000){R:Sl->Hp->Prop}
 (hR:∀(s:Sl) (σ':Hp) (ss:List Int),aG U σ'->ss.Perm (B.map (·.1))->ss.Pairwise (· <= ·)->nu U.size σ' s (ss.map (Value.int .i64))->R s σ') :
 Ug.c ⟨GL,#[],#[.pointer (some ⟨c,0,none⟩)]⟩ U R:=by
 rintro w rfl;have i:=SF hc hm hb hs 2 O;have p:B.length<=maxLen:=by unfold maxLen;omega
 have u:=AnyZI.sorted_in Tryz.re Fence.wide 5 trivial trivial trivial trivial rfl O (IJ _) (Tryz.qi.f5.enters rfl) GL #[.pointer (some ⟨c,0,none⟩)] trivial (Tryz.lR.f10.enters rfl) _ _ p O _ i;refine(callsIn_wide.1 u).mono ?_;rintro e z ⟨v,ss,rfl,hp,d,r,g⟩;obtain⟨s,rfl,j⟩:=Db d;refine⟨CE g,[.slice s.a s.len s.cap],rfl,s,rfl,?_⟩;refine hR s _ (ss.mergeSort λx y=>decide (x<=y)) (G9 g) ((List.mergeSort_perm _ _).trans hp) ?_ j;have:=List.pairwise_mergeSort (le:=λx y:Int=>decide (x<=y)) (λa b c A C=>by simp at *;omega) (λa b=>by simp;omega) ss;exact this.imp (λh=>by simpa using h)
def my (b:Bk):List Value:=[.int .i64 b.1,.int .i64 b.2.1,.int .i64 b.2.2.1,.int .i64 b.2.2.2]
def iy (bs:List Bk):List Value:=bs.flatMap my
theorem Gp (bs:List Bk):(iy bs).length=bs.length*4:=by
 unfold iy
 induction bs with
 | nil=>rfl
 | cons b bs ih=>rw[mU,zR,ih];simp[my];omega
theorem Co:∀{bs:List Bk} {i:Nat} {b:Bk},bs[i]?=some b->∀{j:Nat} {v:Value},(my b)[j]?=some v->(iy bs)[4*i+j]?=some v
 | [],i,b,h,_,_,_=>by simp at h
 | a::bs,0,b,h,j,v,hv=>by
  simp only[uz,Option.some.injEq]at h;subst h;have hj:=(cV.1 hv).1;show(my a++iy bs)[4*0+j]?=_;rw[show 4*0+j=j by omega,zQ hj];exact hv
 | a::bs,i+1,b,h,j,v,hv=>by
  have d:=Co (bs:=bs) (i:=i) (b:=b) (by simpa using h) hv;show(my a++iy bs)[4*(i+1)+j]?=_;rw[zg (by simp[my];omega)];have:4*(i+1)+j-(my a).length=4*i+j:=by simp[my];omega
  rw[this];exact d
structure ln (live:List (Int×Bk)) (bs:List Bk):Prop where
 len:bs.length=live.length
 mem:∀b,b∈bs↔(b.1,b)∈live
 nq:bs.Pairwise λa b=>a.1<b.1
theorem HI.mB (h:HI H held s0):H.live.length<=1000000:=by
 have g:(H.live.map λe=>e.1.toNat).Nodup:=by
  have p:=zr.1 h.lk;refine zr.2 λi j m s d e=>?_;have b:i<H.live.length:=by simpa using m
  have a:j<H.live.length:=by simpa using s
  refine p i j (by simpa using b) (by simpa using a) d ?_;simp only[qU]at e ⊢;have y:=(h.eW (zb b)).2.1;have z:=(h.eW (zb a)).2.1;omega
 have:=yu 270000 _ g λx u=>by
  obtain⟨e,r,rfl⟩:=zD.1 u;have:=h.eW r;omega
 have w:(H.live.map λe=>e.1.toNat).length=H.live.length:=by simp
 omega
theorem cS.pF {B:Nat}{s:Sl}{xs:List Value}(h:nu B U s xs):cS s 1 xs U (λb=>B<=b):=by
 refine⟨by have:=h.1;omega,?_⟩;rcases h.2 with⟨h0,_⟩|⟨b,cs,hb,ha,hk,hc⟩
 ·exact .inl h0
 ·exact .inr ⟨b,0,cs,hb,ha,hk.q,λj a=>by rw[zG];exact hc j a⟩
set_option maxRecDepth 8000 in
theorem N7 (h:HH U F L H)(hi:HI H held s0){R:Sl->Hp->Prop}(hR:∀s σ' bs,aG U σ'->ln H.live bs->bR s 4 (iy bs) σ' (λb=>U.size<=b)->R s σ'):X9.c (aW L.p) U R:=by
 refine X9.o ?_;unfold X9.v;have A:∀x∈H.live,Go.Bu.kG x.1:=λx g=>by have:=hi.eW g;unfold Go.Bu.kG;omega
 have P:=hi.mB;refine QP h (bZ rfl (bO (h.hd.rM rfl (Jt _ ?_))));have e1:aG U (U.push (.cells #[.map (some L.lm)] xr (0,0))):=Ext.push _ _ _;have G:=h.aF e1;refine DQ (by unfold cell;simp) G.jd A P λs y ss e2 hp C hs=>?_;have J:=e1.trans e2;have B:=cS.pF hs;have Q:ss.Nodup:=hp.nodup_iff.2 hi.lk;have u:ss.length=H.live.length:=by rw[hp.length_eq];simp
 have hsl:s.len=ss.length:=by have:=B.1;simp at this;omega
 have D:∀x∈ss,∃b,cB H.live x=some b/\b.1=x:=λx g=>by
  obtain⟨e,he,rfl⟩:=zD.1 (hp.mem_iff.1 g);exact⟨e.2,Ka hi.lk he,(hi.lv e he).1⟩
 let f:Int->Bk:=λx=>(cB H.live x).getD (0,0,0,0)
 have r:∀x∈ss,(f x).1=x/\cB H.live x=some (f x):=λx g=>by
  obtain⟨b,d,V⟩:=D x g;have:f x=b:=by show(cB H.live x).getD _=b;rw[d];rfl
  rw[this];exact⟨V,d⟩
 have hz1:U.size<y.size:=by
  have G:=e2.1;have Z:(U.push (.cells #[.map (some L.lm)] xr (0,0))).size=U.size+1:=by simp
  omega
 refine Vu (a:=.s) (bb:=bN) (λ(out:Sl) (z:Int) w=>∃i:Nat,z=i/\i<=ss.length/\aG y w/\bR out 4 (iy ((ss.take i).map f)) w (λb=>y.size<=b)) (λ_ z _=>ss.length-z.toNat) ⟨0,rfl,O,Ext.refl _ _,⟨by simp[iy],.inl ⟨rfl,rfl⟩⟩⟩ ?_;rintro(out:Sl) (z:Int) w ⟨i,rfl,hil,ew,hr⟩;have X:=G.aF (e2.trans ew);refine cL (λE=>?_) λhge=>?_
 ·have g:ss[i]?=some (ss[i]' O):=cQ _;have hol:out.len=i:=by have:=hr.1;rw[Gp]at this;simp at this;omega
  refine(aH.aF (aH.cut B) ew).nK g (bO (X.hd.rM rfl ⟨H.live,X.jd,?_⟩));refine hr.push (F:=λb=>y.size<=b) (vs:=my (f (ss[i]' O))) (λb d=>by have:=ew.1;omega) rfl rfl (by simp[my,dJ]) O O λs' w' Y S K=>?_;have e3:aG y w':=Ext.fresh ew S λb d=>d;refine cC (m:=i+1) O O ⟨⟨i+1,rfl,O,e3,?_⟩,O⟩;have:iy ((ss.take (i+1)).map f)=iy ((ss.take i).map f)++my (f (ss[i]' O)):=by
   unfold iy;rw[zj,g,lr,yL];simp only[xm,zX,sx,mU,List.flatMap_nil,j7]
  rw[this];exact K
 ·have M:i=ss.length:=by omega
  subst M;rw[zy]at hr;refine hR out w (ss.map f) (J.trans ew) ⟨by simp[u],λb=>?_,?_⟩ (aI.mono hr λb _ d=>by
   show U.size<=b;have d:y.size<=b:=d;omega)
  ·constructor
   ·intro d;obtain⟨x,g,rfl⟩:=zD.1 d;obtain⟨q1,q2⟩:=r x g;rw[q1];exact Hg q2
   ·intro d;have g:b.1∈ss:=hp.mem_iff.2 (zD.2 ⟨_,d,rfl⟩);refine zD.2 ⟨b.1,g,?_⟩;have:=(r _ g).2;rw[Ka hi.lk d]at this;exact(Option.some.inj this).symm
  ·rw[qJ];have E:ss.Pairwise (· < ·):=(C.and Q).imp λ⟨G,Z⟩=>by
    have:_≠_:=Z;omega
   refine zr.2 λi j hi W N=>?_;rw[(r _ (zb hi)).1,(r _ (zb W)).1];exact zr.1 E i j hi W N
theorem vB {s:Sl}{bs:List Bk}(hs:cS s 4 (iy bs) U F){i:Nat}{b:Bk}(hb:bs[i]?=some b){K:Addr->Prop}(hK:∀bb o,(∀(j:Nat) v,(my b)[j]?=some v->cell U ⟨bb,o+j,none⟩=some v)->K ⟨bb,o,none⟩):Ix s.a s.len (i:Int) 4 K:=by
 have m:=(cV.1 hb).1;have x:s.len=bs.length:=by have:=hs.1;rw[Gp]at this;omega
 obtain⟨bb,o,e,w⟩:=hs.cell (Co hb (j:=0) rfl);rw[e];refine ix O O ?_;rw[add_lit,dE];refine hK bb _ λj v g=>?_;obtain⟨u,r,d,p⟩:=hs.cell (Co hb g);rw[e]at d;cases d;rw[←p];congr 2;omega
end Go.Ar
namespace Go.Proofs
open Go.Vc
set_option maxRecDepth 100000
def X7.h:Hn:=.q .o1 (.q (.q .o5 .aK) (.q (.q .o1 (.k (.loop [(5,.I)] (.q (.q .o4 (.c .l .l)) (.q (.k (.q (.oq 9) .aK)) .o3))))) .aM))
def X7.v (a b:Sl)(c:Hp)(d:aO):Prop:=If (((a.len:Nat):Int) != ((b.len:Nat):Int)) (d false c) (WU [bN] (λe=>e 0 c) λf (g:Int) h=>If (g<((a.len:Nat):Int)) (Ix a.a a.len g 1 λi=>bM i h λj=>Ix b.a b.len g 1 λk=>bM k h λl=>If (j != l) (d false h) (bL (g+1) λm=>f m h)) (d true h))
theorem X7.o {a b c d}(e:X7.v a b c d):X7.c a b c d:=Wa Tryz.func21 (x:=X7.h) (R0 e)
end Go.Proofs
namespace Go.Ar
open Go Go.Vc Go.Proofs
open Go.Vc (cB dO dK)
variable {U σ0 v w w':Hp}{F G P Q X T:Rg}{L:dS}{H H' H1:Hw}{held:List Pc}{s0 sp:Sp}{t n:Nat}{m xb:Nat}
theorem Tp {live:List (Int×Bk)}{bs bs':List Bk}(h:ln live bs)(h':ln live bs'):bs=bs':=by
 have g:bs.Nodup:=h.nq.imp λ{a b} h e=>by rw[e]at h;omega
 have d:bs'.Nodup:=h'.nq.imp λ{a b} h e=>by rw[e]at h;omega
 exact List.Perm.eq_of_pairwise (le:=λa b:Bk=>a.1<b.1) (λa b _ _ j i=>O) h.nq h'.nq ((xP g d).2 λa=>(h.mem a).trans (h'.mem a).symm)
theorem Ti {s:Sl}{xs:List Int}(hr:bR s 1 (Wu xs) U Q)(hl:xs.length<=1000000000)(a:Int){e t:Nat}{K:Sl->Hp->Prop}(hK:∀s' w,Ext Q U w->bR s' 1 (Wu (xs++[a])) w (λb=>Q b\/U.size<=b/\b<w.size)->K s' w) :
 Nw (.cells #[.int .i64 a] t (0,0)) U λn v=>App s 1 8 e [.int .i64 0] ⟨some n,1,1⟩ v K:=by
 have A:s.len=xs.length:=by have:=hr.1;simp[Wu]at this;omega
 refine nw (cs:=[.int .i64 a]) λv x e1 i=>?_;have g:=aI.aF hr e1;refine g.app (ys:=[.int .i64 a]) rfl rfl ?_ (by simp[dJ]) ?_ ?_ (show 0<1 by decide) λs' h' m p d=>?_
 ·intro j u hu;rw[add_lit,zG,i.cell];exact hu
 ·simp only;omega
 ·simp only;omega
 ·have y:Ext Q U h':=e1.to.trans p;refine hK s' h' y ?_;have:Wu (xs++[a])=Wu xs++[.int .i64 a]:=by simp[Wu]
  rw[this];refine aI.mono (aI.cut d) λb r z=>?_;rcases z.1 with h1|h1
  ·exact .inl h1
  ·exact .inr ⟨O,r⟩
def oR (sp:Sp)(a:Int)(n:Nat):List Int:=(List.range n).map λ(i:Nat)=>KT sp (a+8*(i:Int))
def qx (sp:Sp)(bs:List Bk):List Int:=bs.flatMap λb=>b.1::b.2.1::oR sp b.1 (b.2.1.toNat/8)
theorem π (sp:Sp)(a:Int)(n:Nat):oR sp a (n+1)=oR sp a n++[KT sp (a+8*(n:Int))]:=by unfold oR;rw[kI,lr];rfl
theorem RQ {s:Sl}{xs:List Int}(hr:bR s 1 (Wu xs) U Q)(hl:xs.length<=1000000000)(a c:Int){e t:Nat}{K:Sl->Hp->Prop}{S:aP}(hS:∀u,aG U u->S u)(hK:∀s' w,Ext Q U w->bR s' 1 (Wu (xs++[a,c])) w (λb=>Q b\/U.size<=b/\b<w.size)->K s' w) :
 Nw (.cells #[.int .i64 a,.int .i64 c] t (0,0)) U λn v=>App s 1 8 e [.int .i64 0] ⟨some n,2,2⟩ v K:=by
 have A:s.len=xs.length:=by have:=hr.1;simp[Wu]at this;omega
 refine nw (cs:=[.int .i64 a,.int .i64 c]) λv x e1 i=>?_;have g:=aI.aF hr e1;refine g.app (ys:=[.int .i64 a,.int .i64 c]) rfl rfl ?_ (by simp[dJ]) ?_ ?_ (show 0<2 by decide) λs' h' m p d=>?_
 ·intro j u hu;rw[add_lit,zG,i.cell];exact hu
 ·simp only;omega
 ·simp only;omega
 ·have y:Ext Q U h':=e1.to.trans p;refine hK s' h' y ?_;have:Wu (xs++[a,c])=Wu xs++[.int .i64 a,.int .i64 c]:=by simp[Wu]
  rw[this];refine aI.mono (aI.cut d) λb r z=>?_;rcases z.1 with h1|h1
  ·exact .inl h1
  ·exact .inr ⟨O,r⟩
structure sq (H:Hw):Prop where
 s8:∀e∈H.live,8<=e.2.2.1/\0<=e.1/\e.1%8=0/\e.2.2.1%8=0/\e.1+e.2.2.1<=270000
 len:H.live.length<=1000000
 lk:(H.live.map (·.1)).Nodup
 l1:∀e∈H.live,e.2.1=e.1
theorem sq.eW (h:sq H){e:Int×Bk}(he:e∈H.live):8<=e.2.2.1/\0<=e.1/\e.1%8=0/\e.2.2.1%8=0/\e.1+e.2.2.1<=270000:=h.s8 e he
theorem HI.lvO (h:HI H held s0):sq H:=⟨λe a=>h.eW a,h.mB,h.lk,λe a=>(h.lv e a).1⟩
set_option maxRecDepth 8000 in
theorem SS (h:HH U F L H)(hi:sq H){R:Sl->Hp->Prop}(hR:∀s σ' bs,aG U σ'->ln H.live bs->bR s 4 (iy bs) σ' (λb=>U.size<=b)->R s σ'):X9.c (aW L.p) U R:=by
 refine X9.o ?_;unfold X9.v;have A:∀x∈H.live,Go.Bu.kG x.1:=λx g=>by have:=hi.eW g;unfold Go.Bu.kG;omega
 have P:=hi.len;refine QP h (bZ rfl (bO (h.hd.rM rfl (Jt _ ?_))));have e1:aG U (U.push (.cells #[.map (some L.lm)] xr (0,0))):=Ext.push _ _ _;have G:=h.aF e1;refine DQ (by unfold cell;simp) G.jd A P λs y ss e2 hp C hs=>?_;have J:=e1.trans e2;have B:=cS.pF hs;have Q:ss.Nodup:=hp.nodup_iff.2 hi.lk;have u:ss.length=H.live.length:=by rw[hp.length_eq];simp
 have hsl:s.len=ss.length:=by have:=B.1;simp at this;omega
 have D:∀x∈ss,∃b,cB H.live x=some b/\b.1=x:=λx g=>by
  obtain⟨e,he,rfl⟩:=zD.1 (hp.mem_iff.1 g);exact⟨e.2,Ka hi.lk he,hi.l1 e he⟩
 let f:Int->Bk:=λx=>(cB H.live x).getD (0,0,0,0)
 have r:∀x∈ss,(f x).1=x/\cB H.live x=some (f x):=λx g=>by
  obtain⟨b,d,V⟩:=D x g;have:f x=b:=by show(cB H.live x).getD _=b;rw[d];rfl
  rw[this];exact⟨V,d⟩
 have hz1:U.size<y.size:=by
  have G:=e2.1;have Z:(U.push (.cells #[.map (some L.lm)] xr (0,0))).size=U.size+1:=by simp
  omega
 refine Vu (a:=.s) (bb:=bN) (λ(out:Sl) (z:Int) w=>∃i:Nat,z=i/\i<=ss.length/\aG y w/\bR out 4 (iy ((ss.take i).map f)) w (λb=>y.size<=b)) (λ_ z _=>ss.length-z.toNat) ⟨0,rfl,O,Ext.refl _ _,⟨by simp[iy],.inl ⟨rfl,rfl⟩⟩⟩ ?_;rintro(out:Sl) (z:Int) w ⟨i,rfl,hil,ew,hr⟩;have X:=G.aF (e2.trans ew);refine cL (λE=>?_) λhge=>?_
 ·have g:ss[i]?=some (ss[i]' O):=cQ _;have hol:out.len=i:=by have:=hr.1;rw[Gp]at this;simp at this;omega
  refine(aH.aF (aH.cut B) ew).nK g (bO (X.hd.rM rfl ⟨H.live,X.jd,?_⟩));refine hr.push (F:=λb=>y.size<=b) (vs:=my (f (ss[i]' O))) (λb d=>by have:=ew.1;omega) rfl rfl (by simp[my,dJ]) O O λs' w' Y S K=>?_;have e3:aG y w':=Ext.fresh ew S λb d=>d;refine cC (m:=i+1) O O ⟨⟨i+1,rfl,O,e3,?_⟩,O⟩;have:iy ((ss.take (i+1)).map f)=iy ((ss.take i).map f)++my (f (ss[i]' O)):=by
   unfold iy;rw[zj,g,lr,yL];simp only[xm,zX,sx,mU,List.flatMap_nil,j7]
  rw[this];exact K
 ·have M:i=ss.length:=by omega
  subst M;rw[zy]at hr;refine hR out w (ss.map f) (J.trans ew) ⟨by simp[u],λb=>?_,?_⟩ (aI.mono hr λb _ d=>by
   show U.size<=b;have d:y.size<=b:=d;omega)
  ·constructor
   ·intro d;obtain⟨x,g,rfl⟩:=zD.1 d;obtain⟨q1,q2⟩:=r x g;rw[q1];exact Hg q2
   ·intro d;have g:b.1∈ss:=hp.mem_iff.2 (zD.2 ⟨_,d,rfl⟩);refine zD.2 ⟨b.1,g,?_⟩;have:=(r _ g).2;rw[Ka hi.lk d]at this;exact(Option.some.inj this).symm
  ·rw[qJ];have E:ss.Pairwise (· < ·):=(C.and Q).imp λ⟨G,Z⟩=>by
    have:_≠_:=Z;omega
   refine zr.2 λi j hi W N=>?_;rw[(r _ (zb hi)).1,(r _ (zb W)).1];exact zr.1 E i j hi W N
theorem I7 (hi:sq H){bs:List Bk}(hl:∀b∈bs,(b.1,b)∈H.live):∀n,(qx sp (bs.take n)).length<=n*40000:=by
 intro n;unfold qx;rw[List.length_flatMap];have key:∀l:List Bk,(∀b∈l,(b.1,b)∈H.live)->(l.map λb=>(b.1::b.2.1::oR sp b.1 (b.2.1.toNat/8)).length).sum<=l.length*40000:=by
  intro l
  induction l with
  | nil=>intro _;simp
  | cons b l ih=>
   intro h;have e:=ih λb d=>h b (mM _ d);have a:=hi.eW (h b mY);simp only at a;have g:(oR sp b.1 (b.2.1.toNat/8)).length=b.2.1.toNat/8:=by simp[oR]
   rw[zX,mN,zV,zV,zV,g];omega
 have e:=key (bs.take n) λb d=>hl b (qp d);have a:(bs.take n).length<=n:=by rw[zL];omega
 exact zP e (k7 _ a)
set_option maxRecDepth 16000 in
theorem I4 (h:HH U P L H)(hi:sq H)(hle:H.live.length<=5000){R:Sl->Hp->Prop}(hR:∀s w bs Q,aG U w->ln H.live bs->bR s 1 (Wu (qx H.sp bs)) w Q->(∀c,Q c->U.size<=c/\c<w.size)->R s w):Xn.c (aW L.p) U R:=by
 refine Xn.o ?_;unfold Xn.v;refine SS h hi λs v bs e hl y=>?_;have hsl:s.len=bs.length:=by have:=y.1;rw[Gp]at this;omega
 have hbl:bs.length<=5000:=by rw[hl.len];exact hle
 have x:∀b∈bs,(b.1,b)∈H.live:=λb hb=>(hl.mem b).1 hb;have g:=aI.cut y;have zv:=e.1;refine Vu (a:=.s) (bb:=bN) (λ(out:Sl) (z:Int) u=>aG v u/\∃(i:Nat) (Q:Rg),z=i/\i<=bs.length/\bR out 1 (Wu (qx H.sp (bs.take i))) u Q/\∀c,Q c->v.size<=c/\c<u.size) (λ_ z _=>bs.length-z.toNat) ⟨Ext.refl _ _,0,λ_=>False,rfl,O,⟨rfl,.inl ⟨rfl,rfl⟩⟩,λc d=>d.elim⟩ ?_;rintro(out:Sl) (z:Int) u ⟨eu,i,Q,rfl,hi',hr,hQ⟩;have zu:=eu.1;refine cL (λhlt=>?_) λhge=>?_
 ·have C:bs[i]?=some (bs[i]' O):=cQ _;generalize (bs[i]' O)=b at C;have h8:=hi.eW (x b (zE C));simp only at h8;have D:=I7 (sp:=H.sp) hi x i;have hwl':(qx H.sp (bs.take i)).length<=200000000:=zP D (k7 _ (show i<=5000 by omega));clear D;have rd:∀{w:Hp} {j:Nat} {z:Int} {K:Int->Prop},aG v w->(my b)[j]?=some (.int .i64 z)->K z->Ix s.a s.len (i:Int) 4 λa=>gO .i64 (a.add j) w K:=λew B G=>vB (bR.fM (aI.aF g ew)) C λE W r=>hO (r _ _ B) G;have A:∀{j:Nat} {z:Int} {K:Int->Prop},(my b)[j]?=some (.int .i64 z)->K z->Ix s.a s.len (i:Int) 4 λa=>fR (λm=>aG u m) bN (a.add j) K:=λB G=>vB (bR.fM (aI.aF g eu)) C λE W r=>⟨_,λm em=>by
   have X:E<u.size:=by
    have:=r _ _ B;unfold cell at this;split at this
    ·rename_i h;exact(lY.1 h).1
    ·cases this
   rw[add_lit,Ki em X id];exact r _ _ B,G⟩
  refine⟨λm=>aG u m,Ext.refl _ _,A (j:=0) rfl (A (j:=1) rfl ?_)⟩;refine RQ (S:=λ_=>True) hr O b.1 b.2.1 (λ_ _=>trivial) λs1 w1 e1 N=>?_;have E1:aG v w1:=Ext.fresh eu e1 λc d=>(hQ c d).1;have z1:=e1.1;refine rd E1 (j:=0) rfl ?_;refine Vu (a:=.s) (bb:=bN) (λ(out:Sl) (z:Int) F=>aG v F/\∃(j:Nat) (Q2:Rg),z=b.1+8*(j:Int)/\(j:Int)*8<=b.2.1/\bR out 1 (Wu (qx H.sp (bs.take i)++[b.1,b.2.1]++oR H.sp b.1 j)) F Q2/\∀c,Q2 c->v.size<=c/\c<F.size) (λ_ z _=>(b.1+b.2.1+8-z).toNat)
   ⟨E1,0,_,O,O,by rw[show oR H.sp b.1 0=[]from rfl,j7];exact N,λc d=>by
    rcases d with d|d
    ·have:=hQ c d;omega
    ·omega⟩ ?_
  rintro(out2:Sl) (z:Int) F ⟨E2,j,Q2,rfl,B,hr2,hQ2⟩;have z2:=E2.1;refine ar O O (rd E2 (j:=0) rfl (rd E2 (j:=1) rfl (ar O O (cL (λhle2=>?_) λhgt=>?_))))
  ·have h2:=h.aF (e.trans E2);refine KN h2 _ O λw3 M=>?_;have Y:=aI.aF hr2 M;have Z:(oR H.sp b.1 j).length=j:=by simp[oR]
   have z3:=M.1;refine Ti Y (by rw[zR,zR,Z];simp only[zV,lS];omega) _ λs4 w4 e4 J=>?_;have E4:aG v w4:=Ext.fresh (E2.trans M) e4 λc d=>(hQ2 c d).1;have z4:=e4.1;refine ar O O ⟨⟨E4,j+1,_,O,O,by rw[π,←zm];exact J,λc d=>?_⟩,O⟩;rcases d with d|d
   ·have:=hQ2 c d;omega
   ·omega
  ·have hjn:j=b.2.1.toNat/8:=by omega
   have V:qx H.sp (bs.take (i+1))=qx H.sp (bs.take i)++[b.1,b.2.1]++oR H.sp b.1 j:=by
    unfold qx;rw[zj,C,yL,hjn];simp[zm]
   exact cC (m:=i+1) O O ⟨⟨E2,i+1,Q2,rfl,O,by rw[V];exact hr2,hQ2⟩,O⟩
 ·have aa:i=bs.length:=by omega
  subst aa;rw[zy]at hr;exact hR out u bs Q (e.trans eu) hl hr λc d=>by have:=hQ c d;omega
theorem Oo {a b:Sl}{xs ys:List Int}{G:Rg}(ha:cS a 1 (Wu xs) U F)(hb:cS b 1 (Wu ys) U G)(hl:xs.length<=1000000000){R:aO}(hR:R (decide (xs=ys)) U):X7.c a b U R:=by
 refine X7.o ?_;unfold X7.v;have B:a.len=xs.length:=by have:=ha.1;simp[Wu]at this;omega
 have A:b.len=ys.length:=by have:=hb.1;simp[Wu]at this;omega
 rw[B,A,pJ];refine cU (λs=>?_) λs=>?_
 ·have d:xs.length≠ys.length:=by simpa using s
  rw[zJ λe=>d (by rw[e])]at hR;exact hR
 have K:xs.length=ys.length:=by simpa using s
 refine Zw (a:=bN) (λ(t:Int) v=>∃i:Nat,t=(i:Int)/\i<=xs.length/\v=U/\xs.take i=ys.take i) (λt _=>xs.length-t.toNat) ⟨0,rfl,O,rfl,rfl⟩ ?_;rintro t v ⟨i,rfl,J,rfl,g⟩;refine cL (λD=>?_) λE=>?_
 ·have r:i<xs.length:=by omega
  have j:xs[i]?=some xs[i]:=cQ r;have p:ys[i]?=some (ys[i]' O):=cQ _;generalize xs[i]=x at j;generalize ys[i]' O=y at p;rw[←B,←A];refine ha.nK j (hb.nK p (cU (λd=>?_) λu=>?_))
  ·have C:x≠y:=by simpa using d
   rw[zJ]at hR
   ·exact hR
   ·intro e;rw[e,p]at j;exact C (Option.some.inj j).symm
  ·have w:x=y:=by simpa using u
   refine cC (m:=i+1) O O ⟨⟨i+1,rfl,O,rfl,?_⟩,O⟩;rw[zj,zj,g,j,p,w]
 ·have H:i=xs.length:=by omega
  have:xs=ys:=by
   have z:=g;rw[l0 O,l0 O]at z;exact z
  rw[zI this]at hR;exact hR
theorem HI.qc (h:HI H held s0)(hp:H.cf.bK<=128):H.live.length<=4096:=by
 have key:∀e∈H.live,0<=e.1/\e.1%8=0/\e.1<32768:=λe g=>by
  have D:=h.eW g;obtain⟨_,p,m,_,_,B,E,_⟩:=h.lv e g;have A:=h.mapped m (x:=p.addr) (zC _) O;have:p.addr/256<H.sp.st.length:=by
   have a:=A;unfold gf at a;rw[zM]at a;by_cases s:p.addr/256<H.sp.st.length
   ·exact s
   ·rw[zO O]at a;exact absurd rfl a
  rw[h.sl]at this;omega
 have z:(H.live.map λe=>e.1.toNat/8).Nodup:=by
  have w:=zr.1 h.lk;refine zr.2 λi j u y r e=>?_;have b:i<H.live.length:=by simpa using u
  have d:j<H.live.length:=by simpa using y
  refine w i j (by simpa using b) (by simpa using d) r ?_;simp only[qU]at e ⊢;have F:=key _ (zb b);have C:=key _ (zb d);omega
 have:=yu 4096 _ z λx a=>by
  obtain⟨e,g,rfl⟩:=zD.1 a;have:=key e g;omega
 have s:(H.live.map λe=>e.1.toNat/8).length=H.live.length:=by simp
 omega
end Go.Ar
namespace Go.Ar
open Go Go.Vc Go.Proofs
open Go.Vc (cB dO dK)
variable {U σ0 v w w':Hp}{F G P Q X T:Rg}{L:dS}{H H' H1:Hw}{held:List Pc}{s0 sp:Sp}{t n:Nat}{m xb:Nat}{A:AR}
theorem HI.iN (hi:HI H held s0):∀A∈H.bT,gY A:=λA a=>by
 obtain⟨k,b⟩:=zN a;exact(hi.wi.ga k A b).iN
theorem Hd.ui (ga:GA A){p:Pc}(hd:Hd A p){x:Nat}(h1:p.addr<=x)(h2:x<p.addr+p.size):Ux A (x:Int)=some (p.cls,p.addr):=by
 rcases hd with⟨c1,_,r,hr,e1,e2⟩|⟨j,c,c1,hc,e1,⟨c',ss,hcl,ht⟩,_⟩
 ·rw[c1,e1];exact H9 ga hr O O
 ·have:=hcl.1;rw[hc]at this;cases this;obtain⟨l,s,i,d,b,e,_⟩:=(Un (ga.cI _ _ _ hcl)).1 ht;have a:p.addr=at_ c s i:=by omega
  rw[c1,a];exact Ck ga hcl d b O O
theorem Hd.ud (ga:GA A){p:Pc}(hd:Hd A p)(hpos:1<=p.size){x:Int}{k:Int}(hf:Ux A x=some (k,p.addr)):(p.addr:Int)<=x/\x<((p.addr+p.size:Nat):Int):=by
 have d:=hd.ui ga (x:=p.addr) (zC _) O;rcases Hl ga hf with⟨rfl,r,hr,ha,h1,h2⟩|⟨j,c,ss,l,s,i,rfl,hc,hs,hi,ha,h1,h2⟩
 ·have u:=ga.gH r hr;have a:=H9 ga hr (x:=p.addr) O O;rw[d]at a;have b:p.cls = -1:=congrArg Prod.fst (Option.some.inj a);rcases hd with⟨_,_,r',hr',e1,e2⟩|⟨j,c,c1,_⟩
  ·have g:=ga.gH r' hr';have m:=Gg ga.iN hr (x:=r.1) O O;have e:=Gg ga.iN hr' (x:=r.1) O O;rw[m]at e;cases e;omega
  ·omega
 ·have w:=ga.cI j c ss hc;have a:=Ck ga hc hs hi (x:=p.addr) O (by have:=w.pos;omega);rw[d]at a;have b:p.cls=j:=congrArg Prod.fst (Option.some.inj a);rcases hd with⟨c1,_⟩|⟨j',c',c1,hc',e1,_⟩
  ·omega
  ·obtain rfl:j'=j:=by omega
   have:=hc.1;rw[hc']at this;cases this;omega
theorem Lh (hi:HI H held s0){x:Int}{b:Bk}(hb:UM H x=some b):(b.1,b)∈H.live/\b.1<=x/\x<b.1+b.2.1:=by
 unfold UM at hb;split at hb
 ·split at hb
  ·rename_i A hA;split at hb
   ·rename_i k y hf;have D:=Hg hb;obtain⟨d,p,hp,_,_,e,g,_⟩:=hi.lv _ D;simp only at e g d;have C:=(hi.wi.size_pos hp).1;have ga:=hi.wi.ga _ A hA;obtain⟨B,u,hd⟩:=hi.wi.hf p hp;have z:p.addr=y:=by omega
    have F:0<=x:=by
     rcases Hl ga hf with⟨rfl,r,hr,e,h1,h2⟩|⟨j,c,ss,l,s,i,rfl,hc,g,hi',e,h1,h2⟩<;>omega
    have J:A.f (y/256)=1:=by
     rcases Hl ga hf with⟨rfl,r,hr,e,h1,h2⟩|⟨j,c,ss,l,s,i,rfl,hc,g,hi',e,h1,h2⟩
     ·have:=ga.gH r hr;exact(ga.jy hr O O).1
     ·have E:=ga.cI j c ss hc;have a:=HM (s:=s) E.pos hi' (x:=y) O (by have:=E.pos;omega);exact(ga.used hc (zE g) a.1 a.2).1
    have G:=hi.wi.mP hp u (x:=y) O O;have w:=hi.wi.one (y/256) _ _ A B hA u O O;rw[w]at hA;have m:B=A:=Option.some.inj (u.symm.trans hA);subst m;rw[←z]at hf;have:=Hd.ud ga hd O hf;rw[d];exact⟨D,O,O⟩
   ·cases hb
  ·cases hb
 ·cases hb
def ng (H:Hw)(to fr n:Int):Int:=if n<0 then 1 else if QC H to n&&QC H fr n then 0 else 7
theorem Uh (hi:HI H held s0){x n:Int}(h:QC H x n=true):∃b:Bk,(b.1,b)∈H.live/\b.1<=x/\x<b.1+b.2.1/\x%8=0/\n<=b.2.1/8/\x+n*8<=b.1+b.2.1:=by
 unfold QC at h;cases hb:UM H x with
 | none=>rw[hb]at h;cases h
 | some b=>
  rw[hb]at h;simp only[zF,zU,za]at h;obtain⟨a,e,g⟩:=Lh hi hb;have d:=hi.eW a;simp only at d;rw[QY O]at h;exact⟨b,a,e,g,h.1,h.2.1,h.2.2⟩
theorem Sc (h:HH U F L H)(gc:Gc U)(hi:HI H held s0)(hc:im H){to fr n:Int}(ht:kG to)(hf:kG fr){R:aN}(h0:∀w,ng H to fr n≠0->aG U w->R (ng H to fr n) w)
 (h1:∀w,ng H to fr n=0->0<=n->Ext F U w->HH w (Grow F U) L {H with sp:=Vw H.sp to fr n.toNat}->R 0 w):QA.c (aW L.p) to fr n U R:=by
 refine QA.o ?_;unfold QA.v;unfold ng at h0 h1;refine Dp h hc λv e=>bZ rfl (cL (λi=>?_) λi=>?_)
 ·rw[zB i]at h0;exact h0 v aB e
 rw[zA i]at h0 h1;have u:=h.aF e;have d:∀x b,UM H x=some b->0<=b.1/\b.1<=500000000000/\0<=b.2.1/\b.2.1<=1000000000/\x<=1000000000000:=λx b d=>by
  obtain⟨m,B,A⟩:=Lh hi d;have N:=hi.eW m;simp only at N;omega
 refine JW u to n ht.2 ht.1 O hi.iN (d to) λK e1=>?_;have g:=u.aF e1;refine Ko (λr w=>aG K w/\r = !(QC H to n&&QC H fr n)) (λr w ⟨j,y⟩=>?_) λJ s=>cU (λa=>s _ _ ⟨Ext.refl _ _,?_⟩) λa=>JW g fr n hf.2 hf.1 O hi.iN (d fr) λX e2=>s _ _ ⟨e2,?_⟩
 ·refine cU (λa=>?_) λa=>?_
  ·rw[y,mS]at a;rw[a]at h0;exact h0 w aB ((e.trans e1).trans j)
  ·rw[y,Bool.not_eq_false']at a;rw[a]at h1;rw[zF]at a;obtain⟨Y,M,r1,W,Z,Q,S⟩:=Uh hi a.1;obtain⟨b2,G,m,B,A,V,q5⟩:=Uh hi a.2;have s1:=hi.eW M;have z:=hi.eW G;simp only at s1 z;obtain⟨k,rfl⟩:=zf (show 0<=n by omega);have P:=g.aF j;have E:=(e.trans e1).trans j;refine Ir P (gc.aF E) to fr k O O O O O λw2 e2 C=>h1 w2 rfl O (aG.to E |>.trans e2) ?_;refine C.mono (λb d D=>?_) h.oG h.qB;have:=E.1;exact D.imp id λh=>zP this h
 ·have:QC H to n=false:=by simpa using a
  rw[this];rfl
 ·have:QC H to n=true:=by simpa using a
  rw[this];rfl
end Go.Ar
namespace Go.Proofs
open Go.Shelf
def Tryz.mi:Go.Shelf.Ren:=⟨fun|5=>44|7=>70|n=>n,fun|23=>65|25=>3|3=>54|4=>4|20=>20|n=>n,fun|n=>n⟩
theorem Tryz.rK:Go.Proofs.SlLaysW.n5 Tryz.prog Tryz.mi:={
 mixed:=by kernel_rfl
 f5:=⟨Tryz.f44.name,by decide,Tryz.func44.trans (congrArg some (by kernel_rfl))⟩
 f7:=Tryz.func70.trans (congrArg some (by kernel_rfl))
 t4:=Tryz.underlying4
 a4:=Tryz.isAgg4
 z4:=Tryz.sizeOf4
 v4:=Tryz.zeroValue4
 t20:=Tryz.underlying20
 a20:=Tryz.isAgg20
 z20:=Tryz.sizeOf20
 v20:=Tryz.zeroValue20
 t23:=Tryz.underlying65
 a23:=Tryz.isAgg65
 z23:=Tryz.sizeOf65
 v23:=Tryz.zeroValue65}
end Go.Proofs
namespace Go.Ar
variable {W:Wd}{k:Nat}{A:AR}
end Go.Ar
namespace Go.Ar
open Go Go.Vc Go.Proofs
open Go.Vc (cB dO dK)
variable {U v w w':Hp}{F P Q X:Rg}{L:dS}{H H':Hw}{held:List Pc}{s0:Sp}{t n:Nat}{g:Th}{nb sb m:Nat}{x:List Int}
def ir (tb:List cD)(l:List Bt):Nat:=(l.map λb=>b.2.length*(tb.getD b.1 ⟨8,1,1⟩).size).sum
def O2:List Value:=[.int .i64 0,.int .i64 0,.int .i64 0,.int .i64 0,.int .i64 0,.int .i64 0,.int .i64 0,.int .i64 0,.int .i64 0,.int .i64 0,.int .i64 0]
structure r7 (U:Hp) (nb sb:Nat) (v:Hp) (x:List Int):Prop where
 e:aG U v
 n:bY v nb O2
 s:bY v sb (x.map (Value.int .i64))
 h1:U.size<=nb
 h2:U.size<=sb
 h3:nb≠sb
 hl:x.length=11
theorem r7.own (h:r7 U nb sb v x)(o:QT v w m)(h4:v.size<=m\/m≠nb/\m≠sb/\U.size<=m):r7 U nb sb w x:=by
 have b:=h.n.lt;have g:=h.s.lt;have j:=h.e.1;exact⟨Ext.fresh h.e o.ext λi (d:i=m)=>O,o.ext.bX h.n λ(a:nb=m)=>O,o.ext.bX h.s λ(a:sb=m)=>O,h.h1,h.h2,h.h3,h.hl⟩
theorem r7.rd (h:r7 U nb sb v x){i:Nat}{y:Int}(hy:x[i]?=some y){K:Int->Prop}(hK:K y):gO .i64 (Addr.add ⟨sb,0,none⟩ i) v K:=
 h.s.rI (by rw[zG,zk,hy];rfl) hK
theorem r7.st (h:r7 U nb sb v x){i:Nat}{y:Int}(hi:i<11){K:aP}(hK:∀w,Ext (· = sb) v w->r7 U nb sb w (x.set i y)->K w):eP (Addr.add ⟨sb,0,none⟩ i) (.int .i64 y) v K:=by
 have hl:=h.hl;refine h.s.s1 (by rw[zi];omega) λw o b=>hK w o.ext ⟨Ext.fresh h.e o.ext λi (hi:i=sb)=>by have:=h.h2;omega,o.ext.bX h.n λ(a:nb=sb)=>h.h3 a,?_,h.h1,h.h2,h.h3,by rw[nZ,hl]⟩;rw[zG,←tA]at b;exact b
theorem HH.NX (h:HH U F L H){x:dQ}(hx:L.ts[t]?=some x)(hg:H.bQ[t]?=some g):gC x.h g.bP U F:=by
 obtain⟨G,d,a⟩:=h.sep.get (.hn t);simp only[CH,hx,hg,lq]at a;exact dH.mono (gC.loc _ _) a λb _ a=>d b a
theorem HH.Pj (h:HH U F L H){x:dQ}(hx:L.ts[t]?=some x)(hg:H.bQ[t]?=some g):dY U F x.c H.tb H.cf.cT g.ls:=by
 obtain⟨G,d,a⟩:=h.sep.get (.ca t);simp only[CH,hx,hg,lW]at a;exact dH.mono dY.loc a λb _ a=>d b a
theorem HH.DC (h:HH U F L H){x:dQ}(hx:L.ts[t]?=some x)(hg:H.bQ[t]?=some g){ty:Nat}{K:Addr->Hp->Prop}(hK:∀v,aG U v->U.size<v.size->bY v U.size (iF (x,g))->K ⟨U.size,0,none⟩ v) :
 Ix L.cK.a L.cK.len (t:Int) 3 λa58=>fW (a58.add 0) U λt59=>ji (a58.add 1) U λt591=>xg (a58.add 2) U λt592=>
  Nw (.cells #[.pointer none,.slice none 0 0,.nilIface] ty (0,0)) U λn7 v17=>O1 t592<|eP (n7.add 0) (.pointer t59) v17 λv18=>eP (n7.add 1) (.slice t591.a t591.len t591.cap) v18 λv19=>eP (n7.add 2) t592 v19 λv20=>K n7 v20:=by
 obtain⟨b,o,s,z⟩:=UR h.ky hx hg (d:=0) O rfl;obtain⟨P,o1,j,C⟩:=UR h.ky hx hg (d:=1) O rfl;obtain⟨u,o2,e,B⟩:=UR h.ky hx hg (d:=2) O rfl;rw[s]at j e;cases j;cases e;have R:=h.jb;have N:=(cV.1 hg).1;rw[s];refine ix O O ?_;rw[add_lit,show o+(t:Int).toNat*3=o+3*t by omega];refine tN (by rw[add_lit,qu];exact z) (nR (by rw[add_lit,qu];exact C) ⟨_,by rw[add_lit,qu];exact B,?_⟩);refine nw (cs:=[.pointer none,.slice none 0 0,.nilIface]) λM J e2 u=>?_;have D:∀{A:Prop},A->O1 (j9 g.ph) A:=λ{A} r=>by
  cases g.ph with
  | none=>exact r
  | some p=>cases p<;>exact r
 refine D (u.s1 aA λv3 o3 E=>E.s1 aA λQ o4 w=>w.s1 aA λG o5 y=>?_);exact hK G (Ext.fresh (Ext.fresh (Ext.fresh e2 o3.ext λi m=>O) o4.ext λi m=>O) o5.ext λi m=>O) (by have:=o3.1;have:=o4.1;have:=o5.1;omega) y
end Go.Ar
namespace Go.Ar
open Go Go.Vc Go.Proofs
open Go.Vc (cB dO dK)
variable {U:Hp}{F G:Rg}{Y:gQ}{tb:List cD}{bud:Nat}{ls:List Li}{b k:Nat}{l:Li}
structure L1 (U v:Hp) (Y:gQ) (tb:List cD) (bud:Nat) (ls:List Li) (p m:Nat) (cH:Sl) (it:Nat) (todo:List (Int×Option Addr)) (ps:List (Nat×Nat)) (lsd:List Li):Prop where
 e:aG U v
 c:dY v (λq=>U.size<=q/\q<v.size/\q≠it) ⟨p,m,cH,ps⟩ tb bud lsd
 sub:∀x∈todo,x∈jY Y.ps
 keys:∀x:Nat,(gW ps x).isSome=true↔(gW Y.ps x).isSome=true/\¬(x:Int)∈todo.map (·.1)
 ld:∀x,x<tb.length->lsd[x]?=if(gW ps x).isSome then ls[x]? else some il
theorem Im (h:dY U F Y tb bud ls){R:Option Addr->Hp->Prop}(hR:∀σ' Y',aG U σ'->dY σ' (λq=>U.size<=q) Y' tb bud ls->R (some ⟨Y'.p,0,none⟩) σ'):XW.c (aW Y.p) U R:=by
 refine XW.o ?_;unfold XW.v;refine Hq h (bZ rfl (Jn.intro ⟨λm=>bY m Y.p (vU Y bud),h.hd,?_⟩));refine bO ⟨Y.cH,λm M=>by rw[add_lit,M.cell];rfl,bO ⟨(bud:Int),λm M=>by rw[add_lit,M.cell];rfl,?_⟩⟩;have hln:∀{x:Nat},gW Y.ps x=none->x<tb.length->ls[x]?=some il:=λ{x} r hlt=>by
  obtain⟨G,_,V⟩:=h.sep.get (.li x);have hl:ls[x]?=some (ls[x]'(by rw[h.len];exact hlt)):=cQ _;simp only[CC,np,r,hl]at V;rw[hl,V]
 have key:∀(ty:Nat) (u:Hp) (cH:Sl) (m n:Nat),aG U u->cS cH 3 (fB tb) u (λq=>U.size<=q/\q<u.size/\q≠m/\q≠n)->U.size<=m->U.size<=n->m≠n->m<u.size->n<u.size->dD u m .i64 .p []->bY u n [.slice cH.a cH.len cH.cap,.int .i64 (bud:Int),.map (some m)] →
  bU (some ⟨Y.p,0,none⟩) λa22=>lU (a22.add 2) u λt24=>pG .i64 .p t24 u λit v2=>WU [] (λI=>I v2) λJ1 v3=>pN .i64 .p it v3 (R (some ⟨n,0,none⟩) v3) λkey val v4=>qf .i64 .p it v4 λkey1 H=>dP v4 λS1=>bU (some ⟨n,0,none⟩) λa32=>fR S1 .m (a32.add 2) λ(t34:Option Nat)=>
   bU H λa37=>fR S1 .s (a37.add 0) λ(t39:Sl)=>bU H λa42=>fR S1 bN (a42.add 1) λ(t44:Int)=>bU H λa46=>fR S1 bN (a46.add 2) λ(t48:Int)=>Wk.c t39 v4 λX v5=>And (S1 v5) <|
   Nw (.cells #[.slice X.a X.len X.cap,.int .i64 t44,.int .i64 t48] ty (0,0)) v5 λn50 v6=>And (S1 v6)<|jS .i64 .p t34 key1 (some n50) v6 λv7=>J1 v7:=by
  intro ty u cH m n eu B M hn hmn hm' hn' bm bn;have hu:=h.aF eu;have su:=eu.1;refine bO (hu.hd.rM rfl ?_);refine q9 (c:=.p) (l:=jY Y.ps) hu.map (λQ v=>u.size<v.size/\∃ps lsd,L1 U v Y tb bud ls n m cH u.size Q ps lsd) (λv S e=>?_) (λv hv=>?_) λQ kk val v v' J hI r ho hlt hJ=>?_
  ·refine⟨O,[],List.replicate tb.length il,eu.trans e,⟨h.lA,h.ok,by simp,by simp,?_⟩,λx r=>r,λx=>?_,λx r=>?_⟩
   ·refine⟨λq=>if q=n then .hd else if q=m then .mp else .cH,λi=>?_⟩
    cases i with
    | hd=>exact⟨⟨⟨hn,(show n<v.size by omega),(show n≠u.size by omega)⟩,by simp⟩,e.bX bn id⟩
    | mp=>
     refine⟨⟨⟨M,(show m<v.size by omega),(show m≠u.size by omega)⟩,?_⟩,e.fC bm id⟩;show(if m=n then nU.hd else if m=m then nU.mp else nU.cH)=.mp
     rw[zA hmn,zB rfl]
    | cH=>
     refine aH.mono (aH.aF B e) λq _ d=>⟨⟨d.1,O,O⟩,?_⟩;show(if q=n then nU.hd else if q=m then nU.mp else nU.cH)=.cH
     rw[zA d.2.2.2,zA d.2.2.1]
    | li k=>
     simp only[CC,np,gW,List.find?_nil,Option.map_none];cases hk:(List.replicate tb.length il)[k]? with
     | none=>trivial
     | some l=>simp only[mD]at hk;split at hk<;>simp_all
   ·constructor
    ·intro r;simp[gW]at r
    ·rintro⟨h1,h2⟩;cases K:gW Y.ps x with
     | none=>rw[K]at h1;cases h1
     | some b=>
      exact absurd (zD.2 ⟨((x:Int),some ⟨b,0,none⟩),zD.2 ⟨(x,b),Sk K,rfl⟩,rfl⟩) h2
   ·simp[gW,r]
  ·obtain⟨_,ps,lsd,A⟩:=hv;have hls:lsd=ls:=by
    refine zp λx=>?_;by_cases r:x<tb.length
    ·rw[A.ld x r];cases K:gW ps x with
     | some b=>rfl
     | none=>
      have:gW Y.ps x=none:=by
       cases hg:gW Y.ps x with
       | none=>rfl
       | some b=>
        have:=(A.keys x).2 ⟨by rw[hg];rfl,by simp⟩;rw[K]at this;cases this
      rw[hln this r];rfl
    ·rw[zO (by rw[A.c.len];omega),zO (by rw[h.len];omega)]
   have hc:=A.c;rw[hls]at hc;exact hR v ⟨n,m,cH,ps⟩ A.e (hc.mono λq _ d=>d.1)
  ·obtain⟨S,ps,lsd,A⟩:=hI;obtain⟨⟨k,bk⟩,hk,hkv⟩:=zD.1 (A.sub _ r);simp only[Prod.mk.injEq]at hkv;obtain⟨rfl,rfl⟩:=hkv;have hlk:gW Y.ps k=some bk:=Dm h.map.nodup hk;have E:k<tb.length:=h.keys _ hk;have hl:ls[k]?=some (ls[k]'(by rw[h.len];exact E)):=cQ _;generalize (ls[k]'(by rw[h.len];exact E))=l at hl;have ev':aG U v':=Ext.fresh A.e ho.ext λi (V:i=u.size)=>by omega
   obtain⟨G0,_,N⟩:=(h.aF ev').sep.get (.li k);have N:jj bk l v' G0:=by
    simp only[CC,np,hlk,hl]at N;exact N
   obtain⟨_,hok,s,hbk,hs,_⟩:=N;have hsl:s.len=l.os.length:=by have:=hs.1;simp[Wu]at this;omega
   have hmany:=hok.many;have hCv:dY v' (λq=>U.size<=q/\q<v.size/\q≠u.size) ⟨n,m,cH,ps⟩ tb bud lsd:=dH.bV dY.loc A.c ho.ext λq _ d (he:q=u.size)=>d.2.2 he;have hS:∀w,aG v' w->bY w n (vU ⟨n,m,cH,ps⟩ bud):=λw e=>e.bX hCv.hd id;have aa:∀w,aG v' w->bY w bk (mK s l):=λw e=>e.bX hbk id;refine⟨λw=>aG v' w,Ext.refl _ _,bO ⟨some m,λw Z=>by rw[add_lit,(hS w Z).cell];rfl,bO ⟨s,λw Z=>by rw[add_lit,(aa w Z).cell];rfl,bO ⟨(l.lim:Int),λw Z=>by rw[add_lit,(aa w Z).cell];rfl,bO ⟨(l.low:Int),λw Z=>by rw[add_lit,(aa w Z).cell];rfl,?_⟩⟩⟩⟩⟩;refine Kz hs KH O λs' v6 hl' e6 hr6=>⟨e6,?_⟩;refine nw (cs:=mK s' l) λv7 hz7 e7 hb7=>⟨e6.trans e7,?_⟩;have g:gW ps k=none:=by
    cases K:gW ps k with
    | none=>rfl
    | some b=>
     have:=((A.keys k).1 (by rw[K];rfl)).2;exact absurd (zD.2 ⟨_,r,rfl⟩) this
   have L:=e6.trans e7;have h6s:=e6.1;have hvz:v'.size=v.size:=ho.1;obtain⟨G1,H1,W,hH1,hd1,C,hj1,hput⟩:=hCv.sep.nI CC.loc .mp (.li k) (by intro e;cases e);have C:iT m .i64 .p (jY ps) v' G1:=C;refine⟨m,_,rfl,L.fC C.2 id,λv8 o8 m8=>?_⟩;rw[I8 g]at m8;have hmlt:=C.2.lt;have hmG:=W _ C.1;have e8:aG U v8:=Ext.fresh (ev'.trans L) o8.ext λi (V:i=m)=>by omega
   have h8z:=o8.1;refine hJ v8 ?_ ?_ ⟨O,ps++[(k,v6.size)],lsd.set k l,e8,⟨h.lA,h.ok,by rw[nZ];exact A.c.len,λx r=>?_,?_⟩,λy hy=>A.sub y (zH.1 hy).1,λx=>?_,λx r=>?_⟩
   ·rw[o8.2 _ O];exact L.2 _ O id
   ·have:=h.map.lt;rw[o8.2 _ O];exact L.2 _ O id
   ·rcases zS.1 r with r|r
    ·exact A.c.keys x r
    ·rw[zZ]at r;subst r;exact E
   ·refine(Sep.loc CC.loc).mono (hput v8 (CC tb bud (lsd.set k l) ⟨n,m,cH,ps++[(k,v6.size)]⟩) G1 (λq=>v'.size<=q/\q<v7.size) (λj h1 h2=>?_) ((aG.to L).only o8 (.inl (.inl C.1))) (λq d=>.inl (.inl d)) (λq d=>.inr d.1) (λq h1 h2=>?_) ⟨C.1,m8⟩ ?_ CC.loc) λq _ d=>?_
    ·cases j<;>first|rfl|exact absurd rfl h1|skip
     rename_i i;have V:i≠k:=λe=>h2 (by rw[e]);simp only[CC,KG g,zA V,zd (Ne.symm V)]
    ·have:=(W q h1).2.1;omega
    ·simp only[CC,KG g,zT,np,zK (show k<lsd.length by rw[A.c.len];exact E)];refine⟨O,hok,s',Wm o8 hb7 O,aH.bV (aH.aF (aH.mono (bR.fM hr6) (G:=λq=>(v'.size<=q/\q<v7.size)/\q≠v6.size) λq d K=>⟨⟨K,O⟩,O⟩) e7) o8.ext λq _ d (he:q=m)=>by have:=d.1.1;omega,bR.oc hr6⟩
    ·rcases d with d|d|d
     ·exact⟨d.1.1,O,d.1.2.2⟩
     ·have:=W q d;exact⟨this.1,O,this.2.2⟩
     ·exact⟨O,O,O⟩
   ·rw[KG g];by_cases hxk:x=k
    ·subst hxk;rw[zB rfl];refine⟨λ_=>⟨by rw[hlk];rfl,λM=>?_⟩,λ_=>rfl⟩;obtain⟨z,S,D⟩:=zD.1 M;rw[zH]at S;simp[D]at S
    ·rw[zA hxk,A.keys];refine and_congr_right λ_=>not_congr ?_;simp only[zD,zH];constructor
     ·rintro⟨z,S,D⟩;exact⟨z,⟨S,by simp[D];omega⟩,D⟩
     ·rintro⟨z,⟨S,_⟩,D⟩;exact⟨z,S,D⟩
   ·rw[KG g];by_cases hxk:x=k
    ·subst hxk;rw[zB rfl,zK (by rw[A.c.len];exact E),hl];rfl
    ·rw[zA hxk,zd (Ne.symm hxk)];exact A.ld x r
 have htl:=h.oy;refine⟨?_,?_⟩
 ·refine Ur h.iW h.lA λcH v1 e1 B=>⟨e1.bX h.hd id,Gj λv2 z2 e2 M=>⟨(e1.trans e2).bX h.hd id,nw (cs:=[.slice cH.a cH.len cH.cap,.int .i64 (bud:Int),.map (some v1.size)]) λv3 z3 P hb=>⟨((e1.trans e2).trans P).bX h.hd id,?_⟩⟩⟩;have s1:=e1.1;exact key _ v3 cH v1.size v2.size ((e1.trans e2).trans P) (aH.aF (aH.mono B λq d K=>⟨K,O,O,O⟩) (e2.trans P)) O O O O O (P.fC (M .i64 .p) id) hb
 ·refine Gj λv1 z1 e1 M=>⟨e1.bX h.hd id,Ur (h.aF e1).iW h.lA λcH v2 e2 B=>⟨(e1.trans e2).bX h.hd id,nw (cs:=[.slice cH.a cH.len cH.cap,.int .i64 (bud:Int),.map (some U.size)]) λv3 z3 P hb=>⟨((e1.trans e2).trans P).bX h.hd id,?_⟩⟩⟩;have s2:=e2.1;exact key _ v3 cH U.size v2.size ((e1.trans e2).trans P) (aH.aF (aH.mono B λq d K=>⟨O,O,O,O⟩) P) O O O O O ((e2.trans P).fC (M .i64 .p) id) hb
end Go.Ar
namespace Go.Ar
open Go Go.Vc Go.Proofs Go.Shelf
variable {U u w w':Hp}{F B P Q:Rg}{n:Nat}{cs:List Value}{tb:List cD}{cf:Cf}{H:Hw}{L:dS}
theorem R4 {m:Nat}{B:List (Int×Bk)}(hm:dD U m .i64 (.ag 4) B){R:Option Nat->Hp->Prop}
 (hR:∀σ',σ'.size=U.size+1->aG U σ'->dD σ' U.size .i64 (.ag 4) B->R (some U.size) σ'):ZP.c (some m) U R:=by
 rintro w rfl;obtain⟨d,b,g,a⟩:=hm;refine(AnyW.maps_Clone Tryz.rK m d b w g).mono ?_;rintro e i ⟨rfl,rfl⟩;refine⟨⟨rfl,rfl,rfl,oT (by show _<(w.heap.push _).size;simp)⟩,[.map (some w.heap.size)],rfl,some w.heap.size,rfl,hR _ (by show(w.heap.push _).size=_;simp) (Ext.push _ _ _) ⟨d,b,?_,a⟩⟩;show(w.heap.push _)[_]?=_;simp
theorem nG {S:aP}{b i:Nat}{cs:List Value}{c:CK}{y:c.T}(hS:∀m,S m->bY m b cs)(hc:cs[i]?=some (c.v y)){K:c.T->Prop}(hK:K y):fR S c (Addr.add ⟨b,0,none⟩ i) K:=
 ⟨y,λm a=>by rw[add_lit,(hS m a).cell,zG];exact hc,hK⟩
theorem pB {S:aP}{b i j:Nat}{cs:List Value}{c:CK}{y:c.T}(hS:∀m,S m->bY m b cs)(hc:cs[i+j]?=some (c.v y)){K:c.T->Prop}(hK:K y):fR S c (Addr.add (Addr.add ⟨b,0,none⟩ i) j) K:=
 ⟨y,λm a=>by rw[add_lit,add_lit,(hS m a).cell,zG];exact hc,hK⟩
structure NG (U:Hp) (B:Rg) (w:Hp) (P:Rg) (C:iq->Hp->Rg->Prop):Prop where
 sep:Sep C w P
 lc:∀i,dH (C i)
 e:aG U w
 p:∀b,P b->U.size<=b/\¬B b/\b<w.size
 b:∀b,B b->U.size<=b/\b<w.size
variable {C C':iq->Hp->Rg->Prop}
theorem NG.fr (K:NG U B w P C)(e:aG w w'):NG U B w' P C:=
 ⟨(Sep.loc K.lc).aF K.sep e,K.lc,K.e.trans e,λb a=>⟨(K.p b a).1,(K.p b a).2.1,by have:=(K.p b a).2.2;have:=e.1;omega⟩,λb a=>by have:=K.b b a;have:=e.1;omega⟩
theorem NG.box (K:NG U B w P C)(e:aG w w')(hz:w.size<w'.size):NG U (λb=>B b\/b=w.size) w' P C:=by
 have h:=K.fr e;have i:=K.e.1;exact⟨h.sep,h.lc,h.e,λb a=>⟨(K.p b a).1,λg=>g.elim (K.p b a).2.1 λd=>by have:=(K.p b a).2.2;omega,(h.p b a).2.2⟩,λb a=>a.elim (h.b b) λd=>O⟩
theorem NG.drop (K:NG U B w P C){B':Rg}(hb:∀b,B' b->B b):NG U B' w P C:=⟨K.sep,K.lc,K.e,λb h=>⟨(K.p b h).1,λa=>(K.p b h).2.1 (hb b a),(K.p b h).2.2⟩,λb h=>K.b b (hb b h)⟩
theorem NG.own (K:NG U B w P C)(e:Ext (· = n) w w')(hn:B n):NG U B w' P C:=by
 have a:=K.b n hn;refine⟨(Sep.loc K.lc).bV K.sep e λb _ hp (d:b=n)=>(K.p b hp).2.1 (d▸hn),K.lc,Ext.fresh K.e e λi (g:i=n)=>O,λb a=>⟨(K.p b a).1,(K.p b a).2.1,by have:=(K.p b a).2.2;have:=e.1;omega⟩,λb a=>by have:=K.b b a;have:=e.1;omega⟩
theorem NG.imp (K:NG U B w P C)(h:∀i v F,C i v F->C' i v F)(lc':∀i,dH (C' i)):NG U B w P C':=⟨by obtain⟨ρ,a⟩:=K.sep;exact⟨ρ,λi=>h i _ _ (a i)⟩,lc',K.e,K.p,K.b⟩
theorem NG.put (K:NG U B w P C)(e:aG w w')(i:iq)(hj:∀j,j≠i->C' j=C j)(hi:C' i w' (λb=>w.size<=b))(lc':∀i,dH (C' i)):NG U B w' (λb=>P b\/w.size<=b/\b<w'.size) C':=by
 have h:=K.fr e;have g:=K.e.1;refine⟨h.sep.put K.lc i (G:=λb=>w.size<=b/\b<w'.size) (λb a hp=>by have:=(K.p b hp).2;omega) hj ((lc' i).mono hi λb a d=>⟨d,a⟩) (lc' i),lc',h.e,λb a=>?_,h.b⟩;rcases a with a|a
 ·exact h.p b a
 ·exact⟨O,λd=>by have:=(K.b b d).2;omega,a.2⟩
theorem NG.step (K:NG U B w P C)(i:iq):∃G:Rg,(∀b,G b->P b)/\C i w G/\(∀j,j≠i->∃D:Rg,(∀b,D b->¬G b)/\C j w D)/\∀(w':Hp) (C':iq->Hp->Rg->Prop) (G':Rg),(∀j,j≠i->C' j=C j)->(∀i,dH (C' i))->Ext G w w'->(∀b,G' b->G b\/w.size<=b/\¬B b)->C' i w' G'->(∀b,B b->b<w'.size) →
 NG U B w' (λb=>(P b/\¬G b\/G' b)/\b<w'.size) C':=by
 obtain⟨G,u,z,r,s⟩:=K.sep.jx K.lc i;refine⟨G,u,z,λj x=>(by obtain⟨D,_,g,F⟩:=r j x;exact⟨D,g,F⟩),λw' C' G' x d e y A E=>⟨?_,d,?_,λb a=>?_,λb a=>⟨(K.b b a).1,E b a⟩⟩⟩
 ·have:=s w' C' G' x e (λb a=>(y b a).imp id λm=>m.1) A (d _);refine(Sep.loc d).mono this λb a m=>⟨?_,a⟩;exact m.imp (λm=>⟨m.1,m.2.2⟩) id
 ·exact Ext.eY K.e e λb a=>.inr (K.p b (u b a)).1
 ·have H:=K.e.1;rcases a.1 with h1|h1
  ·exact⟨(K.p b h1.1).1,(K.p b h1.1).2.1,a.2⟩
  ·rcases y b h1 with g|g
   ·exact⟨(K.p b (u b g)).1,(K.p b (u b g)).2.1,a.2⟩
   ·exact⟨O,g.2,a.2⟩
structure tx where
 p:Nat
 cH:Sl
 lm:Nat
 hs:Nat
 aw:Sl
 al:List Nat
 ha:Sl
 tw:Sl
 tl:List Value
 ht:Sl
 ys:List Lay
 bT:List AR
 ts:List dQ
 bQ:List Th
def mF (cf:Cf)(N:tx):List Value:=[.slice N.cH.a N.cH.len N.cH.cap,.int .i64 (cf.bK:Int),.int .i64 (cf.gS:Int),.int .i64 (cf.threads:Int),.int .i64 (cf.cT:Int),.int .i64 (cf.room:Int),
 .pointer (some ⟨N.hs,0,none⟩),.slice N.ha.a N.ha.len N.ha.cap,.slice N.ht.a N.ht.len N.ht.cap,.map (some N.lm)]
def hU (tb:List cD)(cf:Cf)(sp:Sp)(live:List (Int×Bk))(N:tx):iq->Hp->Rg->Prop
 | .hd=>gR N.p (mF cf N)
 | .cH=>cS N.cH 3 (fB tb)
 | .sp=>λU F=>cZ U F N.hs sp
 | .eT=>bR N.aw 1 (eB N.al)
 | .cK=>bR N.tw 3 N.tl
 | .live=>iT N.lm .i64 (.ag 4) live
 | .ar k=>lX N.ys[k]? N.bT[k]?
 | .ca t=>lW N.ts[t]? N.bQ[t]? tb cf.cT
 | .hn t=>lq N.ts[t]? N.bQ[t]?
variable {sp:Sp}{live:List (Int×Bk)}{N N':tx}
theorem hU.loc:∀i,dH (hU tb cf sp live N i)
 | .hd=>gR.loc _ _
 | .cH=>cS.loc _ _ _
 | .sp=>cZ.loc
 | .eT=>bR.loc _ _ _
 | .cK=>bR.loc _ _ _
 | .live=>iT.loc _ _ _ _
 | .ar k=>lX.loc _ _
 | .ca t=>lW.loc _ _ _ _
 | .hn t=>lq.loc _ _
def ri (tb:List cD)(cf:Cf)(sp:Sp)(live:List (Int×Bk))(N N':tx):iq->Hp->Rg->Prop
 | .hn t=>hU tb cf sp live N (.hn t)
 | .hd=>hU tb cf sp live N' .hd
 | .cH=>hU tb cf sp live N' .cH
 | .sp=>hU tb cf sp live N' .sp
 | .eT=>hU tb cf sp live N' .eT
 | .cK=>hU tb cf sp live N' .cK
 | .live=>hU tb cf sp live N' .live
 | .ar k=>hU tb cf sp live N' (.ar k)
 | .ca k=>hU tb cf sp live N' (.ca k)
theorem ri.loc:∀i,dH (ri tb cf sp live N N' i)
 | .hn t=>lq.loc _ _
 | .hd=>gR.loc _ _
 | .cH=>cS.loc _ _ _
 | .sp=>cZ.loc
 | .eT=>bR.loc _ _ _
 | .cK=>bR.loc _ _ _
 | .live=>iT.loc _ _ _ _
 | .ar k=>lX.loc _ _
 | .ca t=>lW.loc _ _ _ _
theorem NG.tO (K:NG U B w P (hU tb cf sp live N)):P N.p/\bY w N.p (mF cf N):=by
 obtain⟨G,b,a⟩:=K.sep.get .hd;exact⟨b _ a.1,a.2⟩
theorem NG.m6 (K:NG U B w P (hU tb cf sp live N))(N':tx)(hN':∀j,j≠.hd->hU tb cf sp live N' j=hU tb cf sp live N j)(hp:N'.p=N.p){i:Nat}{v:Value}(hs:(mF cf N).set i v=mF cf N')(hi:i<10){Kk:aP}(hK:∀w' P',NG U B w' P' (hU tb cf sp live N')->QT w w' N.p->Kk w'):eP (Addr.add ⟨N.p,0,none⟩ i) v w Kk:=by
 obtain⟨G,m,d,_,a⟩:=K.step .hd;have d:gR N.p (mF cf N) w G:=d;refine d.2.s1 (by simpa[mF]using hi) λw' o g=>hK w' _ (a w' (hU tb cf sp live N') G hN' hU.loc (o.ext.sub λx e=>by rw[e];exact d.1) (λx e=>.inl e) ?_ λx e=>by have:=(K.b x e).2;have:=o.1;omega) o;show gR N'.p (mF cf N') w' G;rw[zG,hs]at g;rw[hp];exact⟨d.1,g⟩
theorem NG.nh (K:NG U B w P (hU tb cf sp live N)){G:Rg}(hd:∃D:Rg,(∀b,D b->¬G b)/\hU tb cf sp live N .hd w D):¬G N.p:=by
 obtain⟨D,d,a⟩:=hd;have a:gR N.p (mF cf N) w D:=a;exact d _ a.1
def Fh (l bs:List AR):Prop:=bs.length=l.length/\∀(k:Nat) B,bs[k]?=some B->∃A rs,l[k]?=some A/\rs.Perm A.runs/\B = {A with runs:=rs}
theorem gC.OR {s:Sl}{bs:List Bt}{x:Bt}{i:Nat}(hb:gC s bs U F)(hx:bs[i]?=some x){K:Addr->Prop}(hK:∀(so:Sl) a,cS so 1 (Wu x.2) U F->so.len=x.2.length->x.2≠[]->cell U (a.add 0)=some (.int .i64 (x.1:Int))->cell U (a.add 1)=some (.slice so.a so.len so.cap)->K a):Ix s.a s.len (i:Int) 2 K:=by
 have m:=hb;obtain⟨r,D,z,g,C,_,j⟩:=m;have w:=(cV.1 hx).1;have hp:r[i]?=some (r[i]'(by rw[g.1];exact w)):=cQ _;generalize (r[i]'(by rw[g.1];exact w))=p at hp;obtain⟨e1,y,_⟩:=g.2 i p x hp hx;have J:=hb.len;obtain⟨b,o,A,E⟩:=z.fM.cell (CU hp (d:=0) O);obtain⟨H,G,e,B⟩:=z.fM.cell (CU hp (d:=1) O);rw[A]at e;cases e;rw[A];refine ix O O ?_;rw[add_lit];have u:p.2.len=x.2.length:=by have:=y.1;simp[Wu]at this;omega
 refine hK p.2 _ (aH.mono y λb _ hb=>C b hb) u (j x (zE hx)) ?_ ?_
 ·rw[add_lit,show o+(i:Int).toNat*2+0=o+(2*i+0) by omega,E,←e1]
 ·rw[add_lit,show o+(i:Int).toNat*2+1=o+(2*i+1) by omega,B]
theorem gC.one {nb k:Nat}{so:Sl}{xs:List Int}{D:Rg}(hb:bY w nb [.int .i64 (k:Int),.slice so.a so.len so.cap])(hs:cS so 1 (Wu xs) w D)(hc:so.len<=so.cap)(hne:xs≠[])(hD:¬D nb):gC ⟨some ⟨nb,0,none⟩,1,1⟩ [(k,xs)] w (λb=>D b\/b=nb):=by
 refine⟨[(k,so)],D,⟨rfl,.inr ⟨nb,0,_,⟨.inr rfl,hD⟩,rfl,hb,zC _,rfl,rfl⟩⟩,⟨rfl,λi p x hp d=>?_⟩,λb hb=>.inl hb,Df _ _,λx d=>by rw[zZ]at d;subst d;exact hne⟩
 match i,hp,d with
 | 0,hp,d=>
  simp only[uz,Option.some.injEq]at hp d;subst hp d;exact⟨rfl,hs,hc⟩
 | i+1,hp,_=>simp at hp
theorem JP:∀{ts:List dQ} {bQ:List Th} {x:dQ} {g:Th},ts.length=bQ.length->gI (ts++[x]) (bQ++[g])=gI ts bQ++iF (x,g)
 | [],[],_,_,_=>rfl
 | y::ts,h::bQ,x,g,e=>by
  have e1:gI ((y::ts)++[x]) ((h::bQ)++[g])=iF (y,h)++gI (ts++[x]) (bQ++[g]):=rfl;have e2:gI (y::ts) (h::bQ)=iF (y,h)++gI ts bQ:=rfl;rw[e1,e2,JP (by simpa using e),zm]
 | [],_::_,_,_,e=>by simp at e
 | _::_,[],_,_,e=>by simp at e
theorem EK (p:Option Ph){A:Prop}(h:A):O1 (j9 p) A:=by
 cases p with
 | none=>exact h
 | some p=>cases p<;>exact h
end Go.Ar
namespace Go.Ar
open Go Go.Vc Go.Proofs
variable {U u w w':Hp}{F B P Q:Rg}{n:Nat}{cs:List Value}{tb:List cD}{cf:Cf}{H:Hw}{L:dS}{C C':iq->Hp->Rg->Prop}{sp:Sp}{live:List (Int×Bk)}{N N':tx}
theorem Mh {Y:Lay}{A:AR}(hy:N'.ys=N.ys++[Y])(ha:N'.bT=N.bT++[A])(hl:N.ys.length=N.bT.length)(hr:∀j,(∀k,j≠.ar k)->hU tb cf sp live N' j=hU tb cf sp live N j):∀j,j≠iq.ar N.ys.length->hU tb cf sp live N' j=hU tb cf sp live N j:=by
 intro j hj;cases j with
 | ar k=>
  have a:k≠N.ys.length:=λe=>hj (by rw[e]);show lX N'.ys[k]? N'.bT[k]?=lX N.ys[k]? N.bT[k]?;rw[hy,ha];rcases wO a with h1|h1
  ·rw[zQ h1,zQ O]
  ·rw[zO aE,zO (l:=N.ys) O];rfl
 | _=>exact hr _ (λk e=>by cases e)
theorem VH {α:Type}(l:List α)(x:α):(l++[x])[l.length]?=some x:=by
 rw[zg (zC _),mI];rfl
def Nc (p:Nat)(cH:Sl)(lm hs:Nat)(aw:Sl)(ys:List Lay)(bT:List AR)(tw:Sl)(ts:List dQ)(bQ:List Th):tx:=⟨p,cH,lm,hs,aw,ys.map (·.p),aw,tw,gI ts bQ,tw,ys,bT,ts,bQ⟩
theorem Dz {K:eR [.ad]}{body:eR [.ad]->Prop}(P:Addr->Hp->Prop)(h1:∀r w,P r w->K r w)(h2:∀J:eR [.ad],(∀r w,P r w->J r w)->body J):Jn [.ad] K body:=Jn.intro (h2 K h1)
theorem IK (p:Option Ph):iM (j9 p):=by
 cases p with
 | none=>exact .inl rfl
 | some p=>right;cases p<;>exact⟨_,_,rfl⟩
set_option maxRecDepth 16000 in
theorem MO (h:HH U F L H)(hcap:∀g∈H.bQ,g.bP.length<=41/\∀b∈g.bP,b.2.length<=256){R:Option Addr->Hp->Prop}
 (hR:∀σ' L' ars',aG U σ'->HH σ' (λq=>U.size<=q) L' {H with bT:=ars'}->Fh H.bT ars'->R (some ⟨L'.p,0,none⟩) σ'):Zq.c (aW L.p) U R:=by
 refine Zq.o ?_;unfold Zq.v;refine QP h (bZ rfl ?_);have hS:∀m,aG U m->bY m L.p (qI L H.cf):=λm e=>e.bX h.hd id;refine⟨λm=>aG U m,Ext.refl _ _,bO (nG (c:=.s) (y:=L.cH) hS rfl (bO (pB (c:=bN) (y:=(H.cf.bK:Int)) hS rfl (pB (c:=bN) (y:=(H.cf.gS:Int)) hS rfl (pB (c:=bN) (y:=(H.cf.threads:Int)) hS rfl (pB (c:=bN) (y:=(H.cf.cT:Int)) hS rfl (pB (c:=bN) (y:=(H.cf.room:Int)) hS rfl (bO (nG (c:=.p) (y:=some ⟨L.hs,0,none⟩) hS rfl (bO (nG (c:=.m) (y:=some L.lm) hS rfl ?_)))))))))))⟩;have h40:=h.ov;refine Ur h.iW h40 λcH v1 e1 htab=>⟨e1,NA (h.aF e1).By λv2 hs e2 hhs hsp=>⟨e1.trans e2,R4 (h.aF (e1.trans e2)).jd λv3 z3 e3 hm3=>⟨(e1.trans e2).trans e3,?_⟩⟩⟩;have s1:=e1.1;have s2:=e2.1;refine nw (cs:=mF H.cf ⟨v3.size,cH,v2.size,hs,eA,[],eA,eA,[],eA,[],[],[],[]⟩) λv4 z4 e4 hb4=>⟨((e1.trans e2).trans e3).trans e4,?_⟩;have E4:=((e1.trans e2).trans e3).trans e4;have K4:NG U (λ_=>False) v4 (λb=>U.size<=b/\b<v4.size) (hU H.tb H.cf H.sp H.live (Nc v3.size cH v2.size hs eA [] [] eA [] [])):=by
  refine⟨⟨λb=>if b=v3.size then .hd else if b=v2.size then .live else if v1.size<=b then .sp else .cH,λi=>?_⟩,hU.loc,E4,λb d=>⟨d.1,id,d.2⟩,λb d=>d.elim⟩
  cases i with
  | hd=>exact⟨⟨⟨(show U.size<=v3.size by omega),(show v3.size<v4.size by omega)⟩,zB rfl⟩,hb4⟩
  | live=>exact⟨⟨⟨(show U.size<=v2.size by omega),(show v2.size<v4.size by omega)⟩,by show(if v2.size=v3.size then iq.hd else if v2.size=v2.size then iq.live else if v1.size<=v2.size then iq.sp else iq.cH)=.live;rw[zA O,zB rfl]⟩,e4.fC hm3 id⟩
  | sp=>
   refine cZ.loc.mono (cZ.loc.aF (cZ.loc.mono hsp (G:=λb=>v1.size<=b/\b<v2.size) λb d hf=>⟨hf,d⟩) (e3.trans e4)) λb _ d=>⟨⟨O,O⟩,?_⟩;show(if b=v3.size then iq.hd else if b=v2.size then iq.live else if v1.size<=b then iq.sp else iq.cH)=.sp
   rw[zA O,zA O,zB d.1]
  | cH=>
   refine aH.mono (aH.aF (aH.mono htab (G:=λb=>U.size<=b/\b<v1.size) λb d hf=>⟨hf,d⟩) ((e2.trans e3).trans e4)) λb _ d=>⟨⟨O,O⟩,?_⟩;show(if b=v3.size then iq.hd else if b=v2.size then iq.live else if v1.size<=b then iq.sp else iq.cH)=.cH
   rw[zA O,zA O,zA O]
  | eT=>exact bR.nil _ _ _ _
  | cK=>exact bR.nil _ _ _ _
  | ar k=>trivial
  | ca k=>trivial
  | hn k=>trivial
 generalize v3.size=p at *;generalize v2.size=lm at *;have ha2:=h.s.a2;have ht2:=h.s.t2;have h4:=h.aF E4;refine bO (h4.hd.rS rfl ?_);refine Zw (a:=bN) (λ(z:Int) w=>∃(P:Rg) (aw:Sl) (ys:List Lay) (bT:List AR),z=(ys.length:Int)/\ys.length<=H.bT.length/\bT.length=ys.length/\(∀Y∈ys,Y.hs=hs)/\(∀(k:Nat) B,bT[k]?=some B->∃A rs,H.bT[k]?=some A/\rs.Perm A.runs/\B = {A with runs:=rs})/\NG U (λ_=>False) w P (hU H.tb H.cf H.sp H.live (Nc p cH lm hs aw ys bT eA [] []))) (λz _=>H.bT.length-z.toNat)
  ⟨_,eA,[],[],rfl,by simp,rfl,by simp,by simp,K4⟩ ?_
 rintro(z:Int) w5 ⟨P5,aw,ys,bT,rfl,hyl,hal,hyh,hrn,K5⟩;have h5:=h.aF K5.e;have harl:=h5.jZ;refine cL (λhlt=>?_) λhge=>?_
 ·have hlt':ys.length<H.bT.length:=by simp only at hlt;omega
  have hA:H.bT[ys.length]?=some H.bT[ys.length]:=cQ _;generalize H.bT[ys.length]=A at hA;obtain⟨Y,hy,hYh,hAY⟩:=h5.ar hA;refine h5.rA hy ?_;have ab:=K5.tO.2;refine⟨λm=>bY m p (mF H.cf (Nc p cH lm hs aw ys bT eA [] [])),ab,bO (nG (c:=.s) (y:=aw) (λm X=>X) rfl (bO (nG (c:=.p) (y:=some ⟨hs,0,none⟩) (λm X=>X) rfl ?_)))⟩;obtain⟨GS,hGS,hS5⟩:=K5.sep.get .sp;have hS5:cZ w5 GS hs H.sp:=hS5;have hSo:cZ w5 F Y.hs H.sp:=by rw[hYh];exact h5.By
  refine RU hAY hSo hS5 (λhne=>absurd rfl hne) λ_ v6 Yn rs e6 hYn hpm hAn=>⟨e6.bX ab id,?_⟩;refine nw (cs:=[.pointer (some ⟨Yn.p,0,none⟩)]) λv7 z7 e7 hb7=>⟨(e6.trans e7).bX ab id,?_⟩;have K6:NG U (λ_=>False) v6 _ (hU H.tb H.cf H.sp H.live {Nc p cH lm hs aw ys bT eA [] []with ys:=ys++[Yn],bT:=bT++[{A with runs:=rs}]}):=K5.put e6 (.ar ys.length) (Mh (N:=Nc p cH lm hs aw ys bT eA [] []) rfl rfl hal.symm (λj hj=>by
   cases j with
   | ar k=>exact absurd rfl (hj k)
   | _=>rfl)) (by
   show lX (ys++[Yn])[ys.length]? (bT++[{A with runs:=rs}])[ys.length]? v6 _;rw[VH,←hal,VH];exact hAn) hU.loc
  have K7:=K6.box e7 O;obtain⟨G,hG,r,hdis,aa⟩:=K7.step .eT;have r:bR aw 1 (eB (ys.map (·.p))) v7 G:=r;have hpG:=K7.nh (hdis .hd (by intro e;cases e));have hawl:aw.len=ys.length:=by have:=r.1;simp[eB]at this;omega
  refine r.app (ys:=[.pointer (some ⟨Yn.p,0,none⟩)]) rfl rfl ?_ (by simp[dJ]) ?_ ?_ mu λs' v8 _ e8 hr8=>?_
  ·intro j x C;rw[add_lit,zG,hb7.cell];exact C
  ·simp only;omega
  ·simp only;omega
  have hz8:=e8.1;refine⟨e8.bX ((e6.trans e7).bX ab id) hpG,?_⟩;have K8:=(aa v8 (hU H.tb H.cf H.sp H.live {Nc p cH lm hs aw ys bT eA [] []with ys:=ys++[Yn],bT:=bT++[{A with runs:=rs}],aw:=s',al:=(ys++[Yn]).map (·.p)}) (λb=>Grow G v7 b/\b<v8.size) (λj hj=>by cases j<;>first|rfl|exact absurd rfl hj) hU.loc e8 (λb d=>d.1.imp id λC=>⟨C,λQ=>by have:=(K7.b b Q).2;omega⟩) (by
   show bR s' 1 (eB ((ys++[Yn]).map (·.p))) v8 _;have:eB ((ys++[Yn]).map (·.p))=eB (ys.map (·.p))++[.pointer (some ⟨Yn.p,0,none⟩)]:=by simp[eB]
   rw[this];exact aI.mono hr8 λb d C=>⟨C,d⟩) λb Q=>by have:=(K7.b b Q).2;omega).drop (B':=λ_=>False) λb d=>d.elim
  refine bO (K8.m6 (Nc p cH lm hs s' (ys++[Yn]) (bT++[{A with runs:=rs}]) eA [] []) (λj hj=>by cases j<;>first|rfl|exact absurd rfl hj) rfl (i:=7) rfl O λv9 P9 K9 o9=>?_)
  exact cC (m:=ys.length+1) O O ⟨⟨P9,s',ys++[Yn],bT++[{A with runs:=rs}],by simp,by simp;omega,by simp[hal],λZ hZ=>(zS.1 hZ).elim (hyh Z) λh=>by
   rw[zZ]at h;rw[h];exact hYn,λk B Q=>by
   rcases zq k bT.length with u|u
   ·rw[zQ u]at Q;exact hrn k B Q
   ·rw[zg u]at Q;have hk0:k-bT.length=0:=by have:=(cV.1 Q).1;simp at this;omega
    rw[hk0]at Q;simp only[uz,Option.some.injEq]at Q;subst Q;have:k=ys.length:=by omega
    subst this;exact⟨A,rs,hA,hpm,rfl⟩,K9⟩,O⟩
 have hya:ys.length=H.bT.length:=by simp only at hge;omega
 have hfin:∀{w:Hp} {P:Rg} {tw:Sl} {ts:List dQ},ts.length=H.bQ.length->NG U (λ_=>False) w P (hU H.tb H.cf H.sp H.live (Nc p cH lm hs aw ys bT tw ts H.bQ))->R (some ⟨p,0,none⟩) w:=λ{w P tw ts} htl K=>by
  have hN:jk (λb=>U.size<=b)/\¬U.size<=1:=h.mf;have hrl:Fh H.bT bT:=⟨O,hrn⟩;refine hR w ⟨p,hs,lm,cH,aw,tw,ys,ts⟩ bT K.e ⟨⟨by show ys.length=bT.length;omega,hyh,htl,by show 1<=bT.length;have:=h.s.a1;omega,by show bT.length<=4;omega,h.s.t1,h.s.t2,λA hA=>?_⟩,?_,h.g.aF K.e,h.gd.aF K.e,hN.1,hN.2⟩ hrl
  ·obtain⟨k,u⟩:=zN hA;obtain⟨A0,rs,h1,_,rfl⟩:=hrn k A u;exact h.s.tb A0 (zE h1)
  ·refine(Sep.loc CH.loc).mono (G:=λq=>U.size<=q) ?_ λb _ d=>d;obtain⟨ρ,hss⟩:=(Sep.loc hU.loc).mono K.sep (G:=λq=>U.size<=q) λb _ d=>(K.p b d).1;refine⟨ρ,λi=>?_⟩;have V:=hss i;cases i with
   | eT=>exact bR.fM V
   | _=>exact V
 refine bO (h5.hd.rS rfl ?_);refine Zw (a:=bN) (λ(z:Int) w=>∃(P:Rg) (tw:Sl) (ts:List dQ),z=(ts.length:Int)/\ts.length<=H.bQ.length/\NG U (λ_=>False) w P (hU H.tb H.cf H.sp H.live (Nc p cH lm hs aw ys bT tw ts (H.bQ.take ts.length)))) (λz _=>H.bQ.length-z.toNat)
  ⟨P5,eA,[],rfl,by simp,K5⟩ ?_
 rintro(z:Int) w6 ⟨P6,tw,ts,rfl,htl,K6⟩;have h6:=h.aF K6.e;have htrl:=h6.jb;have E:(H.bQ.take ts.length).length=ts.length:=by rw[zL];omega
 refine cL (λhlt=>?_) λhge=>?_
 ·have hlt':ts.length<H.bQ.length:=by simp only at hlt;omega
  obtain⟨x,g,C,hg⟩:=h6.th hlt';obtain⟨hc41,hc256⟩:=hcap g (zE hg);have hca:=h.Pj C hg;have hhn:=h.NX C hg;refine h6.DC C hg λv7 e7 hz7 b7=>?_;have K7:=K6.box e7 hz7;refine Dz (λvy w=>∃nb,vy=⟨nb,0,none⟩/\∃Yc P',NG U (λb=>b=w6.size\/b=nb) w P' (hU H.tb H.cf H.sp H.live {Nc p cH lm hs aw ys bT tw ts (H.bQ.take ts.length)with ts:=ts++[⟨Yc,eA⟩],bQ:=H.bQ.take ts.length++[⟨g.ls,[],g.ph⟩]})/\bY w w6.size (iF (x,g))/\bY w nb [.pointer (some ⟨Yc.p,0,none⟩),.slice none 0 0,j9 g.ph]/\nb≠w6.size) (λvy w8 ⟨nb,hvy,Yc,P8,K8,b8,d8,hnb⟩=>?_) λJ hJ=>?_
  ·subst hvy;have hhl:=hhn.len;refine b8.rS rfl (Zw (a:=bN) (λ(z:Int) w=>∃(j:Nat) (sl:Sl) (P:Rg),z=j/\j<=g.bP.length/\NG U (λb=>b=w6.size\/b=nb) w P (hU H.tb H.cf H.sp H.live {Nc p cH lm hs aw ys bT tw ts (H.bQ.take ts.length)with ts:=ts++[⟨Yc,sl⟩],bQ:=H.bQ.take ts.length++[⟨g.ls,g.bP.take j,g.ph⟩]})/\bY w nb [.pointer (some ⟨Yc.p,0,none⟩),.slice sl.a sl.len sl.cap,j9 g.ph]) (λz _=>g.bP.length-z.toNat) ⟨0,eA,P8,rfl,O,by rw[wC];exact K8,d8⟩ ?_);rintro(z:Int) w9 ⟨j,sl,P9,rfl,hj,K9,d9⟩;refine cL (λhlt2=>?_) λhge2=>?_
   ·have hjl:j<g.bP.length:=by simp only at hlt2;omega
    have hb0:g.bP[j]?=some g.bP[j]:=cQ _;have htake:g.bP.take (j+1)=g.bP.take j++[g.bP[j]]:=by rw[zj,hb0];rfl
    generalize g.bP[j]=bt at hb0 htake;have hbl:=hc256 bt (zE hb0);refine gC.OR ((gC.loc _ _).aF hhn K9.e) hb0 λso a hso hsl hne c0 c1=>nL c0 (nR c1 ?_);refine nw (cs:=[.int .i64 0,.slice none 0 0]) λw10 z10 W ad=>ad.s1 aA λw11 ac b11=>b11.s1 aA λw12 S D=>?_;have K10:=((K9.box W O).own ac.ext (.inr rfl)).own S.ext (.inr rfl);have eo:Ext (· = w9.size) w10 w12:=ac.ext.trans S.ext;have e12:aG w9 w12:=Ext.fresh W eo λi (V:i=w9.size)=>by omega
    have d12:=e12.bX d9 id;have D:bY w12 w9.size [.int .i64 (bt.1:Int),.slice so.a so.len so.cap]:=D;refine⟨λm=>bY m nb [.pointer (some ⟨Yc.p,0,none⟩),.slice sl.a sl.len sl.cap,j9 g.ph]/\bY m w9.size [.int .i64 (bt.1:Int),.slice so.a so.len so.cap],⟨d12,D⟩,nG (c:=.s) (y:=sl) (λm X=>X.1) rfl (nG (c:=bN) (y:=(bt.1:Int)) (λm X=>X.2) rfl (nG (c:=.s) (y:=so) (λm X=>X.2) rfl ?_))⟩;refine Kz (aH.aF hso e12) KH O λs2 w13 hl2 M hr2=>⟨⟨M.bX d12 id,M.bX D id⟩,?_⟩;refine nw (cs:=[.int .i64 (bt.1:Int),.slice s2.a s2.len s2.cap]) λw14 z14 ae b14=>⟨⟨(M.trans ae).bX d12 id,(M.trans ae).bX D id⟩,?_⟩;obtain⟨G,hG,hh,hdis,aa⟩:=K10.step (.hn ts.length);have hsnoc:∀(s3:Sl) (l3:List Bt),lq (ts++[⟨Yc,s3⟩])[ts.length]? (H.bQ.take ts.length++[⟨g.ls,l3,g.ph⟩])[ts.length]?=gC s3 l3:=λs3 l3=>by
     rw[VH];have:(H.bQ.take ts.length++[(⟨g.ls,l3,g.ph⟩:Th)])[ts.length]?=some ⟨g.ls,l3,g.ph⟩:=by
      have:=VH (H.bQ.take ts.length) (⟨g.ls,l3,g.ph⟩:Th)
      rwa [E]at this
     rw[this];rfl
    have hh:gC sl (g.bP.take j) w12 G:=by rw[←hsnoc];exact hh
    have z13:=M.1;have hone:gC ⟨some ⟨w13.size,0,none⟩,1,1⟩ [bt] w14 (λb=>(w12.size<=b/\b<w13.size)\/b=w13.size):=
     gC.one (xs:=bt.2) b14 (aH.aF (aH.mono (bR.fM hr2) (G:=λb=>w12.size<=b/\b<w13.size) λb d hf=>⟨hf,d⟩) ae) (bR.oc hr2) hne O
    have hGl:∀b,G b->b<w12.size:=λb d=>(K10.p b (hG b d)).2.2;refine gC.app ((gC.loc _ _).aF hh (M.trans ae)) hone (λb hg hq=>by have:=hGl b hg;omega) (by rw[zL];simp only[wS];omega) λs4 w15 e15 hb15=>?_;have z15:=e15.1;have nG1:¬G nb:=λC=>(K10.p _ (hG _ C)).2.1 (.inl (.inr rfl));have nG2:¬G w9.size:=λC=>(K10.p _ (hG _ C)).2.1 (.inr rfl);have d15:=e15.bX ((M.trans ae).bX d12 id) nG1;refine⟨⟨d15,e15.bX ((M.trans ae).bX D id) nG2⟩,?_⟩;have K15:=aa w15 (hU H.tb H.cf H.sp H.live {Nc p cH lm hs aw ys bT tw ts (H.bQ.take ts.length)with ts:=ts++[⟨Yc,s4⟩],bQ:=H.bQ.take ts.length++[⟨g.ls,g.bP.take (j+1),g.ph⟩]}) (λb=>G b\/w12.size<=b/\b<w15.size) (λi V=>?_) hU.loc ((aG.to (M.trans ae)).trans e15) (λb d=>d.imp id λC=>⟨C.1,λQ=>by have:=(K10.b b Q).2;omega⟩) ?_ (λb Q=>by have:=(K10.b b Q).2;omega)
    ·refine d15.s1 aA λw16 o16 b16=>?_;have K16:=(K15.drop (B':=λb=>b=w6.size\/b=nb) λb d=>.inl d).own o16.ext (.inr rfl);exact cC (m:=j+1) O O ⟨⟨j+1,s4,_,rfl,O,K16,b16⟩,O⟩
    ·cases i with
     | ca k=>
      show lW (ts++[⟨Yc,s4⟩])[k]? (H.bQ.take ts.length++[⟨g.ls,g.bP.take (j+1),g.ph⟩])[k]? H.tb H.cf.cT=lW (ts++[⟨Yc,sl⟩])[k]? (H.bQ.take ts.length++[⟨g.ls,g.bP.take j,g.ph⟩])[k]? H.tb H.cf.cT;rcases pa k ts.length with u|u|u
      ·rw[zQ u,zQ u,zQ O,zQ O]
      ·subst u;have e1:=VH (H.bQ.take ts.length) (⟨g.ls,g.bP.take (j+1),g.ph⟩:Th);have e2:=VH (H.bQ.take ts.length) (⟨g.ls,g.bP.take j,g.ph⟩:Th);rw[E]at e1 e2;rw[VH,VH,e1,e2];rfl
      ·rw[zO aE,zO (l:=ts++[(⟨Yc,sl⟩:dQ)]) aE];rfl
     | hn k=>
      have u:k≠ts.length:=λe=>V (by rw[e]);show lq (ts++[⟨Yc,s4⟩])[k]? (H.bQ.take ts.length++[⟨g.ls,g.bP.take (j+1),g.ph⟩])[k]?=lq (ts++[⟨Yc,sl⟩])[k]? (H.bQ.take ts.length++[⟨g.ls,g.bP.take j,g.ph⟩])[k]?;rcases wO u with u|u
      ·rw[zQ u,zQ u,zQ O,zQ O]
      ·rw[zO aE,zO (l:=ts++[(⟨Yc,sl⟩:dQ)]) aE];rfl
     | _=>rfl
    ·show lq (ts++[⟨Yc,s4⟩])[ts.length]? (H.bQ.take ts.length++[⟨g.ls,g.bP.take (j+1),g.ph⟩])[ts.length]? w15 _;rw[hsnoc,htake];refine(gC.loc _ _).mono ((gC.loc _ _).cut hb15) λb d C=>?_;rcases C.1 with h1|h1|h1
     ·exact .inl h1
     ·exact .inr ⟨O,d⟩
     ·exact .inr ⟨O,d⟩
   ·have hjj:j=g.bP.length:=by simp only at hge2;omega
    subst hjj;rw[zy]at K9;have ab:=K9.tO.2;refine⟨λm=>bY m p (mF H.cf (Nc p cH lm hs aw ys bT tw ts (H.bQ.take ts.length)))/\bY m nb [.pointer (some ⟨Yc.p,0,none⟩),.slice sl.a sl.len sl.cap,j9 g.ph],⟨ab,d9⟩,bO (nG (c:=.s) (y:=tw) (λm X=>X.1) rfl (nG (c:=.p) (y:=some ⟨Yc.p,0,none⟩) (λm X=>X.2) rfl (nG (c:=.s) (y:=sl) (λm X=>X.2) rfl (nG (c:=.raw) (y:=j9 g.ph) (λm X=>X.2) rfl ?_))))⟩;refine nw (cs:=iF (⟨Yc,sl⟩,g)) λw10 z10 W ad=>⟨⟨W.bX ab id,W.bX d9 id⟩,?_⟩;have K10:=K9.box W O;obtain⟨G,hG,r,hdis,aa⟩:=K10.step .cK;have r:bR tw 3 (gI ts (H.bQ.take ts.length)) w10 G:=r;have hpG:=K10.nh (hdis .hd (by intro e;cases e));have htwl:tw.len=ts.length:=by have:=r.1;rw[HN E.symm,E]at this;omega
    have nG1:¬G nb:=λC=>(K10.p _ (hG _ C)).2.1 (.inl (.inr rfl));refine r.app (ys:=iF (⟨Yc,sl⟩,g)) rfl rfl ?_ (λv hv=>?_) ?_ ?_ mu λs' w11 _ e11 hr11=>?_
    ·intro i y hy;rw[add_lit,zG,ad.cell];exact hy
    ·simp only[iF,zW,yj,or_false]at hv;rcases hv with rfl|rfl|rfl
     ·rfl
     ·rfl
     ·exact TW _
    ·simp only;omega
    ·simp only;omega
    have z11:=e11.1;refine⟨⟨e11.bX (W.bX ab id) hpG,e11.bX (W.bX d9 id) nG1⟩,?_⟩;have hthk:H.bQ.take (ts++[(⟨Yc,sl⟩:dQ)]).length=H.bQ.take ts.length++[g]:=by
     rw[zR,wS,zj,hg];rfl
    have hgE:(⟨g.ls,g.bP,g.ph⟩:Th)=g:=rfl;have K11:=(aa w11 (hU H.tb H.cf H.sp H.live {Nc p cH lm hs aw ys bT tw ts (H.bQ.take ts.length)with ts:=ts++[⟨Yc,sl⟩],bQ:=H.bQ.take ts.length++[g],tw:=s',tl:=gI (ts++[⟨Yc,sl⟩]) (H.bQ.take ts.length++[g])}) (λb=>Grow G w10 b/\b<w11.size) (λi V=>by cases i<;>first|rfl|exact absurd rfl V) hU.loc e11 (λb d=>d.1.imp id λC=>⟨C,λQ=>by have:=(K10.b b Q).2;omega⟩) (by
     show bR s' 3 (gI (ts++[⟨Yc,sl⟩]) (H.bQ.take ts.length++[g])) w11 _;rw[JP E.symm];exact aI.mono hr11 λb d C=>⟨C,d⟩) λb Q=>by have:=(K10.b b Q).2;omega).drop (B':=λ_=>False) λb d=>d.elim
    refine bO (K11.m6 (Nc p cH lm hs aw ys bT s' (ts++[⟨Yc,sl⟩]) (H.bQ.take ts.length++[g])) (λi V=>by cases i<;>first|rfl|exact absurd rfl V) rfl (i:=8) rfl O λw12 P12 K12 S=>?_)
    exact cC (m:=ts.length+1) O O ⟨⟨P12,s',ts++[⟨Yc,sl⟩],by simp,by simp;omega,by rw[hthk];exact K12⟩,O⟩
  ·have bS:∀m,aG v7 m->bY m w6.size (iF (x,g)):=λm e=>e.bX b7 id;have putC:∀{B:Rg} {wa wb:Hp} {Pa:Rg} {Yc:gQ},NG U B wa Pa (hU H.tb H.cf H.sp H.live (Nc p cH lm hs aw ys bT tw ts (H.bQ.take ts.length)))->aG wa wb->dY wb (λq=>wa.size<=q) Yc H.tb H.cf.cT g.ls →
    NG U B wb (λb=>Pa b\/wa.size<=b/\b<wb.size) (hU H.tb H.cf H.sp H.live {Nc p cH lm hs aw ys bT tw ts (H.bQ.take ts.length)with ts:=ts++[⟨Yc,eA⟩],bQ:=H.bQ.take ts.length++[⟨g.ls,[],g.ph⟩]}):=λ{B wa wb Pa Yc} K e hC=>by
    have e2:=VH (H.bQ.take ts.length) (⟨g.ls,[],g.ph⟩:Th);rw[E]at e2;refine(K.put e (.ca ts.length) (C':=ri H.tb H.cf H.sp H.live (Nc p cH lm hs aw ys bT tw ts (H.bQ.take ts.length)) {Nc p cH lm hs aw ys bT tw ts (H.bQ.take ts.length)with ts:=ts++[⟨Yc,eA⟩],bQ:=H.bQ.take ts.length++[⟨g.ls,[],g.ph⟩]}) (λi V=>?_) ?_ ri.loc).imp (λi v F V=>?_) hU.loc
    ·cases i with
     | ca k=>
      have u:k≠ts.length:=λe=>V (by rw[e]);show lW (ts++[⟨Yc,eA⟩])[k]? (H.bQ.take ts.length++[⟨g.ls,[],g.ph⟩])[k]? H.tb H.cf.cT=lW ts[k]? (H.bQ.take ts.length)[k]? H.tb H.cf.cT;rcases wO u with u|u
      ·rw[zQ u,zQ O]
      ·rw[zO aE,zO (l:=ts) O];rfl
     | _=>rfl
    ·show lW (ts++[⟨Yc,eA⟩])[ts.length]? (H.bQ.take ts.length++[⟨g.ls,[],g.ph⟩])[ts.length]? H.tb H.cf.cT wb _;rw[VH,e2];exact hC
    ·cases i with
     | hn k=>
      have V:lq ts[k]? (H.bQ.take ts.length)[k]? v F:=V;show lq (ts++[⟨Yc,eA⟩])[k]? (H.bQ.take ts.length++[⟨g.ls,[],g.ph⟩])[k]? v F;rcases pa k ts.length with u|u|u
      ·rw[zQ u,zQ O];exact V
      ·subst u;rw[VH,e2];exact gC.nil _ _ _
      ·rw[zO aE];trivial
     | _=>exact V
   refine⟨λm=>aG v7 m,Ext.refl _ _,nG (c:=.p) (y:=some ⟨x.c.p,0,none⟩) bS rfl (nG (c:=.raw) (y:=j9 g.ph) bS rfl ⟨?_,?_⟩)⟩
   ·refine Im (hca.aF K7.e) λv8 Yc e8 hC=>⟨e8,IK _,?_⟩;have K8:=putC K7 e8 hC;refine nw (cs:=[.pointer none,.slice none 0 0,.nilIface]) λv9 z9 e9 b9=>⟨e8.trans e9,EK _ ?_⟩;have K9:=K8.box e9 O;refine b9.s1 aA λv10 gE ad=>ad.s1 aA λv11 ac b11=>b11.s1 aA λv12 S D=>?_;have K12:=((K9.own gE.ext (.inr rfl)).own ac.ext (.inr rfl)).own S.ext (.inr rfl);have eo:Ext (· = v8.size) v9 v12:=(gE.ext.trans ac.ext).trans S.ext;have z8:=e8.1;refine hJ _ _ ⟨v8.size,rfl,Yc,_,K12.drop λb d=>d.imp .inr id,?_,D,O⟩;exact(Ext.fresh (e8.trans e9) eo λi (V:i=v8.size)=>O).bX b7 id
   ·refine nw (cs:=[.pointer none,.slice none 0 0,.nilIface]) λv8 z8 e8 b8=>⟨e8,?_⟩;have K8:=K7.box e8 O;refine Im (hca.aF (K7.e.trans e8)) λv9 Yc e9 hC=>⟨e8.trans e9,IK _,EK _ ?_⟩;have K9:=putC K8 e9 hC;refine(e9.bX b8 id).s1 aA λv10 gE ad=>ad.s1 aA λv11 ac b11=>b11.s1 aA λv12 S D=>?_;have K12:=((K9.own gE.ext (.inr rfl)).own ac.ext (.inr rfl)).own S.ext (.inr rfl);have eo:Ext (· = v7.size) v9 v12:=(gE.ext.trans ac.ext).trans S.ext;have zz:=e9.1;refine hJ _ _ ⟨v7.size,rfl,Yc,_,K12.drop λb d=>d.imp .inr id,?_,D,O⟩;exact(Ext.fresh (e8.trans e9) eo λi (V:i=v7.size)=>O).bX b7 id
 ·have htt:ts.length=H.bQ.length:=by simp only at hge;omega
  rw[htt,zy]at K6;exact hfin htt K6
end Go.Ar
namespace Go.Proofs
open Go.Vc
set_option maxRecDepth 100000
def WS.h:Hn:=.q .o4 (.q .o8 (.q (.q .o2 .aJ) (.q (.cW (.held true [] (.tk [0,1,3,4] (.all [(2,.all [(5,.take 6 (.take 7 (.done)))])])))) (.q .o3 (.q .o6 (.q (.q (.cW (.seq [.op,.op,.op,.cY false 2 [.op,.op]])) (.c (.q (.cW (.seq [.op,.op,.op,.cY true 5 (RI.ops 5),.op,.cY true 1 [.op],.op])) .l) .l)) (.q .o3 (.q (.q .o1 (.k (.loop [(18,.I)] (.q (.q .o4 (.c .l .l)) (.q (.k (.q .o6 (.k (.loop [(19,.I)] (.q (.q (.oq 14) (.c .l .l)) (.q (.k (.q .o2 (.j8 [(20,.I)] (.q (.cW (.seq [.op,.op,.op,.op,.cY true 6 (RI.ops 6)])) (.c .o6 .l)) (.q .o8 (.q .o8 (.q (.cW (.seq [.op,.op,.op,.op,.cY false 2 [.op,.op],.op,.cY false 2 [.op,.op]])) .aK)))))) .o3)))))) .o3))))) .aL))))))))
def WS.v (a b c d e f:Int)(g:Sl)(h i j k l m n:Int)(o:ByteArray)(p q r s t u v:Int)(w:ByteArray)(x:Int)(y:Hp)(z:aO):Prop:=aV #[.I a,.I b,.I c,.I d,.I e,.I f] 25 y λaa ab=>aV #[.I h,.I i,.I j,.I k,.I l,.I m,.I n,.string o] 42 ab λac ad=>aV #[.I p,.I q,.I r,.I s,.I t,.I u,.I v,.string w] 42 ad λae af=>aQ aa 0 af λag=>aQ aa 1 af λah=>aQ aa 2 af λai=>aQ aa 3 af λaj=>aQ aa 4 af λak=>aQ aa 5 af λal=>X5.c ag ah ai aj ak al g 40 af λam an ao=>If am.isNone (W8.c ao λap aq=>z ap aq) (dP ao λar=>aS ar ac 0 λau=>aS ar ac 1 λav=>aS ar ac 2 λaw=>aS ar ac 3 λax=>aS ar ac 4 λay=>aS ar ac 5 λaz=>aS ar ac 6 λa0=>fR ar .str (ac.add 7) λ(a1:ByteArray)=>aS ar ae 0 λa2=>aS ar ae 1 λa3=>aS ar ae 2 λa4=>aS ar ae 3 λa5=>aS ar ae 4 λa6=>aS ar ae 5 λa7=>aS ar ae 6 λa8=>fR ar .str (ae.add 7) λ(a9:ByteArray)=>XK.c an au av aw ax ay az a0 a1 ao λba bb=>And (ar bb) <| XK.c an a2 a3 a4 a5 a6 a7 a8 a9 bb λbc bd=>And (ar bd) <| Zq.c am bd λbe bf=>QA.c am ba bc x bf λbg bh=>bW (λbi bj=>If bi (bW (λbk bl=>bW (λbm bn=>z bm bn) λbo=>
 If bk (W8.c bl λbp bq=>bo bp bq) (bo false bl)) λbr=>If (!be.isNone) (Xn.c be bj λbs bt=>Xn.c am bt λbu bv=>X7.c bs bu bv λbw bx=>br bw bx) (br false bj)) (X9.c am bj λbz b0=>WU [bN] (λb1=>b1 0 b0) λb2 (b3:Int) b4=>If (b3<((bz.len:Nat):Int)) (Ix bz.a bz.len b3 4 λb5=>aQ b5 0 b4 λb6=>WU [bN] (λb7=>b7 b6 b4) λb8 (b9:Int) ca=>bL (b9+8) λcb=>Ix bz.a bz.len b3 4 λcc=>aQ cc 0 ca λcd=>Ix bz.a bz.len b3 4 λce=>aQ ce 1 ca λcf=>bL (cd+cf) λcg=>If (cb<=cg) (Jn [bN] (λ(ch:Int) ci=>WT.c be ch ci λcj ck cl=>WT.c am b9 cl λcm cn co=>bW (λcp cq=>bW (λcr cs=>If cr (z false cs) (bL (b9+8) λct=>b8 ct cs)) λcu=>If cp (cu true cq) (cu (cn != 0) cq)) λcv=>If (cj != cm) (cv true co) (cv (ck != 0) co)) λcw=>bW (λcx cy=>If cx (bL (bc+b9) λcz=>bL (cz-ba) λc0=>cw c0 cy) (cw b9 cy)) λc1=>If (b9≥ba) (bL (8*x) λc2=>bL (ba+c2) λc3=>c1 (decide (b9<c3)) ca) (c1 false ca)) (bL (b3+1) λc4=>b2 c4 ca)) (W8.c b4 λc5 c6=>z c5 c6))) λc7=>If be.isNone (c7 true bh) (c7 (bg != 0) bh))
theorem WS.o {a b c d e f g h i j k l m n o p q r s t u v w y z aa}(ab:WS.v a b c d e f g h i j k l m n o p q r s t u v w y z aa):WS.c a b c d e f g h i j k l m n o p q r s t u v w y z aa:=Wa Tryz.func5 (x:=WS.h) (R0 ab)
end Go.Proofs
namespace Go.Ar
open Go Go.Vc Go.Proofs
open Go.Vc (cB dO dK)
variable {U σ0 v w w':Hp}{F G P Q X T:Rg}{L:dS}{H H' H1:Hw}{held:List Pc}{s0 sp:Sp}{l:Sl}{ds:List fP}
theorem mH {S:aP}{b i:Nat}{cs:List Value}{c:CK}{y:c.T}(hS:∀m,S m->bY m b cs)(hc:cs[i]?=some (c.v y)){K:c.T->Prop}(hK:K y):fR S c (Addr.add ⟨b,0,none⟩ i) K:=
 ⟨y,λm a=>by rw[add_lit,(hS m a).cell,zG];exact hc,hK⟩
theorem Jk (h:HI H held s0){e:Int×Bk}(he:e∈H.live){w:Nat}(h1:e.1<=((8*w:Nat):Int))(h2:((8*w:Nat):Int)<e.1+e.2.2.1):gf H.sp.st (w/32)≠0:=by
 obtain⟨_,p,hp,_,_,a,b,_⟩:=h.lv e he;have:=h.mapped hp (x:=8*w) O O
 rwa [show 8*w/256=w/32 by omega]at this
theorem LD (hi:HI H held s0){to fr n:Int}(h0:ng H to fr n=0)(hn:0<=n){e:Int×Bk}(he:e∈H.live){z:Int}(h1:e.1<=z)(h2:z+8<=e.1+e.2.2.1)(h8:z%8=0){src:Int}(hs:src=if to<=z/\z<to+8*n then fr+z-to else z) :
 KT (Vw H.sp to fr n.toNat) z=KT H.sp src/\fG (Vw H.sp to fr n.toNat) z=0/\fG H.sp src=0/\src<=9223372036854775807:=by
 unfold ng at h0;rw[zA O]at h0;have g:(QC H to n&&QC H fr n)=true:=by
  cases hx:(QC H to n&&QC H fr n)with
  | true=>rfl
  | false=>rw[hx]at h0;simp at h0
 rw[zF]at g;obtain⟨J,A,L,C,K,E,F⟩:=Uh hi g.1;obtain⟨p,r,B,G,D,M,N⟩:=Uh hi g.2;have s1:=hi.eW A;have s:=hi.eW r;have P:=hi.eW he;simp only at s1 s;obtain⟨k,rfl⟩:=zf hn;obtain⟨a,rfl⟩:∃a:Nat,to=((8*a:Nat):Int):=⟨(to/8).toNat,O⟩;obtain⟨c,rfl⟩:∃c:Nat,fr=((8*c:Nat):Int):=⟨(fr/8).toNat,O⟩;obtain⟨x,rfl⟩:∃x:Nat,z=((8*x:Nat):Int):=⟨(z/8).toNat,O⟩;have d:=Jk hi he (w:=x) h1 O;obtain⟨_,w2,w3⟩:=IA H.sp a (λi=>KT H.sp (((8*c:Nat):Int)+(i:Int)*8)) k;rw[dE];have m:Vw H.sp ((8*a:Nat):Int) ((8*c:Nat):Int) k=pU H.sp ((8*a:Nat):Int) (λi=>KT H.sp (((8*c:Nat):Int)+(i:Int)*8)) k:=rfl;rw[m];have b:fG (pU H.sp ((8*a:Nat):Int) (λi=>KT H.sp (((8*c:Nat):Int)+(i:Int)*8)) k) ((8*x:Nat):Int)=0:=uC.2 λh=>d ((w2 _).1 h);by_cases hin:a<=x/\x<a+k
 ·rw[zB ⟨O,O⟩]at hs;obtain⟨y,u⟩:∃y:Nat,src=((8*y:Nat):Int):=⟨c+x-a,O⟩;have j:=Jk hi r (w:=y) (by show p.1<=_;omega) (by show _<p.1+p.2.1;omega);refine⟨?_,b,by rw[u];exact uC.2 j,O⟩;rw[Bm,zB λh=>d ((w2 _).1 h),w3,zB ⟨hin.1,hin.2,d⟩]
  congr 1
  omega
 ·rw[zA O]at hs;subst hs;refine⟨?_,b,uC.2 d,O⟩;rw[Bm,Bm,zB λh=>d ((w2 _).1 h),zB d,w3,zA λh=>hin ⟨h.1,h.2.1⟩]
theorem Br {K:eR [.i .i64]}{body:eR [.i .i64]->Prop}(P:aN)(h1:∀r w,P r w->K r w)(h2:∀J:eR [.i .i64],(∀r w,P r w->J r w)->body J):Jn [.i .i64] K body:=Jn.intro (h2 K h1)
theorem Tx (hi:sq H)(hle:H.live.length<=5000){bs:List Bk}(hl:ln H.live bs):(qx H.sp bs).length<=1000000000:=by
 have h:=I7 (sp:=H.sp) hi (λb a=>(hl.mem b).1 a) bs.length;rw[zy]at h;have a:bs.length<=5000:=by rw[hl.len];exact hle
 exact zP h (zP (k7 _ a) aB)
set_option maxRecDepth 16000 in
theorem Nj (gl:Gl U)(gc:Gc U)(b b1 b2 b3 b4 b5:Int)(hd:jA U l ds)(dt:fP)(dti:jW dt)(df:fP)(dfi:jW df)(n:Int){R:aO}(hR:∀σ',aG U σ'->R true σ') :
 WS.c b b1 b2 b3 b4 b5 l dt.kd dt.th dt.a dt.b dt.of dt.pl dt.va dt.s df.kd df.th df.a df.b df.of df.pl df.va df.s n U R:=by
 refine WS.o ?_;unfold WS.v;refine nw (cs:=[.int .i64 b,.int .i64 b1,.int .i64 b2,.int .i64 b3,.int .i64 b4,.int .i64 b5]) λv hz e hb=>nw (cs:=pf dt) λv1 hz1 e1 hb1=>nw (cs:=pf df) λv2 hz2 e2 hb2=>?_;have E2:=(e.trans e1).trans e2;have C:=e2.bX (e1.bX hb id) id;have hb1':=e2.bX hb1 id;refine C.rI rfl (C.rI rfl (C.rI rfl (C.rI rfl (C.rI rfl (C.rI rfl ?_)))));have N:=gl.aF E2;have K:=gc.aF E2;refine Pr N K b b1 b2 b3 b4 b5 (hd.aF E2) 40 aB (λv3 e3=>?_) λv3 L H held s0 P Q addrs ad p=>bZ rfl ?_
 ·exact cJ rfl (GR (N.aF e3) (K.aF e3) λu G=>hR u ((E2.trans e3).trans G))
 have k1:=p.e.bX hb1' id;have k2:=p.e.bX hb2 id;refine⟨λm=>bY m v.size (pf dt)/\bY m v1.size (pf df),⟨k1,k2⟩,mH (c:=bN) (y:=dt.kd) (λm d=>d.1) rfl (mH (c:=bN) (y:=dt.th) (λm d=>d.1) rfl (mH (c:=bN) (y:=dt.a) (λm d=>d.1) rfl (mH (c:=bN) (y:=dt.b) (λm d=>d.1) rfl (mH (c:=bN) (y:=dt.of) (λm d=>d.1) rfl (mH (c:=bN) (y:=dt.pl) (λm d=>d.1) rfl (mH (c:=bN) (y:=dt.va) (λm d=>d.1) rfl (mH (c:=.str) (y:=dt.s) (λm d=>d.1) rfl ?_)))))))⟩;refine mH (c:=bN) (y:=df.kd) (λm d=>d.2) rfl (mH (c:=bN) (y:=df.th) (λm d=>d.2) rfl (mH (c:=bN) (y:=df.a) (λm d=>d.2) rfl (mH (c:=bN) (y:=df.b) (λm d=>d.2) rfl (mH (c:=bN) (y:=df.of) (λm d=>d.2) rfl (mH (c:=bN) (y:=df.pl) (λm d=>d.2) rfl (mH (c:=bN) (y:=df.va) (λm d=>d.2) rfl (mH (c:=.str) (y:=df.s) (λm d=>d.2) rfl ?_)))))));refine B4 (bR.fM p.row) dt λv5 e5=>⟨⟨e5.bX k1 id,e5.bX k2 id⟩,B4 (bR.fM (p.fr e5).row) df λv6 e6=>⟨⟨e6.bX (e5.bX k1 id) id,e6.bX (e5.bX k2 id) id⟩,?_⟩⟩;have Z:=(p.fr e5).fr e6;have ht:=AD (ad:=ad) dti;have hf:=AD (ad:=ad) dfi;generalize qP ad dt=tp at ht;generalize qP ad df=fp at hf;have V:H.live.length<=5000:=by have:=Z.hi.qc Z.pg;omega
 refine MO Z.h (λg hg=>⟨(Z.hi.th g hg).hl,λb hb=>((Z.hi.th g hg).hb b hb).2.2⟩) λv7 L' W e7 M hrn=>?_;have x:=Z.fr e7;have E7:=E2.trans x.e;have F:=Z.hi.lvO;have lvc:sq {H with bT:=W}:=⟨F.s8,F.len,F.lk,F.l1⟩;refine Sc x.h (K.aF x.e) x.hi x.cf ht hf (λw8 hne e8=>?_) λw8 h0 hn0 e8 h8=>?_
 ·refine bW.intro (bZ rfl (cJ (by simpa using hne) (bW.intro (cJ rfl ?_))));refine I4 (M.aF e8) lvc V λs1 w1 bs1 Q1 e1 hl1 hr1 _=>?_;refine I4 ((x.h.aF e8).aF e1) F V λs2 w2 bs2 Q2 e2 hl2 hr2 _=>?_;have hbe:=Tp hl1 hl2;subst hbe;refine Oo (bR.fM (aI.aF hr1 e2)) (bR.fM hr2) (Tx lvc V hl1) ?_;rw[zI rfl];have E:=((x.e.trans e8).trans e1).trans e2;exact bW.intro (cJ rfl (GR (N.aF E) (K.aF E) λu G=>hR u ((E2.trans E).trans G)))
 ·refine bW.intro (bZ rfl (bZ rfl ?_));obtain⟨s1,hi8⟩:∃s1,HI {H with sp:=Vw H.sp tp fp n.toNat} held s1:=x.hi.wr tp (λi=>KT H.sp (fp+(i:Int)*8)) n.toNat;have hc8:=M.bV e8 (λc _ hcc hP=>by
   have h1:=(Z.pP c hP).2;have h2:v6.size<=c:=hcc;omega) x.h.o x.h.o2
  have E8:aG v2 w8:=Ext.fresh x.e e8 λc M=>(x.pP c M).1;refine N7 h8 hi8 λsl v9 X e9 hbs Y=>?_;have hsl:sl.len=X.length:=by have:=Y.1;rw[Gp]at this;omega
  have hbl:X.length<=5000:=by rw[hbs.len];exact V
  refine Zw (a:=bN) (λ(z:Int) u=>aG v9 u/\∃i:Nat,z=i/\i<=X.length) (λz _=>X.length-z.toNat) ⟨Ext.refl _ _,0,rfl,O⟩ ?_;rintro(z:Int) u ⟨G,i,rfl,hi⟩;refine cL (λhlt=>?_) λhge=>?_
  ·have hx:X[i]?=some (X[i]' O):=cQ _;generalize (X[i]' O)=k at hx;have hk:(k.1,k)∈H.live:=(hbs.mem k).1 (zE hx);have h8k:=x.hi.eW hk;simp only at h8k;have B:∀{u:Hp},aG v9 u->cS sl 4 (iy X) u _:=λG=>bR.fM (aI.aF Y G);refine vB (B G) hx λbb oo M=>hO (M 0 _ rfl) ?_;refine Zw (a:=bN) (λ(z:Int) u2=>aG v9 u2/\∃j:Nat,z=k.1+8*(j:Int)/\(j:Int)<=k.2.1/8) (λz _=>(k.1+k.2.1-z).toNat) ⟨G,0,O,O⟩ ?_;rintro(z:Int) u2 ⟨eu2,j,hzj,hj⟩;refine ar O O (vB (B eu2) hx λbb oo M=>hO (M 0 _ rfl) (vB (B eu2) hx λbb oo M=>hO (M 1 _ rfl) (ar O O (cL (λhin=>?_) λhout=>?_))))
   ·obtain⟨aa,A⟩:∃aa:Int,aa=if tp<=z/\z<tp+8*n then fp+z-tp else z:=⟨_,rfl⟩
    obtain⟨m1,m2,m3,m4⟩:=LD x.hi h0 hn0 hk (z:=z) (by show k.1<=z;omega) (by show z+8<=k.1+k.2.1;omega) O A;have hbnd:n<=1000000 /\ -1000000000000<=tp/\tp<=1000000000000 /\ -1000000000000<=fp/\fp<=1000000000000:=by
     have S:=h0;unfold ng at S;rw[zA O]at S;have hb:(QC H tp n&&QC H fp n)=true:=by
      cases hx:(QC H tp n&&QC H fp n)with
      | true=>rfl
      | false=>rw[hx]at S;simp at S
     rw[zF]at hb;obtain⟨c1,l1,r1,r2,r3,r4,r5⟩:=Uh x.hi hb.1;obtain⟨c2,l2,q1,q2,q3,q4,q5⟩:=Uh x.hi hb.2;have s1:=x.hi.eW l1;have s2:=x.hi.eW l2;simp only at s1 s2;omega
    refine Br (λD w=>w=u2/\D=aa) (λD w ⟨hw,hwas⟩=>?_) λJ hJ=>?_
    ·subst hw hwas;have cu:=(hc8.aF e9).aF eu2;refine KN cu D m4 λu3 e3=>?_;have hu:=((h8.aF e9).aF eu2).aF e3;refine KN hu z O λu4 e4=>?_;rw[show fG ({H with bT:=W}:Hw).sp D=0 from m3,show fG ({H with sp:=Vw H.sp tp fp n.toNat}:Hw).sp z=0 from m2,show KT ({H with sp:=Vw H.sp tp fp n.toNat}:Hw).sp z=KT H.sp D from m1];refine bW.intro (bZ aA (bW.intro (bZ rfl (bZ rfl (ar O O ⟨⟨(eu2.trans e3).trans e4,j+1,O,O⟩,O⟩)))))
    ·refine Ko (λr w=>w=u2/\r=decide (tp<=z/\z<tp+8*n)) (λr w ⟨hw,hr⟩=>?_) λJ' hJ'=>cL (λh1=>ar O O (ar O O (hJ' _ _ ⟨rfl,?_⟩))) λh1=>hJ' _ _ ⟨rfl,?_⟩
     ·subst hw;refine cU (λht=>?_) λhff=>?_
      ·rw[hr,decide_eq_true_iff]at ht;rw[zB ht]at A;exact ar O O (ar O O (hJ _ _ ⟨rfl,A.symm⟩))
      ·rw[hr,decide_eq_false_iff_not]at hff;rw[zA hff]at A;exact hJ _ _ ⟨rfl,A.symm⟩
     ·rw[nP,decide_eq_true_iff,decide_eq_true_iff];exact⟨λh=>⟨h1,h⟩,λh=>h.2⟩
     ·rw[zJ];exact λh=>h1 h.1
   ·exact cC (m:=i+1) O O ⟨⟨eu2,i+1,rfl,O⟩,O⟩
  ·have E:=(E8.trans e9).trans G;exact GR (N.aF E) (K.aF E) λu G=>hR u ((E2.trans E).trans G)
end Go.Ar
namespace Go.Ar
open Go Go.Vc Go.Proofs Go.ChangeShapes Go.WideShapes Go.RowKit Go.Deep
theorem F7 {H:Type}{enc:TypeId×Value->H}{P:Program}{w:World}{base:Nat}{sp:Nat->Bool}{held:Bool}{fuel:Nat}{t:TypeId}{c:Value}{y:DataW H×List MemPlace}
 (ht:P.underlying t=some .bool) (h:DataW.trod enc P w base sp held fuel t [c]=some y):∃n,c=.bool n/\y=(.lit (.bool n),[]):=by
 cases fuel with
 | zero=>simp[DataW.trod]at h
 | succ fuel=>
  cases c<;>simp[DataW.trod,ht]at h
  rename_i n;exact⟨n,rfl,by simpa using h.symm⟩
theorem B3 {P:Program}{w:World}{t:TypeId}{f0 f1:Field}{cs:Array Value}{fuel:Nat}{p:List MemPlace}{x y:Bool}(ht:P.underlying t=some (.struct #[f0,f1]))(hone:oneCellFields P #[f0,f1]=true)(hC:P.cellsOf t=2)
 (h0:P.underlying f0.type=some .bool) (h1:P.underlying f1.type=some .bool) (h:DataW.trod (λ_=>()) P w 0 (λ_=>true) false fuel t cs.toList=some (.agg [.lit (.bool x),.lit (.bool y)],p)):cs = #[.bool x,.bool y]:=by
 obtain⟨s,n,B,g,a,e,b⟩:=DataW.trod_struct ht h;obtain⟨l⟩:=cs;have d:l.length=2:=by rw[←hC];simpa using a
 match l,d with
 | [c0,c1],_=>
  have j:=b 0 f0 rfl;have i:=b 1 f1 rfl;obtain⟨u,r⟩:=hone_of hone 0 f0 rfl;obtain⟨o1,m⟩:=hone_of hone 1 f1 rfl;rw[u,r]at j;rw[o1,m]at i
  match s,e with
  | [y0,y1],_=>
   obtain⟨C,rfl,z⟩:=F7 h0 (c:=c0) (y:=y0) (by simpa using j);obtain⟨A,rfl,e1⟩:=F7 h1 (c:=c1) (y:=y1) (by simpa using i);subst z;subst e1;simp at g;obtain⟨⟨rfl,rfl⟩,_⟩:=g;rfl
theorem GH {w:World}{a:Addr}{v:Value}(h:w.cell? a=some v):cell w.heap a=some v:=h
section
variable {H:Type}{enc:TypeId×Value->H}{P:Program}{w:World}
theorem Rt {x:Int}(h:(Lit.int .i64 x).wf=true):kG x:=by
 unfold kG;simp[Lit.wf,IntKind.min,IntKind.max,IntKind.bits,IntKind.signed]at h;omega
theorem EH {t:TypeId}{f0 f1 f2 f3 f4 f5 f6 f7:Field}{fuel:Nat}{cs:List Value}{y:DataW H×List MemPlace}
 (ht:P.underlying t=some (.struct #[f0,f1,f2,f3,f4,f5,f6,f7])) (hone:oneCellFields P #[f0,f1,f2,f3,f4,f5,f6,f7]=true) (hC:P.cellsOf t=8)
 (h0:P.underlying f0.type=some (.int .i64)) (h1:P.underlying f1.type=some (.int .i64)) (h2:P.underlying f2.type=some (.int .i64)) (h3:P.underlying f3.type=some (.int .i64)) (h4:P.underlying f4.type=some (.int .i64)) (h5:P.underlying f5.type=some (.int .i64)) (h6:P.underlying f6.type=some (.int .i64)) (h7:P.underlying f7.type=some .string)
 (h:DataW.trod enc P w 0 (λ_=>true) true fuel t cs=some y):∃d:fP,cs=pf d/\jW d:=by
 obtain⟨u,n,V,U,b,i,p⟩:=DataW.trod_struct ht h;have r:cs.length=8:=by rw[←hC];exact b
 match cs,r with
 | [c0,c1,c2,c3,c4,c5,c6,c7],_=>
  have one:∀(j:Nat) (f:Field) (c:Value),(#[f0,f1,f2,f3,f4,f5,f6,f7]:Array Field)[j]?=some f->[c0,c1,c2,c3,c4,c5,c6,c7][j]?=some c->∃z,DataW.trod enc P w 0 (λ_=>true) true n f.type [c]=some z:=by
   intro j f c hj hc;obtain⟨Q,G⟩:=hone_of hone j f hj;have h3:=p j f hj;rw[Q,G]at h3;have a:=(cV.1 hc).1;have e1:([c0,c1,c2,c3,c4,c5,c6,c7].drop j).take 1=[c]:=by
    rw[qG a,rZ,wC,(cV.1 hc).2]
   rw[e1]at h3;have m:u[j]?=some (u[j]'(by rw[i];simp at a ⊢;omega)):=cQ _;rw[m]at h3;exact⟨_,h3⟩
  have int:∀(j:Nat) (f:Field) (c:Value),(#[f0,f1,f2,f3,f4,f5,f6,f7]:Array Field)[j]?=some f->[c0,c1,c2,c3,c4,c5,c6,c7][j]?=some c->P.underlying f.type=some (.int .i64)->∃x:Int,c=.int .i64 x/\kG x:=by
   intro j f c hj hc hu;obtain⟨z,g⟩:=one j f c hj hc;obtain⟨x,e,_,R⟩:=DataW.trod_int hu g;simp only[List.cons.injEq,and_true]at e;exact⟨x,e,Rt R⟩
  obtain⟨L,rfl,_⟩:=int 0 f0 c0 rfl rfl h0;obtain⟨M,rfl,_⟩:=int 1 f1 c1 rfl rfl h1;obtain⟨S,rfl,J⟩:=int 2 f2 c2 rfl rfl h2;obtain⟨B,rfl,D⟩:=int 3 f3 c3 rfl rfl h3;obtain⟨K,rfl,_⟩:=int 4 f4 c4 rfl rfl h4;obtain⟨N,rfl,F⟩:=int 5 f5 c5 rfl rfl h5;obtain⟨E,rfl,C⟩:=int 6 f6 c6 rfl rfl h6;obtain⟨z,g⟩:=one 7 f7 c7 rfl rfl;obtain⟨s,A,_⟩:=DataW.trod_string h7 g;simp only[List.cons.injEq,and_true]at A;subst A;exact⟨⟨L,M,S,B,K,N,E,s⟩,rfl,J,D,F,C⟩
theorem Fo {b0:Nat}{t:TypeId}{f0 f1 f2 f3 f4 f5 f6 f7:Field}{v:Value}{d:DataW H}{ps:List MemPlace}
 (ht:P.underlying t=some (.struct #[f0,f1,f2,f3,f4,f5,f6,f7])) (hone:oneCellFields P #[f0,f1,f2,f3,f4,f5,f6,f7]=true) (hC:P.cellsOf t=8)
 (h0:P.underlying f0.type=some (.int .i64)) (h1:P.underlying f1.type=some (.int .i64)) (h2:P.underlying f2.type=some (.int .i64)) (h3:P.underlying f3.type=some (.int .i64)) (h4:P.underlying f4.type=some (.int .i64)) (h5:P.underlying f5.type=some (.int .i64)) (h6:P.underlying f6.type=some (.int .i64)) (h7:P.underlying f7.type=some .string)
 (hval:Value.okWide P w .any b0 t v) (h:DataW.Trod enc P w 0 (λ_=>true) true t v d ps):∃x:fP,v=.agg #[.int .i64 x.kd,.int .i64 x.th,.int .i64 x.a,.int .i64 x.b,.int .i64 x.of,.int .i64 x.pl,.int .i64 x.va,.string x.s]/\jW x:=by
 unfold Value.okWide at hval;rw[ht]at hval;obtain⟨m,rfl,ir,_⟩:=hval;obtain⟨g,i⟩:=h;obtain⟨x,e,j⟩:=EH ht hone hC h0 h1 h2 h3 h4 h5 h6 h7 i;refine⟨x,?_,j⟩;obtain⟨l⟩:=m;have:l=_:=e;rw[this];rfl
theorem Rj {t e:TypeId}{f0 f1 f2 f3 f4 f5 f6 f7:Field}{a:Option Addr}{len cap:Nat}{d:DataW H}{ps:List MemPlace}
 (htl:P.underlying t=some (.slice e)) (ht:P.underlying e=some (.struct #[f0,f1,f2,f3,f4,f5,f6,f7])) (hone:oneCellFields P #[f0,f1,f2,f3,f4,f5,f6,f7]=true) (hC:P.cellsOf e=8)
 (h0:P.underlying f0.type=some (.int .i64)) (h1:P.underlying f1.type=some (.int .i64)) (h2:P.underlying f2.type=some (.int .i64)) (h3:P.underlying f3.type=some (.int .i64)) (h4:P.underlying f4.type=some (.int .i64)) (h5:P.underlying f5.type=some (.int .i64)) (h6:P.underlying f6.type=some (.int .i64)) (h7:P.underlying f7.type=some .string)
 (h:DataW.Trod enc P w 0 (λ_=>true) true t (.slice a len cap) d ps):∃ds,jA w.heap ⟨a,len,cap⟩ ds:=by
 obtain⟨Q,R⟩:=h;rcases open_slice htl R with⟨r,_⟩|⟨ad,len',cap',m,n,D,Pl,r,_,hl,hm,hmm,A,y⟩
 ·simp[Value.cells]at r;obtain⟨rfl,rfl,rfl⟩:=r;exact⟨[],rfl,λi x A=>by simp at A,by simp,by simp⟩
 ·simp[Value.cells]at r;obtain⟨rfl,rfl,rfl⟩:=r;have S:m=cap:=by simpa using hmm
  have key:∀i,i<len->∃u:fP,(∀j v,(pf u)[j]?=some v->cell w.heap ((ad.add (i*8)).add j)=some v)/\jW u:=by
   intro i p;obtain⟨V,F,M⟩:=y i O;rw[hC]at F;obtain⟨x,r,G⟩:=EH ht hone hC h0 h1 h2 h3 h4 h5 h6 h7 M;obtain⟨_,W,K⟩:=World.cells?_some F;refine⟨x,λj v E=>?_,G⟩;have U:=(cV.1 E).1;have:=K j (by simpa[pf]using U);rw[r]at this;rw[E]at this;exact this
  let g:Nat->fP:=λi=>if y:i<len then(key i y).choose else⟨0,0,0,0,0,0,0,ByteArray.empty⟩
  have N:∀i,(y:i<len)->g i=(key i y).choose:=λi y=>by simp only[g,y,dif_pos]
  refine⟨(List.range len).map g,by simp,λi x A=>?_,λx A=>?_,?_⟩
  ·have p:i<len:=by
    have:=(cV.1 A).1;simpa using this
   have B:g i=x:=by simpa[p]using A
   rw[N i p]at B;have C:=(key i p).choose_spec;rw[B]at C;obtain⟨F,_⟩:=C;have L:=(key 0 O).choose_spec.1;have J:=L 0 _ rfl;have z:=Jx J;simp only[u6,Addr.add_zero']at z;obtain⟨b,o,s⟩:=ad;have C:s=none:=z.2;subst C;refine⟨b,o,rfl,z.1,λj v E=>?_⟩;have:=F j v E;rw[add_lit,add_lit]at this;exact this
  ·obtain⟨i,y,rfl⟩:=zD.1 A;have p:=ze.1 y;rw[N i p];exact(key i p).choose_spec.2
  ·have:maxLen=9223372036854775807:=rfl;simp;omega
theorem Lz {b0:Nat}{t:TypeId}{f0 f1 g0 g1 g2 g3 g4:Field}{v:Value}{d:DataW H}{ps:List MemPlace}
 (ht:P.underlying t=some (.struct #[f0,f1])) (hC:P.cellsOf t=6) (ho:f0.offset=0/\P.cellsOf f0.type=1/\f1.offset=1/\P.cellsOf f1.type=5)
 (h0:P.underlying f0.type=some (.int .i64)) (h1:P.underlying f1.type=some (.struct #[g0,g1,g2,g3,g4])) (hone:oneCellFields P #[g0,g1,g2,g3,g4]=true)
 (k0:P.underlying g0.type=some (.int .i64)) (k1:P.underlying g1.type=some (.int .i64)) (k2:P.underlying g2.type=some (.int .i64)) (k3:P.underlying g3.type=some (.int .i64)) (k4:P.underlying g4.type=some (.int .i64))
 (hval:Value.okWide P w .any b0 t v) (h:DataW.Trod enc P w 0 (λ_=>true) true t v d ps):∃(x0 x1 x2 x3 x4 x5:Int),v=.agg #[.int .i64 x0,.int .i64 x1,.int .i64 x2,.int .i64 x3,.int .i64 x4,.int .i64 x5]:=by
 unfold Value.okWide at hval;rw[ht]at hval;obtain⟨L,rfl,ir,_⟩:=hval;obtain⟨e,i⟩:=h;obtain⟨l⟩:=L;have p:l.length=6:=by rw[←hC];simpa using ir
 obtain⟨A,B,C,m⟩:=ho
 match l,p with
 | [c0,c1,c2,c3,c4,c5],_=>
  have i:DataW.trod enc P w 0 (λ_=>true) true e t [c0,c1,c2,c3,c4,c5]=some (d,ps):=i;obtain⟨y0,y1,n,_,_,G,E⟩:=trod_struct2 ht i;rw[A,B]at G;rw[C,m]at E;have D:DataW.trod enc P w 0 (λ_=>true) true n f0.type [c0]=some y0:=G;have z:DataW.trod enc P w 0 (λ_=>true) true n f1.type [c1,c2,c3,c4,c5]=some y1:=E;obtain⟨x0,a,_,_⟩:=DataW.trod_int h0 D;simp only[List.cons.injEq,and_true]at a;subst a;obtain⟨J,n,M,N,F,r,y⟩:=DataW.trod_struct h1 z;have int:∀(j:Nat) (f:Field) (c:Value),(#[g0,g1,g2,g3,g4]:Array Field)[j]?=some f->[c1,c2,c3,c4,c5][j]?=some c->P.underlying f.type=some (.int .i64)->∃x:Int,c=.int .i64 x:=by
   intro j f c hj hc hu;obtain⟨ho,K⟩:=hone_of hone j f hj;have g:=y j f hj;rw[ho,K]at g;have b:=(cV.1 hc).1;have e1:([c1,c2,c3,c4,c5].drop j).take 1=[c]:=by
    rw[qG b,rZ,wC,(cV.1 hc).2]
   rw[e1]at g;have u:J[j]?=some (J[j]'(by rw[r];simp at b ⊢;omega)):=cQ _;rw[u]at g;obtain⟨x,s,_,_⟩:=DataW.trod_int hu g;exact⟨x,by simpa using s⟩
  obtain⟨x1,rfl⟩:=int 0 g0 c1 rfl rfl k0;obtain⟨x2,rfl⟩:=int 1 g1 c2 rfl rfl k1;obtain⟨x3,rfl⟩:=int 2 g2 c3 rfl rfl k2;obtain⟨x4,rfl⟩:=int 3 g3 c4 rfl rfl k3;obtain⟨x5,rfl⟩:=int 4 g4 c5 rfl rfl k4;exact⟨x0,x1,x2,x3,x4,x5,rfl⟩
end
end Go.Ar