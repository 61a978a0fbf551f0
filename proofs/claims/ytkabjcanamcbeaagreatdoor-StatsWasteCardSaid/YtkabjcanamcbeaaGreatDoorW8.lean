/- Texts joined. -/
import Derived.Test.YtkabjcanamcbeaaGreatDoorRows
import Derived.ChangeVars
import Derived.JoinedOf
import Derived.RowKit
import Derived.WalkKit
import Derived.ProofKit
import Derived.OpenShut
import Derived.ChangeOld
import Derived.Carry
import Derived.Test.YtkabjcanamcbeaaGreatDoorW7
set_option linter.unusedVariables false
set_option linter.unusedSimpArgs false
namespace Go.Ar
open Go Go.Vc Go.Proofs
variable {σ v w:Hp}{s:Sl}{xs:List (Int×Int×Int)}
def BK (c:bW)(size:Int):Int:=(c.size:Int)-size+(((c.tail+c.n-1)/c.n:Nat):Int)
def VT (xs:List (Int×Int×Int))(size align:Int):Int×Int:=if Qd xs then(if size<=16384/\Kr size align=true then(match gE (xs.map ZV) size align with
 | some k=>BK ((xs.map ZV).getD k ⟨8,1,1⟩) size
 | none=>vA size-size,0)else(0,1))else(0,2)
theorem OI (ha:gB σ s xs){i:Nat}{x y z:Int}(hx:xs[i]?=some (x,y,z)){K:Int->Prop}(hK:K x):Ix s.a s.len (i:Int) 3 λa=>fF .i64 (a.add 0) σ K:=by
 have j:=(cQ.1 hx).1;obtain⟨g,h⟩:=ha;obtain⟨b,o,d,_,e,_⟩:=h i x y z hx;rw[d];refine ix O O (nI ?_ hK);rw[add_lit,add_lit];simpa using e
theorem Im {c:bW}(hc:c.ok):c.tail<=1024/\1<=c.n/\c.n<=128/\(c.tail+c.n-1)/c.n<=1200:=by
 have a:=hc.lr;have d:=hc.jg;have b:c.tail<=1024:=by unfold bW.tail;have:=hc.2.2.2.2.1;omega
 exact⟨b,a,d,zI (Nat.div_le_self _ _) O⟩
set_option maxRecDepth 8000 in
theorem FB (ha:gB σ s xs)(size align:Int){R:Int->Int->Hp->Prop}(hR:∀σ',bO σ σ'->R (VT xs size align).1 (VT xs size align).2 σ'):Z1.c s size align σ R:=by
 refine Z1.o ?_;unfold Z1.v;refine Hj ha λv e=>?_;have y:=Yc ha e;cases hv:Qd xs with
 | false=>
  have:=hR v e;unfold VT at this;rw[hv]at this;exact cK rfl this
 | true=>
  refine cG rfl ?_;have fin:∀r,r = !decide (size<=16384/\Kr size align=true)->(r=true->R 0 1 v)/\(r=false->size<=16384/\Kr size align=true):=by
   intro r b;refine⟨λh=>?_,λh=>?_⟩
   ·have X:¬(size<=16384/\Kr size align=true):=by rw[b,nj,decide_eq_false_iff_not]at h;exact h
    have:=hR v e;unfold VT at this;rw[hv,zB rfl,zA X]at this;exact this
   ·rw[b]at h;simpa using h
  refine Ha (λr w=>v=w/\r=decide (size<1\/16384<size)) (λr w ⟨x,b⟩=>?_) λJ d=>cI (λh=>d _ _ ⟨rfl,(zV (.inl h)).symm⟩) λh=>d _ _ ⟨rfl,by rw[decide_eq_decide];omega⟩;subst x;refine Ha (λr u=>v=u/\r=decide (size<1\/16384<size\/align<1)) (λr u ⟨x,b⟩=>?_) λJ d=>cU (λh=>d _ _ ⟨rfl,by rw[b]at h;have:=pS h;exact(zV O).symm⟩) λh=>d _ _ ⟨rfl,by rw[b]at h;have:=sg h;rw[decide_eq_decide];omega⟩;subst x;refine Ha (λr u=>v=u/\r=decide (size<1\/16384<size\/align<1\/256<align)) (λr u ⟨x,b⟩=>?_) λJ d=>cU (λh=>d _ _ ⟨rfl,by rw[b]at h;have:=pS h;exact(zV O).symm⟩) λh=>d _ _ ⟨rfl,by rw[b]at h;have:=sg h;rw[decide_eq_decide];omega⟩;subst x;refine Ha (λr u=>v=u/\r = !decide (size<=16384/\Kr size align=true)) (λr u ⟨x,b⟩=>?_) λJ d=>cU (λh=>d _ _ ⟨rfl,?_⟩) λh=>?_
  ·subst x;obtain⟨f1,Y⟩:=fin r b;refine cU f1 λZ=>?_;obtain⟨U,i⟩:=Y Z;have hsz:1<=size:=by simp only[Kr,zF,zS]at i;exact i.1
   refine Ei y hv size align λM N=>?_;have a:=λF (C:bO M F)=>hR F ((e.trans N).trans C);unfold VT at a;rw[hv,zB rfl,zB ⟨U,i⟩]at a;rw[i];cases hcl:gE (xs.map ZV) size align with
   | none=>
    rw[hcl]at a;refine cK rfl (ar O O (ar O O (nz aB (ar (by rw[YN O];omega) (by rw[YN O];omega) ?_))));rw[YN O];refine ar O O (ar O O ?_);have L:=a M (Ext.refl _ _);simp only[vA]at L;rw[show size+256-1=size+255 by omega];exact L
   | some k=>
    rw[hcl]at a;have hk:k<(xs.map ZV).length:=(yp.1 hcl).1;have z:(xs.map ZV)[k]?=some (xs.map ZV)[k]:=cM hk;generalize (xs.map ZV)[k]=c at z;have G:(xs.map ZV).getD k ⟨8,1,1⟩=c:=by rw[zL,z];rfl
    simp only[G]at a;obtain⟨D,j⟩:=UE y hv z;obtain⟨b1,b2,b3,b4⟩:=Im j;have B:=Yc y N;have hcs:=j.2.1;refine cG rfl ?_;simp only[zT,oV];refine U3 B D (UJ _ _ _ (λg W P V K F C=>?_) λp=>?_)
    ·have E:g=c:=by
      cases g;cases c;simp only[bW.mk.injEq]at *;omega
     subst E;obtain⟨q,H⟩:∃q,(g.tail+g.n-1)/g.n=q:=⟨_,rfl⟩;rw[H]at b4;unfold BK at a;rw[H]at a;have A:=Yc B C;refine U3 A D (Ep j λS Q=>?_);refine OI (Yc A Q) D (ar O O (cA (m:=g.tail+g.n) O O (cA (m:=g.tail+g.n-1) O O (nz O (cA (m:=q) ?_ O (ar O O ?_))))))
     ·rw[YN O,←H];exact(Int.natCast_ediv _ _).symm
     ·exact a S (C.trans Q)
    ·rw[(Uo c).2 j]at p;cases p
  ·rw[b]at h;have P:=pS h;have:¬(size<=16384/\Kr size align=true):=λ⟨V,K⟩=>by
    simp only[Kr,zF,zS]at K;omega
   rw[zh this];rfl
  ·rw[b]at h;have P:=sg h;refine ar O O (d _ _ ⟨rfl,?_⟩);rw[N1 O O]
   congr 1
   rw[nG,zS];simp only[Kr,zF,zS];exact⟨λh=>⟨O,O,O,O,h⟩,λh=>h.2.2.2.2⟩
end Go.Ar
namespace Go.Ar
open Go Go.Vc Go.Proofs
open Go.Vc (bV dF cT)
variable {σ σ0 v w w':Hp}{F P Q X T:Rg}{L:dR}{H H':Hw}{held:List Pc}{s0:Sp}{t n:Nat}{g:Th}{mb am m:Nat}{x y:Me}{s:Sl}{xs:List (Int×Int×Int)}{bs:List Bk}
abbrev U6:=Int×Int×Int×Int×Int×Int
def uS (f:Bk->Int)(bs:List Bk)(c:Int):Int:=(bs.map λb=>if b.2.2.1=c then f b else 0).sum
def one (_:Bk):Int:=1
def lh (b:Bk):Int:=b.2.1
def mW (asked:List (Int×Int))(b:Bk):Int:=(bV asked b.1).getD 0
theorem BB {f:Bk->Int}{i:Nat}{b:Bk}(h:bs[i]?=some b)(c:Int):uS f (bs.take (i+1)) c=uS f (bs.take i) c+(if b.2.2.1=c then f b else 0):=by
 unfold uS;rw[zg,h];simp
theorem sA {f:Bk->Int}{k:Int}(hk:0<=k)(h:∀b∈bs,0<=f b/\f b<=k)(c:Int):0<=uS f bs c/\uS f bs c<=bs.length*k:=by
 refine Vl (f:=λb:Bk=>if b.2.2.1=c then f b else 0) λb a=>?_
 have:=h b a;split<;>omega
theorem y8 {f:Bk->Int}{c:Int}:∀{bs:List Bk},uS one bs c=0->uS f bs c=0
 | [],_=>rfl
 | b::bs,h=>by
  have hp:=(sA (f:=one) (bs:=bs) (k:=1) O (λb _=>⟨by unfold one;omega,by unfold one;omega⟩) c).1;have d:uS one (b::bs) c=(if b.2.2.1=c then 1 else 0)+uS one bs c:=rfl
  have a:uS f (b::bs) c=(if b.2.2.1=c then f b else 0)+uS f bs c:=rfl
  rw[d]at h;by_cases hc:b.2.2.1=c
  ·rw[zB hc]at h;omega
  ·rw[zA hc]at h a;rw[a,y8 O];omega
def p9 (asked:List (Int×Int))(bs:List Bk)(c:Int):U6:=(c,0,uS one bs c,uS lh bs c,uS (mW asked) bs c,0)
def DV (U:List (Int×U6))(asked:List (Int×Int))(bs:List Bk):Prop:=∀c,bV U c=if uS one bs c=0 then none else some (p9 asked bs c)
theorem DV.q {U:List (Int×U6)}{asked:List (Int×Int)}(h:DV U asked bs)(c:Int):∃a,(bV U c).getD (0,0,0,0,0,0)=(a,0,uS one bs c,uS lh bs c,uS (mW asked) bs c,0):=by
 rw[h c];split
 ·rename_i h0;exact⟨0,by rw[h0,y8 h0,y8 h0];rfl⟩
 ·exact⟨c,rfl⟩
def kS (tb:List bW)(j:Nat):Int:=if j=0 then 0 else((tb.getD (j-1) ⟨8,1,1⟩).size:Int)
def lf (tb:List bW)(j:Nat)(l:Int):Int:=if j=0 then 0 else(l+((tb.getD (j-1) ⟨8,1,1⟩).n:Int)-1)/((tb.getD (j-1) ⟨8,1,1⟩).n:Int)
def Ge (tb:List bW)(asked:List (Int×Int))(bs:List Bk)(j:Nat):Option U6:=if uS one bs ((j:Int)-1)=0 then none else
 some ((j:Int)-1,kS tb j,uS one bs ((j:Int)-1),uS lh bs ((j:Int)-1),uS (mW asked) bs ((j:Int)-1),lf tb j (uS one bs ((j:Int)-1)))
def lQ (tb:List bW)(asked:List (Int×Int))(bs:List Bk)(m:Nat):List U6:=(List.range m).filterMap (Ge tb asked bs)
def mB (r:U6):List Value:=[.int .i64 r.1,.int .i64 r.2.1,.int .i64 r.2.2.1,.int .i64 r.2.2.2.1,.int .i64 r.2.2.2.2.1,.int .i64 r.2.2.2.2.2]
def mg (l:List U6):List Value:=l.flatMap mB
theorem Em (tb:List bW)(asked:List (Int×Int))(bs:List Bk)(m:Nat):lQ tb asked bs (m+1)=lQ tb asked bs m++(Ge tb asked bs m).toList:=by
 unfold lQ;rw[zz,vq];cases h:Ge tb asked bs m<;>simp[h]
theorem Ia (tb:List bW)(asked:List (Int×Int))(bs:List Bk)(m:Nat):(lQ tb asked bs m).length<=m:=by
 have:=List.length_filterMap_le (Ge tb asked bs) (List.range m);rw[oQ]at this;exact this
theorem wS (l:List U6):(mg l).length=l.length*6:=by
 unfold mg
 induction l with
 | nil=>rfl
 | cons b bs ih=>rw[mO,zK,ih];simp[mB];omega
theorem L5 (ha:gB σ s xs){i:Nat}{x y z:Int}(hx:xs[i]?=some (x,y,z)){K:Int->Prop}(hK:K x):Ix s.a s.len (i:Int) 3 λa=>gQ (λm=>bO σ m) bN (a.add 0) K:=by
 have r:=(cQ.1 hx).1;obtain⟨p,h⟩:=ha;obtain⟨b,o,g,_,j,_⟩:=h i x y z hx;rw[g];refine ix O O ⟨x,λm e=>?_,hK⟩;have d:cell σ ⟨b,o+(i:Int).toNat*3+0,none⟩=some (.int .i64 x):=by simpa using j
 rw[add_lit,add_lit,QI e (QH d) id];exact d
theorem C3 {k:IntKind}{c:CK}{r:Nat}{l:List (Int×c.T)}{n:Int}{o:Option c.T}{K:Option c.T->Prop}(hm:dK σ r k c l)(h:bV l n=o)(hK:K o):Lk k c (some r) n σ K:=⟨l,hm,by rw[h];exact hK⟩
def uK:List Value:=[.int .i64 0,.int .i64 0,.int .i64 0,.int .i64 0,.int .i64 0,.int .i64 0]
set_option maxRecDepth 16000 in
theorem FK (p:MP σ0 σ L H held s0 P mb am x)(mi:lj x){R:Sl->Hp->Prop}
 (hR:∀s w bs,bO σ w->jn H.live bs->bR s 6 (mg (lQ H.tb x.asked bs (H.tb.length+1))) w (λb=>σ.size<=b)->R s w):XS.c (aW mb) σ R:=by
 refine XS.o ?_;unfold XS.v;refine yd p (cG rfl (aG (p.b.rP rfl (Cc p.h p.h.lZ λdB G e1 K=>tL λY hz2 e2 m2=>aG ?_))));have e12:=e1.trans e2;have p2:=p.fr e12;refine p2.b.rP rfl (JD p2.h p.hi λs v3 bs e3 hl hrow=>?_);have e03:=e12.trans e3;have p3:=p.fr e03;have m3:dK v3 G.size .i64 (.ag 6) []:=e3.gL (m2 _ _) id;have hub:σ.size<=G.size:=e1.1;have hsl:s.len=bs.length:=by have:=hrow.1;rw[As]at this;omega
 have hbl:bs.length<=1000000:=by rw[hl.len];exact p.hi.iN
 have hb1:∀b∈bs,0<=lh b/\lh b<=270000:=λb hb=>by
  have:=p.hi.jD ((hl.mem b).1 hb);unfold lh;simp only at this;omega
 have hb2:∀b∈bs,0<=mW x.asked b/\mW x.asked b<=16384:=λb hb=>by
  unfold mW;cases hm:bV x.asked b.1 with
  | none=>exact⟨ri _,by decide⟩
  | some z=>exact mi.v _ (KX hm)
 have ab:∀b∈bs,0<=one b/\one b<=1:=λb hb=>⟨by unfold one;omega,by unfold one;omega⟩;have hacts:gB v3 dB (H.tb.map gV):=Yc (Hz K) (e2.trans e3);have htl:dB.len=H.tb.length:=by have:=K.1;rw[Kd]at this;omega
 refine ZU (a:=bN) (λ(i:Int) w=>∃(k:Nat) (U:List (Int×U6)),i=k/\k<=bs.length/\Ext (· = G.size) v3 w/\dK w G.size .i64 (.ag 6) U/\DV U x.asked (bs.take k)) (λi _=>bs.length-i.toNat) ⟨0,[],rfl,O,Ext.refl _ _,m3,λc=>rfl⟩ ?_;rintro(i:Int) w ⟨k,U,rfl,hk,e,hm,hU⟩;have pw:MP σ0 w L H held s0 P mb am x:=p3.out e λq _ (hq:q=G.size)=>by
  have h1:=p.b.lt;have h2:=p.m.lt;have h3:=p.e.1;exact⟨λhP=>by have:=(p.pP q hP).2;omega,O,O,O⟩
 refine cI (λhlt=>?_) λhge=>?_
 ·have hk':k<bs.length:=by omega
  have hg:bs[k]?=some bs[k]:=cM _;generalize bs[k]=b at hg;have hbm:=zE hg;have q0:=ab b hbm;have q1:=hb1 b hbm;have q2:=hb2 b hbm;have hlk:(bs.take k).length=k:=by rw[zO];omega
  have l0:=sA (bs:=bs.take k) O (λb h=>ab b (mc h)) b.2.2.1;have l1:=sA (bs:=bs.take k) O (λb h=>hb1 b (mc h)) b.2.2.1;have l2:=sA (bs:=bs.take k) O (λb h=>hb2 b (mc h)) b.2.2.1;rw[hlk]at l0 l1 l2;have n0:=λc=>BB (f:=one) hg c;have n1:=λc=>BB (f:=lh) hg c;have n2:=λc=>BB (f:=mW x.asked) hg c;obtain⟨a0,hq⟩:=hU.q b.2.2.1;have hrw:cR s 4 (jz bs) w (λq=>Y.size<=q):=bR.fX (aI.bU hrow e λq _ (h1:Y.size<=q) (h2:q=G.size)=>O);refine EH hrw hg λbb o hc=>dS (hc 0 _ rfl) (dS (hc 1 _ rfl) (dS (hc 2 _ rfl) (dS (hc 3 _ rfl) ?_)));refine nw (cs:=[.int .i64 0,.int .i64 0,.int .i64 0,.int .i64 0]) λu2 hz2 f2 c2=>c2.s1 aA λu3 o3 c3=>c3.s1 aA λu4 o4 c4=>c4.s1 aA λu5 o5 c5=>c5.s1 aA λu6 o6 c6=>?_;have f6:bO w u6:=Ext.fresh (Ext.fresh (Ext.fresh (Ext.fresh f2 o3.ext λi hi=>O) o4.ext λi hi=>O) o5.ext λi hi=>O) o6.ext λi hi=>by omega
  have hm6:=f6.gL hm id;obtain⟨mu,C⟩:∃mu,bV U b.2.2.1=mu:=⟨_,rfl⟩;rw[C]at hq;refine c6.rI rfl (C3 hm6 C ?_);rw[hq];refine nw (cs:=uK) λu7 hz7 f7 d7=>?_;unfold uK at d7;refine d7.s1 aA λu8 o8 d8=>d8.s1 aA λu9 o9 d9=>d9.s1 aA λu10 fV V=>V.s1 aA λu11 D N=>N.s1 aA λu12 E Q=>Q.s1 aA λu13 X B=>?_;have g:bO u6 u13:=Ext.fresh (Ext.fresh (Ext.fresh (Ext.fresh (Ext.fresh (Ext.fresh f7 o8.ext λi hi=>O) o9.ext λi hi=>O) fV.ext λi hi=>O) D.ext λi hi=>O) E.ext λi hi=>O) X.ext λi hi=>by omega
  have c13:=g.bZ c6 id;have aa:∀{u u':Hp},QD u u' u6.size->bX u w.size (mX b)->bX u' w.size (mX b):=λo h=>o.ext.bZ h λ(hx:w.size=u6.size)=>by have:=c6.lt;omega
  refine c13.rI rfl (B.s1 aA λu14 ae S=>S.rI rfl (ar aC aC (S.s1 aA λu15 ad Z=>Z.rI rfl ?_)));have c15:bX u15 w.size (mX b):=aa ad (aa ae c13);refine c15.rI rfl (ar (by show _<=uS lh (bs.take k) b.2.2.1+lh b;omega) (by show uS lh (bs.take k) b.2.2.1+lh b<=_;omega) (Z.s1 aA λu16 o16 af=>af.rI rfl (aG ?_)));have c16:=aa o16 c15;have f16:bO w u16:=Ext.fresh (Ext.fresh (Ext.fresh (f6.trans g) ae.ext λi hi=>by have:=f6.1;omega) ad.ext λi hi=>by have:=f6.1;omega) o16.ext λi hi=>by have:=f6.1;omega
  have p16:=pw.fr f16;refine p16.b.rM rfl (c16.rI rfl ⟨x.asked,p16.m,ar (by show _<=uS (mW x.asked) (bs.take k) b.2.2.1+mW x.asked b;omega) (by show uS (mW x.asked) (bs.take k) b.2.2.1+mW x.asked b<=_;omega) (af.s1 aA λu17 o17 A=>?_)⟩);have c17:=aa o17 c16;have f17:bO w u17:=Ext.fresh f16 o17.ext λi hi=>by have:=f6.1;omega
  refine c17.rI rfl (A.rI rfl (A.rI rfl (A.rI rfl (A.rI rfl (A.rI rfl (A.rI rfl ⟨G.size,U,rfl,f17.gL hm id,λu18 o18 m18=>?_⟩))))));refine cA (m:=k+1) O O ⟨⟨k+1,_,rfl,O,?_,m18,?_⟩,O⟩
  ·exact(e.trans (bO.to f17)).trans o18.ext
  ·intro c;have hp0:=(sA (bs:=bs.take k) O (λb h=>ab b (mc h)) c).1;rw[Br];by_cases M:c=b.2.2.1
   ·subst M;have e0:=n0 b.2.2.1;have e1:=n1 b.2.2.1;have e2:=n2 b.2.2.1;rw[zB rfl]at e0 e1 e2;have:¬uS one (bs.take (k+1)) b.2.2.1=0:=by rw[e0];unfold one at *;omega
    rw[zB rfl,zA this];unfold p9;rw[e0,e1,e2];rfl
   ·have hne':¬b.2.2.1=c:=λh=>M h.symm;have e0:=n0 c;have e1:=n1 c;have e2:=n2 c;rw[zA hne',Int.add_zero]at e0 e1 e2;rw[zA M,hU c];unfold p9;rw[e0,e1,e2]
 ·have hkk:k=bs.length:=by omega
  subst hkk;rw[zl]at hU;have r:=Hz K;have hactw:gB w dB (H.tb.map gV):=AJ hacts e λq (hq:q=G.size) o ha=>by
   obtain⟨_,hc⟩:=r;cases htb0:H.tb with
   | nil=>have:=p.cf.2.2;unfold kr at this;rw[htb0]at this;exact absurd this aB
   | cons c0 r0=>
    obtain⟨b',o',h1,h2,_⟩:=hc 0 c0.size c0.aF c0.batch (by rw[htb0];rfl);rw[ha]at h1;simp only[Option.some.injEq,Addr.mk.injEq]at h1;omega
  refine Kf (a:=.s) (bb:=bN) (λ(out:Sl) (c:Int) u=>∃j:Nat,c=(j:Int)-1/\j<=H.tb.length+1/\Ext (λq=>Y.size<=q) w u/\bR out 6 (mg (lQ H.tb x.asked bs j)) u (λq=>Y.size<=q)) (λ_ c _=>(H.tb.length+1)-(c+1).toNat) ⟨0,rfl,O,Ext.refl _ _,⟨rfl,.inl ⟨rfl,rfl⟩⟩⟩ ?_;rintro(out:Sl) (c:Int) u ⟨j,rfl,hj,eu,hout⟩;have ht40:=p.h.lZ;have hwz:=e.1;have h3z:=e3.1;have huz:=eu.1;have hlen:=Ia H.tb x.asked bs j;have hol:out.len<=j:=by have:=hout.1;rw[wS]at this;omega
  refine cI (λhlt=>?_) λhge=>?_
  ·have C:dK u G.size .i64 (.ag 6) U:=eu.gL hm λ(hx:Y.size<=G.size)=>by omega
   have d:=Em H.tb x.asked bs j;by_cases h0:uS one bs ((j:Int)-1)=0
   ·have hU0:bV U ((j:Int)-1)=none:=by rw[hU,zB h0]
    have hrow0:Ge H.tb x.asked bs j=none:=by unfold Ge;rw[zB h0]
    rw[hrow0]at d;refine C3 C hU0 ?_;refine nw (cs:=uK) λu7 hz7 f7 d7=>?_;unfold uK at d7;refine d7.s1 aA λu8 o8 d8=>d8.s1 aA λu9 o9 d9=>d9.s1 aA λu10 fV V=>V.s1 aA λu11 D N=>N.s1 aA λu12 E Q=>Q.s1 aA λu13 X B=>?_;have g:bO u u13:=Ext.fresh (Ext.fresh (Ext.fresh (Ext.fresh (Ext.fresh (Ext.fresh f7 o8.ext λi hi=>O) o9.ext λi hi=>O) fV.ext λi hi=>O) D.ext λi hi=>O) E.ext λi hi=>O) X.ext λi hi=>by omega
    refine cK rfl (ar O O ⟨⟨j+1,O,O,eu.trans (bO.to g),?_⟩,O⟩);rw[d];simp only[Option.toList,j9];exact aI.bK hout g
   ·have hU1:bV U ((j:Int)-1)=some (p9 x.asked bs ((j:Int)-1)):=by rw[hU,zA h0]
    have hrow1:Ge H.tb x.asked bs j=some ((j:Int)-1,kS H.tb j,uS one bs ((j:Int)-1),uS lh bs ((j:Int)-1),uS (mW x.asked) bs ((j:Int)-1),lf H.tb j (uS one bs ((j:Int)-1))):=by unfold Ge;rw[zA h0]
    rw[hrow1]at d;have l0:=sA (bs:=bs) O ab ((j:Int)-1);unfold p9 at hU1;generalize uS one bs ((j:Int)-1)=ul at *;generalize uS lh bs ((j:Int)-1)=ub at *;generalize uS (mW x.asked) bs ((j:Int)-1)=ua at *;refine C3 C hU1 ?_;refine nw (cs:=uK) λu7 hz7 f7 d7=>?_;unfold uK at d7;refine d7.s1 aA λu8 o8 d8=>d8.s1 aA λu9 o9 d9=>d9.s1 aA λu10 fV V=>V.s1 aA λu11 D N=>N.s1 aA λu12 E Q=>Q.s1 aA λu13 X B=>?_;have g:bO u u13:=Ext.fresh (Ext.fresh (Ext.fresh (Ext.fresh (Ext.fresh (Ext.fresh f7 o8.ext λi hi=>O) o9.ext λi hi=>O) fV.ext λi hi=>O) D.ext λi hi=>O) E.ext λi hi=>O) X.ext λi hi=>by omega
    refine cG rfl (qm (λq=>bO u q/\bX q u.size (mB ((j:Int)-1,kS H.tb j,ul,ub,ua,lf H.tb j ul))) (λq ⟨eq,bq⟩=>?_) λJ hJ=>?_)
    ·refine bq.rI rfl (bq.rI rfl (bq.rI rfl (bq.rI rfl (bq.rI rfl (bq.rI rfl ?_)))));refine bR.push (F:=λq=>Y.size<=q) (vs:=mB ((j:Int)-1,kS H.tb j,ul,ub,ua,lf H.tb j ul)) (aI.bK hout eq) (λb hb=>by have:=eq.1;show Y.size<=b;omega) rfl rfl (by simp[mB,dN]) O O λs' u' hsl eu' hrow'=>?_;refine ar O O ⟨⟨j+1,O,O,(eu.trans (bO.to eq)).trans eu',?_⟩,O⟩;rw[d];have:mg (lQ H.tb x.asked bs j++(some ((j:Int)-1,kS H.tb j,ul,ub,ua,lf H.tb j ul)).toList)=mg (lQ H.tb x.asked bs j)++mB ((j:Int)-1,kS H.tb j,ul,ub,ua,lf H.tb j ul):=by simp[mg]
     rw[this];exact hrow'
    ·refine cI (λhc0=>?_) λhc0=>?_
     ·obtain⟨k,rfl⟩:∃k,j=k+1:=⟨j-1,O⟩;have hck:(((k+1:Nat):Int)-1)=(k:Int):=by omega
      rw[hck]at B hJ ⊢;have hkt:k<H.tb.length:=by omega
      have hcl:H.tb[k]?=some H.tb[k]:=cM _;have ac:bW.ok H.tb[k]:=p.hi.ok _ (zc hkt);have hgd:H.tb.getD (k+1-1) ⟨8,1,1⟩=H.tb[k]:=by rw[DH,zL,hcl];rfl
      have hsz:kS H.tb (k+1)=(H.tb[k].size:Int):=by unfold kS;rw[zA O,hgd]
      have hsp:lf H.tb (k+1) ul=(ul+(H.tb[k].n:Int)-1)/(H.tb[k].n:Int):=by unfold lf;rw[zA O,hgd]
      rw[hsz,hsp]at hJ;generalize H.tb[k]=cl at hcl ac hJ;have hx:(H.tb.map gV)[k]?=some ((cl.size:Int),(cl.aF:Int),(cl.batch:Int)):=by rw[ze,hcl];rfl
      have W:gB u13 dB (H.tb.map gV):=Yc (AJ hactw eu λq (hq:Y.size<=q) o ha=>by
       obtain⟨_,hc⟩:=r;obtain⟨b',o',h1,h2,_⟩:=hc k _ _ _ hx;rw[ha]at h1;simp only[Option.some.injEq,Addr.mk.injEq]at h1;omega) g
      have n1:=ac.lr;have n2:=ac.jg;refine U3 W hx (UJ _ _ _ (λc' hc' h1 h2 h3 v7 e7=>?_) λhbad=>?_)
      ·have M:c'=cl:=by
        cases c';cases cl;simp only[bW.mk.injEq]at *;omega
       subst M;have S:=e7.bZ B id;refine⟨λm=>bO v7 m,Ext.refl _ _,L5 (Yc W e7) hx (bX.rH (c:=bN) (y:=ul) S rfl (ar O O (ar O O (nz O ?_))))⟩;have hq0:0<=(ul+(c'.n:Int)-1)/(c'.n:Int):=Int.ediv_nonneg O O;have hq1:(ul+(c'.n:Int)-1)/(c'.n:Int)<=ul+(c'.n:Int)-1:=Int.ediv_le_self _ O;rw[YN O];generalize (ul+(c'.n:Int)-1)/(c'.n:Int)=qq at hq0 hq1 hJ ⊢;refine ar O O (S.s1 aA λu14 ae Z=>Z.s1 aA λu15 ad af=>hJ u15 ⟨?_,af⟩);exact Ext.fresh (Ext.fresh (g.trans e7) ae.ext λi hi=>O) ad.ext λi hi=>by omega
      ·rw[(Uo cl).2 ac]at hbad;cases hbad
     ·have hj0:j=0:=by omega
      subst hj0;exact hJ u13 ⟨g,B⟩
  ·have hjj:j=H.tb.length+1:=by omega
   subst hjj;refine hR out u bs (Ext.fresh (Ext.fresh e03 e λi (hi:i=G.size)=>O) eu λi (hi:Y.size<=i)=>O) hl (aI.mono hout λq _ (hq:Y.size<=q)=>by show σ.size<=q;omega)
end Go.Ar
namespace Go.Proofs
open Go.Vc
set_option maxRecDepth 100000
def Xg.h:Hn:=.q .o1 (.q .o2 (.q (.q .o2 .aK) (.q .o7 (.q (.q (.cV (.seq [.op,.op,.op,.dD false 2 [.op,.op]])) .aK) (.q .o7 (.q .o4 (.q .o8 (.q (.cV (.seq [.op,.op,.op,.dD true 3 (RI.ops 3),.op,.dD true 3 (RI.ops 3),.op,.dD true 3 (RI.ops 3),.op,.dD true 5 (RI.ops 5),.op,.dD true 2 [.op,.op],.op,.dD true 2 [.op,.op],.op])) .l))))))))
def Xg.v (a:Hp)(b:aO):Prop:=XE.c a λc d=>If c.isNone (b false d) (QK.c c d λe f g=>bY (λh i=>If h (b false i) (XD.c e 0 20 8 i λj k l=>XG.c e l λm n o p q r s t u v w=>aV #[.I 0,.I 0,.I 0,.I 0,.I 0,.I 0,.I 0,.I 0,.I 0,.I 0] 56 w λx y=>aR x 0 (.I m) y λz=>aR x 1 (.I n) z λaa=>aR x 2 (.I o) aa λab=>aR x 3 (.I p) ab λac=>aR x 4 (.I q) ac λad=>aR x 5 (.I r) ad λae=>aR x 6 (.I s) ae λaf=>aR x 7 (.I t) af λag=>aR x 8 (.I u) ag λah=>aR x 9 (.I v) ah λai=>Yu.c c ai λaj ak=>Z1.c aj 20 8 ak λal am an=>bY (λao ap=>bY (λaq ar=>bY (λau av=>bY (λaw ax=>bY (λay az=>bY (λa0 a1=>b a0 a1) λa2=>If ay (a2 (am==0) az) (a2 false az)) λa3=>If aw (a3 (al==6) ax) (a3 false ax)) λa4=>If au (XS.c e av λa5 a6=>aV #[.I 2,.I 24,.I 1,.I 24,.I 20,.I 1] 80 a6 λa7 a8=>X3.c a5 ⟨some a7,1,1⟩ a8 λa9 ba=>a4 a9 ba) (a4 false av)) λbb=>If aq (aQ x 7 ar λbc=>bb (bc==1) ar) (bb false ar)) λbd=>If ao (aQ x 1 ap λbe=>bd (be==24) ap) (bd false ap)) λbf=>If (k==0) (aQ x 0 an λbg=>bf (bg==20) an) (bf false an))) λbh=>If (f != 0) (bh true g) (bh e.isNone g))
theorem Xg.o {a b}(c:Xg.v a b):Xg.c a b:=Wa Tryz.func13 (x:=Xg.h) (R0 c)
def X4.h:Hn:=.q .o2 (.q (.q (.cV (.seq [.op,.op,.op,.dD false 3 (RI.ops 3)])) .aK) (.q .o3 (.q (.q .o2 .aK) (.q .o7 (.q (.q (.cV (.seq [.op,.op,.op,.dD false 2 [.op,.op]])) .aK) (.q .o5 (.q (.q .o1 (.k (.loop [(11,.I)] (.q (.q .o4 (.c .l .l)) (.q (.k .o6) .o3))))) .aL)))))))
def X4.v (a b c d e f:Int)(g:Sl)(h:Int)(i:Hp)(j:Option Addr->Hp->Prop):Prop:=aV #[.I a,.I b,.I c,.I d,.I e,.I f] 65 i λk l=>aQ k 0 l λm=>aQ k 1 l λn=>aQ k 2 l λo=>aQ k 3 l λp=>aQ k 4 l λq=>aQ k 5 l λr=>WO.c m n o p q r l λs t=>bY (λu v=>If u (j none v) (aQ k 0 v λw=>aQ k 1 v λx=>aQ k 2 v λy=>aQ k 3 v λz=>aQ k 4 v λaa=>aQ k 5 v λab=>Wu.c w x y z aa ab v λac ad=>If ac.isNone (j none ad) (QK.c ac ad λae af ag=>bY (λah ai=>If ah (j none ai) (aV #[.pointer ac,.pointer ae,.slice none 0 0,.slice none 0 0,.I 0] 72 ai λaj ak=>W6 [bN] (λal=>al 0 ak) λam (an:Int) ao=>If (an<((g.len:Nat):Int)) (Ix g.a g.len an 8 λap=>aQ ap 0 ao λaq=>aQ ap 1 ao λar=>aQ ap 2 ao λau=>aQ ap 3 ao λav=>aQ ap 4 ao λaw=>aQ ap 5 ao λax=>aQ ap 6 ao λay=>bC ap 7 ao λaz=>Xo.c (some aj) aq ar au av aw ax ay az ao λa0 a1=>bL (an+1) λa2=>am a2 a1) (j (some aj) ao))) λa3=>If (af != 0) (a3 true ag) (a3 ae.isNone ag)))) λa4=>If s (a4 true t) (Ya.c g h t λa5 a6=>a4 a5 a6)
theorem X4.o {a b c d e f g h i j}(k:X4.v a b c d e f g h i j):X4.c a b c d e f g h i j:=Wa Tryz.func30 (x:=X4.h) (R0 k)
def WF.h:Hn:=.q .o1 (.q .o1 (.q (.q .o1 (.k (.loop [(3,.I),(4,.I)] (.q (.q .o7 (.c .l .l)) (.q (.k (.o 11)) .o3))))) .aL))
def WF.v (a:R2)(b:Hp)(c:aN):Prop:=W6 [bN,bN] (λd=>d 0 0 b) λe (f:Int) (g:Int) h=>bS a λi=>aX i 3 h λj=>If (g<((j.len:Nat):Int)) (bE a 3 h λl=>Ix l.a l.len g 3 λm=>aQ m 1 h λn=>bL (f+n) λo=>bL (g+1) λp=>e o p h) (c f h)
theorem WF.o {a b c}(d:WF.v a b c):WF.c a b c:=Wa Tryz.func32 (x:=WF.h) (R0 d)
def Xo.h:Hn:=.q .o2 (.q (.cV (.tail 5 (RI.ops 5) [.op,.op])) (.q (.q .o2 (.k (.q .o2 (.c (.q (.cV (.held true [10] (.tk [0,1,2,3,4,5,6,7,8,9] (.all [(10,.tk [11,12,13,14,15] (.done))])))) (.q (.q .o2 (.c (.q (.o 11) (.q (.cV (.held true [15] (.tk [0,1,2,3,4,5,6,7,8,9,10] (.all [(11,.all [(12,.take 13 (.take 14 (.all [(15,.done)])))])])))) (.cV (.held true [10] (.take 0 (.take 1 (.take 2 (.take 3 (.take 4 (.take 5 (.all [(6,.take 7 (.take 8 (.take 9 (.all [(10,.done)]))))]))))))))))) .l)) .aL)) (.q .o2 (.c (.q (.cV (.tail 7 (RI.ops 7) [.op,.op])) (.q (.q .o2 (.c (.q .o1 (.q (.q .o1 (.k (.loop [(9,.one .s),(10,.I)] (.q (.q .o7 (.c .l .l)) (.q (.k (.q .fV (.c (.o 11) .l))) .o3))))) .o5)) .l)) .aL)) (.jI [(122,.one .b)] (.q .o2 (.c .l (.q .o2 (.c .l (.q .o2 (.c .l (.q .o2 (.c .l .o2)))))))) (.c (.q (.cV (.held true [9] (.take 0 (.take 1 (.take 2 (.take 3 (.take 4 (.take 5 (.take 6 (.take 7 (.take 8 (.all [(9,.take 10 (.take 11 (.take 12 (.take 13 (.take 14 (.take 15 (.take 16 (.done))))))))])))))))))))) .aL) .l)))))))) .aM))
def Xo.v (a:R2)(b c d e f g h:Int)(i:ByteArray)(j:Hp)(k:aN):Prop:=aV #[.I b,.I c,.I d,.I e,.I f,.I g,.I h,.string i] 87 j λl m=>bE a 2 m λo=>aQ l 0 m λp=>aQ l 1 m λq=>aQ l 2 m λr=>aQ l 3 m λs=>aQ l 4 m λt=>aQ l 5 m λu=>aQ l 6 m λv=>bC l 7 m λw=>Yh.c o p q r s t u v w m λx y=>aQ l 0 y λz=>If (z==120) (dT y λaa=>bS a λab=>aU aa ab 1 λac=>aS aa l 1 λad=>aS aa l 2 λae=>aS aa l 3 λaf=>XD.c ac ad ae af y λag ah ai=>If (ah==0) (bE a 2 ai λak=>aV #[.I ag] 3 ai λal am=>App ak 1 8 3 [.I 0] ⟨some al,1,1⟩ am λan ao=>bS a λap=>aR ap 2 (.slice an.a an.len an.cap) ao λaq=>dT aq λar=>bS a λau=>aT ar au 3 λav=>aS ar l 2 λaw=>aS ar l 3 λax=>aV #[.I ag,.I aw,.I ax] 83 aq λay az=>And (ar az) <| App av 3 24 83 [.I 0,.I 0,.I 0] ⟨some ay,1,1⟩ az λa0 a1=>And (ar a1) <| bS a λa2=>aR a2 3 (.slice a0.a a0.len a0.cap) a1 λa3=>dT a3 λa4=>bS a λa5=>aS a4 a5 4 λa6=>WF.c a a3 λa7 a8=>And (a4 a8) <| bS a λa9=>aR a9 4 (.I (if a7>a6 then a7 else a6)) a8 λba=>k ah ba) (k ah ai)) (If (z==121) (bF a 1 y λbc=>aQ l 1 y λbd=>Zc.c bc bd x y λbe bf=>
 If (be==0) (W6 [.s,bN] (λbg=>bg ⟨none,0,0⟩ 0 bf) λbh (bi:Sl) (bj:Int) bk=>bE a 3 bk λbm=>If (bj<((bm.len:Nat):Int)) (bE a 3 bk λbo=>Ix bo.a bo.len bj 3 λbp=>aQ bp 0 bk λbq=>If (bq != x) (bE a 3 bk λbs=>Ix bs.a bs.len bj 3 λbt=>aQ bt 0 bk λbu=>aQ bt 1 bk λbv=>aQ bt 2 bk λbw=>aV #[.I bu,.I bv,.I bw] 83 bk λbx bz=>App bi 3 24 83 [.I 0,.I 0,.I 0] ⟨some bx,1,1⟩ bz λb0 b1=>bL (bj+1) λb2=>bh b0 b2 b1) (bL (bj+1) λb3=>bh bi b3 bk)) (bS a λb4=>aR b4 3 (.slice bi.a bi.len bi.cap) bk λb5=>k be b5)) (k be bf)) (Jn [.b] (λ(b6:Bool) b7=>If b6 (dT b7 λb8=>bS a λb9=>aU b8 b9 0 λca=>bS a λcb=>aT b8 cb 2 λcc=>aS b8 l 0 λcd=>aS b8 l 1 λce=>aS b8 l 2 λcf=>aS b8 l 3 λcg=>aS b8 l 4 λch=>aS b8 l 5 λci=>aS b8 l 6 λcj=>gQ b8 .str (l.add 7) λ(ck:ByteArray)=>Y5.c ca cc cd ce cf cg ch ci cj ck b7 λcl cm cn co=>k cm co) (k 0 b7)) λcp=>If (z==2) (cp (z==2) y) (If (z==3) (cp (z==3) y) (If (z==8) (cp (z==8) y) (If (z==9) (cp (z==9) y) (cp (z==10) y))))))
theorem Xo.o {a b c d e f g h i j k}(l:Xo.v a b c d e f g h i j k):Xo.c a b c d e f g h i j k:=Wa Tryz.func35 (x:=Xo.h) (R0 l)
end Go.Proofs
namespace Go.Proofs
open Go.Vc
set_option maxRecDepth 100000
def X3.h:Hn:=.q .o1 (.q (.q .o5 .aK) (.q (.q .o1 (.k (.loop [(5,.I)] (.q (.q .o4 (.c .l .l)) (.q (.k (.q (.oq 9) .aK)) .o3))))) .aM))
def X3.v (a b:Sl)(c:Hp)(d:aO):Prop:=If (((a.len:Nat):Int) != ((b.len:Nat):Int)) (d false c) (W6 [bN] (λe=>e 0 c) λf (g:Int) h=>If (g<((a.len:Nat):Int)) (Ix a.a a.len g 6 λi=>aQ i 0 h λj=>aQ i 1 h λk=>aQ i 2 h λl=>aQ i 3 h λm=>aQ i 4 h λn=>aQ i 5 h λo=>Ix b.a b.len g 6 λp=>aQ p 0 h λq=>aQ p 1 h λr=>aQ p 2 h λs=>aQ p 3 h λt=>aQ p 4 h λu=>aQ p 5 h λv=>If (!((j==q)&&((k==r)&&((l==s)&&((m==t)&&((n==u)&&((o==v)&&true))))))) (d false h) (bL (g+1) λw=>f w h)) (d true h))
theorem X3.o {a b c d}(e:X3.v a b c d):X3.c a b c d:=Wa Tryz.func39 (x:=X3.h) (R0 e)
end Go.Proofs
namespace Go.Ar
open Go Go.Vc Go.Proofs
open Go.Vc (bV dF cT)
variable {σ σ0 v w w':Hp}{F G P Q X T:Rg}{L:dR}{H H':Hw}{held:List Pc}{s0:Sp}{t n:Nat}{g:Th}{mb am m:Nat}{x y:Me}
theorem AQ {α:Type}{l:List (Int×α)}{n:Int}(h:bV l n=none)(v:α):dF l n v=l++[(n,v)]:=by
 unfold dF;rw[zA];intro hx;obtain⟨y,a,e⟩:=ka.1 hx;unfold bV at h;rw[rr,oh]at h;exact h y a e
theorem HE {α:Type}{l:List (Int×α)}{n:Int}(h:bV l n=none):cT l n=l:=by
 unfold cT;rw[oz];intro y hy;unfold bV at h;rw[rr,oh]at h;have:=h y hy;simpa using this
theorem lj.eO (mi:lj x){D:Nat}(hD:D<=128):lj (x.eO (D:Int)):=by
 have b:=mi.jc;have a:=mi.p;have hd:=mi.d;refine⟨mi.v,mi.l,mi.s,?_,?_,mi.c⟩
 ·unfold Me.eO;simp only;split<;>omega
 ·unfold Me.eO;simp only;split<;>omega
theorem lj.gO (mi:lj x){a size e:Int}{D:Nat}(h:bV x.asked a=none)(hc:x.calls<=899)(h0:0<=size)(h1:e=0->size<=16384)(hD:D<=128):lj (x.gO a size e D):=by
 unfold Me.calls at hc;refine lj.eO ?_ hD;by_cases he:e=0
 ·have h1:=h1 he;rw[zB he];have g:x.forget a=x:=by unfold Me.forget;rw[HE h,h];simp
  rw[g];unfold Me.count Me.add;rw[zB he,zB rfl,AQ h];refine⟨λy b=>?_,?_,?_,mi.p,mi.d,?_⟩
  ·rcases zR.1 b with b|b
   ·exact mi.v y b
   ·rw[zW]at b;subst b;exact⟨h0,h1⟩
  ·have:=mi.l;simp only[zK,tZ];omega
  ·simp only[zu,qo];rw[mi.s];simp
  ·unfold Me.calls;simp only;omega
 ·rw[zA he];unfold Me.count;rw[zA he];exact⟨mi.v,mi.l,mi.s,mi.p,mi.d,by unfold Me.calls;simp only;omega⟩
theorem iW.Bl {n m:Nat}{H H1 H2:Hw}{t:Nat}{p:Ph}{a1 e1 a2 e2:Int}(h:iW n H t p H1 a1 e1)(h':iW m H t p H2 a2 e2):H1=H2/\a1=a2/\e1=e2:=by
 induction h generalizing m with
 | done h1 h2=>
  cases h' with
  | done=>exact⟨rfl,rfl,rfl⟩
  | next _ h3 _=>rw[h2]at h3;cases h3
 | next h1 h2 _ ih=>
  cases h' with
  | done _ h3=>rw[h2]at h3;cases h3
  | next _ h3 h4=>rw[h2]at h3;cases h3;exact ih h4
theorem U5.Bl {thread kind size align addr a1 e1 a2 e2:Int}{H1 H2:Hw}(h:U5 H thread kind size align addr H1 a1 e1)(h':U5 H thread kind size align addr H2 a2 e2):H1=H2/\a1=a2/\e1=e2:=by
 rcases h with⟨h1,_,rfl,rfl⟩|⟨t,p,n,h1,h2⟩
 ·rcases h' with⟨g1,_,rfl,rfl⟩|⟨_,_,_,g1,_⟩
  ·rw[h1]at g1;cases g1;exact⟨rfl,rfl,rfl⟩
  ·rw[h1]at g1;cases g1
 ·rcases h' with⟨g1,_⟩|⟨_,_,_,g1,g2⟩
  ·rw[h1]at g1;cases g1
  ·rw[h1]at g1;cases g1;exact h2.Bl g2
def wm:Hw×Int×Int:=pz w0 0 20 0
theorem D0:wm.2=(4096,0):=by decide +kernel
theorem BI:U5 w0 0 0 20 8 0 wm.1 4096 0:=Dc rfl D0 aB rfl
theorem AU:wm.1.sp.st.count 2<=128:=by decide +kernel
theorem JC:wm.1.live=[(4096,4096,24,2,0)]:=by decide +kernel
theorem EJ:wm.1.tb=ug:=by decide +kernel
theorem BM:VT (ug.map gV) 20 8=(6,0):=by decide +kernel
theorem DX:lQ ug [(4096,20)] [(4096,24,2,0)] (ug.length+1)=[(2,24,1,24,20,1)]:=by decide +kernel
theorem κ:tT w0 64:=by
 have h:=Jh (xs:=qI 8) (p:=64) (a:=1) (t:=1) (b:=1024) (r:=2) (Gj 8 aB aB) aB;rw[wc]at h;exact h
theorem Da:∀{l:List U6} {i:Nat} {r:U6},l[i]?=some r->∀{j:Nat} {v:Value},(mB r)[j]?=some v->(mg l)[6*i+j]?=some v
 | [],i,b,h,_,_,_=>by simp at h
 | a::bs,0,b,h,j,v,hv=>by
  simp only[uP,Option.some.injEq]at h;subst h;have hj:=(cQ.1 hv).1;show(mB a++mg bs)[6*0+j]?=_;rw[show 6*0+j=j by omega,zd hj];exact hv
 | a::bs,i+1,b,h,j,v,hv=>by
  have d:=Da (l:=bs) (i:=i) (r:=b) (by simpa using h) hv;show(mB a++mg bs)[6*(i+1)+j]?=_;rw[zn (by simp[mB];omega)];have:6*(i+1)+j-(mB a).length=6*i+j:=by simp[mB];omega
  rw[this];exact d
theorem LJ {s:Sl}{l:List U6}(hs:cR s 6 (mg l) σ F){i:Nat}{r:U6}(hb:l[i]?=some r){K:Addr->Prop}(hK:∀bb o,(∀(j:Nat) v,(mB r)[j]?=some v->cell σ ⟨bb,o+j,none⟩=some v)->K ⟨bb,o,none⟩):Ix s.a s.len (i:Int) 6 K:=by
 have p:=(cQ.1 hb).1;have u:s.len=l.length:=by have:=hs.1;rw[wS]at this;omega
 obtain⟨b,o,e,_⟩:=hs.cell (Da hb (j:=0) rfl);rw[e];refine ix O O ?_;rw[add_lit];refine hK b _ λj v m=>?_;obtain⟨x,w,d,g⟩:=hs.cell (Da hb m);rw[e]at d;cases d;rw[show o+(i:Int).toNat*6+j=o+(6*i+j) by omega];exact g
theorem RZ {a b:Sl}{l:List U6}(ha:cR a 6 (mg l) σ F)(hb:cR b 6 (mg l) σ G)(hl:l.length<=1000000){R:aO}(hR:R true σ):X3.c a b σ R:=by
 refine X3.o ?_;unfold X3.v;have u:=ha.1;have y:=hb.1;rw[wS]at u y;have g:a.len=l.length:=by omega
 have p:b.len=l.length:=by omega
 refine cG (by rw[g,p];simp) (ZU (a:=bN) (λ(i:Int) w=>w=σ/\∃k:Nat,i=k/\k<=l.length) (λi _=>l.length-i.toNat) ⟨rfl,0,rfl,O⟩ ?_);rintro(i:Int) w ⟨rfl,k,rfl,hk⟩;refine cI (λs=>?_) λx=>hR;have j:l[k]?=some (l[k]' O):=cM _;generalize (l[k]' O)=r at j;refine LJ ha j λz o1 d=>dS (d 0 _ rfl) (dS (d 1 _ rfl) (dS (d 2 _ rfl) (dS (d 3 _ rfl) (dS (d 4 _ rfl) (dS (d 5 _ rfl) ?_)))));refine LJ hb j λA o2 e=>dS (e 0 _ rfl) (dS (e 1 _ rfl) (dS (e 2 _ rfl) (dS (e 3 _ rfl) (dS (e 4 _ rfl) (dS (e 5 _ rfl) ?_)))));exact cG aA (cA (m:=k+1) O O ⟨⟨rfl,k+1,rfl,O⟩,O⟩)
attribute [local irreducible] w0 wm pz ug
set_option maxRecDepth 8000 in
theorem FI (gl:Gl σ)(gd:Gd σ){R:aO}(hR:∀σ',bO σ σ'->R true σ'):Xg.c σ R:=by
 refine Xg.o ?_;unfold Xg.v;refine Ms gl gd λv L N e hsN hNv h0=>cG rfl ?_;have D:=κ;have hc0:w0.cf.aF=64:=by have:=D.pg;omega
 refine I3 e h0.cut D.hi D.cf D.ph O (λb hb=>⟨by have:N<=b:=hb.1;omega,hb.2⟩) (Bj gl gd) λw mb am e1 _ _ p=>?_;refine bY.intro (cG rfl (cG rfl ?_));refine Ll p Cs aB 0 20 8 λa er w2 ts H' U s0' P' e2 J hP2 k2 me hw=>?_;obtain⟨rfl,rfl,rfl⟩:=hw.Bl BI;generalize hy:oL.gO 4096 20 0 (wm.1.sp.st.count 2)=y at J;have M:y.sum=20/\y.cS=1/\y.asked=[(4096,20)]:=by subst hy;exact⟨rfl,rfl,rfl⟩
 obtain⟨y1,y2,y3⟩:=M;refine Mg J λY e3 so=>?_;have K:DZ wm.1.live=24:=by rw[JC];rfl
 rw[y1,y2,K];have p3:=J.fr e3;refine nw (cs:=w8) λw4 hz4 e4 E=>?_;unfold w8 at E;refine E.s1 aA λv1 o1 b1=>b1.s1 aA λv2 o2 b2=>b2.s1 aA λv3 o3 b3=>b3.s1 aA λv4 o4 E=>E.s1 aA λv5 o5 b5=>b5.s1 aA λv6 o6 b6=>b6.s1 aA λv7 o7 b7=>b7.s1 aA λv8 o8 b8=>b8.s1 aA λv9 o9 b9=>b9.s1 aA λv10 fV V=>?_;have eo:Ext (· = Y.size) w4 v10:=((((((((o1.ext.trans o2.ext).trans o3.ext).trans o4.ext).trans o5.ext).trans o6.ext).trans o7.ext).trans o8.ext).trans o9.ext).trans fV.ext;have P:bO Y v10:=Ext.fresh e4 eo λi (hi:i=Y.size)=>by omega
 have g:=p3.fr P;refine Cc g.h g.h.lZ λdB v11 z u=>FB (Hz u) 20 8 λG C=>?_;rw[EJ,BM];have r:=(z.trans C).bZ V id;refine bY.intro (cK rfl (r.rI rfl (bY.intro (cK rfl (r.rI rfl (bY.intro (cK rfl (r.rI rfl (bY.intro (cK rfl ?_))))))))));have B:=(g.fr z).fr C;refine FK B ?_ λs x Z X H d=>?_
 ·subst hy;exact Cs.gO rfl aB aB (λ_=>by decide) AU
 rw[JC]at H;have S:Z=[(4096,24,2,0)]:=by
  have h1:=H.len;obtain⟨b,rfl⟩:=List.length_eq_one_iff.1 (show Z.length=1 from h1);have h2:=(H.mem b).1 aA;simp only[zW,Prod.mk.injEq]at h2;rw[h2.2]
 rw[S,y3,EJ,DX]at d;refine nw (cs:=[.int .i64 2,.int .i64 24,.int .i64 1,.int .i64 24,.int .i64 20,.int .i64 1]) λm hz14 A W=>?_;have F:cR s 6 (mg [(2,24,1,24,20,1)]) m (λb=>G.size<=b):=bR.fX (aI.bK d A);have Q:cR ⟨some ⟨x.size,0,none⟩,1,1⟩ 6 (mg [(2,24,1,24,20,1)]) m (λb=>True):=⟨rfl,.inr ⟨x.size,0,_,trivial,rfl,W.q,λj _=>by rw[zG];rfl⟩⟩;refine RZ F Q aA (bY.intro (cK rfl (bY.intro (cK rfl ?_))));exact hR m ((B.fr X).fr A).e
end Go.Ar
namespace Go.Ar
open Go Go.Vc Go.Proofs
open Go.Vc (bV dF cT)
variable {σ w w':Hp}{F P Q X:Rg}{L:dR}{H H':Hw}{held:List Pc}{s0:Sp}{t n:Nat}{g:Th}{σ0:Hp}{addrs:Sl}{ad:List Int}{l:Sl}{ds:List fR}
theorem jL.push (p:jL σ0 σ L H held s0 P Q addrs ad){s':Sl}{x:Int}(e:Ext Q σ w)(hr:bR s' 1 (Wv (ad++[x])) w (λb=>Q b\/σ.size<=b/\b<w.size))(hl:(ad++[x]).length<=60):jL σ0 w L H held s0 P (λb=>Q b\/σ.size<=b/\b<w.size) s' (ad++[x]):=by
 have j:=e.1;have g:=p.e.1;refine⟨Ext.fC p.e e λb a=>.inr (p.pQ b a).1,p.h.bU e (λb a d i=>(p.pQ b i).2.2 d) (λb a=>p.g0.1 b (p.pQ b a).1) (λa=>p.g0.2 (p.pQ _ a).1),p.hi,p.cf,p.pg,λb a=>⟨(p.pP b a).1,by have:=(p.pP b a).2;omega⟩,λb a=>?_,hr,hl,p.g0⟩;rcases a with a|a
 ·exact⟨(p.pQ b a).1,by have:=(p.pQ b a).2.1;omega,(p.pQ b a).2.2⟩
 ·exact⟨O,a.2,λd=>by have:=(p.pP b d).2;omega⟩
theorem L3 {tb:List bW}{size align:Int}{k:Nat}(h:gE tb size align=some k):∃c,tb[k]?=some c/\size<=(c.size:Int)/\(c.size:Int)%align=0:=by
 unfold gE at h;obtain⟨b,a,_⟩:=oF.1 h;simp only[zF,zS,zX]at a;exact⟨tb[k],cM b,a.1,a.2⟩
end Go.Ar
namespace Go.Ar
open Go Go.Vc Go.Proofs
open Go.Vc (bV dF cT)
variable {σ σ0 v w w':Hp}{F G P Q X T:Rg}{L:dR}{H H':Hw}{held:List Pc}{s0:Sp}{t n:Nat}{g:Th}{mb am m:Nat}{x y:Me}
structure LN (H H':Hw):Prop where
 hi:∃held s0,HI H' held s0
 kp:Qb H' H
 live:H'.live=H.live
 ph:(∀g∈H.bQ,g.ph=none)->∀g∈H'.bQ,g.ph=none
set_option maxRecDepth 8000 in
theorem AT (h:HH σ F L H)(gc:Gc σ)(hi:HI H held s0)(hc:my H)(h208:H.cf.aF<=208){addrs:Sl}{ad:List Int}(hs:cR addrs 1 (Wv ad) σ X)(d:fR)(di:lx d)
 (hkd:d.kd=2\/d.kd=3\/d.kd=8\/d.kd=9\/d.kd=10) {R:Int->Int->Int->Hp->Prop}
 (hR:∀a e n σ' ts' H',Ext F σ σ'->HH σ' (Grow F σ) {L with ts:=ts'} H'->LN H H'->R a e n σ') :
 Y5.c (aW L.p) addrs d.kd d.th d.a d.b d.of d.pl d.va d.s σ R:=by
 refine Y5.o ?_;unfold Y5.v;refine nw (cs:=qw d) λv hz e i=>i.rI rfl (i.rI rfl (i.rI rfl (i.rI rfl (i.rI rfl (i.rI rfl (i.rI rfl (i.rT rfl ?_)))))));refine I6 (aH.bK (aH.cut hs) e) d λv1 U=>?_;have K:=((HK.start h).box e hz).fr U;have w:=U.bZ i id;have C:=Jz (ad:=ad) di;generalize hx:sM ad d=x at C;have m:∀{H'},iG H H'->LN H H':=λo=>⟨o.hi,o.kp,o.live,λh g hg=>h g (by rw[←o.bQ];exact hg)⟩;refine w.rI rfl (cU (λj=>absurd (pS (by simpa using j):d.kd=0) O) λhk0=>?_);refine cU (λj=>absurd (show d.kd=1 by simpa using j) O) λhk1=>?_;refine cU (λj=>?_) λQ=>?_
 ·obtain⟨H',er,hw,o,le⟩:=N3 hi d.th;refine w.rI rfl (O9 DY K.h hc.2.2 hw λr ts z u=>?_);have K2:=K.to z u λb _ i=>i;exact hR _ _ _ r ts H' K2.e (K2.fin h) ⟨o.hi,o.kp,le,o.rest⟩
 refine cU (λj=>?_) λS=>?_
 ·refine w.rI rfl (RC K.h (gc.bK (e.trans U)) x d.va C.2 λr z u=>?_);have K2:=K.to z u λb _ i=>i;exact hR _ _ _ r L.ts _ K2.e (K2.fin h) ⟨⟨_,_,hi.write x d.va⟩,⟨rfl,rfl,rfl,rfl⟩,rfl,id⟩
 have k2:d.kd≠2:=by simpa using Q
 have k3:d.kd≠3:=by simpa using S
 refine cU (λj=>absurd (show d.kd=4 by simpa using j) O) λhk4=>?_;refine cU (λj=>absurd (show d.kd=5 by simpa using j) O) λhk5=>?_;refine cU (λj=>absurd (show d.kd=6 by simpa using j) O) λhk6=>?_;refine cU (λj=>absurd (show d.kd=7 by simpa using j) O) λhk7=>?_;refine cU (λj=>?_) λE=>?_
 ·have y:=Nj hi d.a;refine w.rI rfl (Mt K.h d.a di.a.2 (λn A P J=>?_) (λn P=>?_) (λZ=>?_) λY r z u=>?_)
  ·obtain⟨B,M,N⟩:=(y n).1.hi;exact N.ly (by rw[(y n).1.kp.2.1];exact h208) J
  ·have:=(y n).2;have:=h.s.a2;omega
  ·exact hR _ _ _ v1 L.ts _ K.e (K.fin h) ⟨⟨_,_,hi⟩,Qb.refl _,rfl,id⟩
  ·have K2:=K.to z u λb _ i=>i;exact hR _ _ _ r L.ts _ K2.e (K2.fin h) (m (y _).1)
 refine cU (λj=>?_) λG=>?_
 ·have V:=L6 hi;refine Nb K.h (λn P=>?_) λr z u=>?_
  ·have:=(V n).2;have:=h.s.a2;omega
  ·have K2:=K.to z u λb _ i=>i;exact hR _ _ _ r L.ts _ K2.e (K2.fin h) (m (V _).1)
 refine cU (λj=>?_) λD=>?_
 ·have W:=OD hi;refine OJ K.h (λn A P J=>?_) λr z u=>?_
  ·obtain⟨B,M,N⟩:=(W n).hi;exact(N.wi.ga n A J).De
  ·have K2:=K.to z u λb _ i=>i;exact hR _ _ _ r L.ts _ K2.e (K2.fin h) (m (W _))
 have k8:d.kd≠8:=by simpa using E
 have k9:d.kd≠9:=by simpa using G
 have k10:d.kd≠10:=by simpa using D
 omega
abbrev Kn:=Int×Int×Int
def kv (tb:List bW)(size align:Int):Int:=match gE tb size align with
 | some k=>(k:Int)
 | none=>-1
def vS (tb:List bW)(k:Kn):Int×Int×Int:=(k.1,(qM tb k.2.1 k.2.2).1,kv tb k.2.1 k.2.2)
structure KI (H:Hw) (x:Me) (kn:List Kn):Prop where
 asked:x.asked=kn.map λk=>(k.1,k.2.1)
 live:H.live.map (λe=>(e.1,e.2.2.1,e.2.2.2.1))=kn.map (vS H.tb)
 arg:∀k∈kn,1<=k.2.1/\k.2.1<=16384/\Kr k.2.1 k.2.2=true
 iR:x.cS=x.fU+kn.length
theorem KI.addr {kn:List Kn}(k:KI H x kn):H.live.map (·.1)=kn.map (·.1):=by
 have:=congrArg (List.map λe:Int×Int×Int=>e.1) k.live;rw[zt,zt]at this;exact this
theorem Fy {α β:Type}{l:List (Int×α)}{l':List (Int×β)}(h:l.map (·.1)=l'.map (·.1))(n:Int):bV l n=none↔bV l' n=none:=by
 have key:∀{γ:Type} (l:List (Int×γ)),bV l n=none↔n∉l.map (·.1):=λl=>by
  unfold bV;rw[rr,oh];simp only[zC,not_exists,not_and,zX]
 rw[key,key,h]
theorem KI.same {kn:List Kn}(k:KI H x kn)(hl:H'.live=H.live)(ht:H'.tb=H.tb):KI H' x kn:=⟨k.asked,by rw[hl,ht];exact k.live,k.arg,k.iR⟩
end Go.Ar
namespace Go.Ar
open Go Go.Vc Go.Proofs
open Go.Vc (bV dF cT)
variable {σ σ0 v w w':Hp}{F G P Q X T:Rg}{L:dR}{H H':Hw}{held:List Pc}{s0:Sp}{t n:Nat}{g:Th}{mb am m xb:Nat}{x y:Me}
def ns (hp mb:Nat)(addrs kns:Sl)(most:Int):List Value:=[.pointer (some ⟨hp,0,none⟩),.pointer (some ⟨mb,0,none⟩),.slice addrs.a addrs.len addrs.cap,.slice kns.a kns.len kns.cap,.int .i64 most]
structure OF (σ0 σ:Hp) (xb:Nat) (L:dR) (H:Hw) (held:List Pc) (s0:Sp) (P:Rg) (mb am:Nat) (x:Me) (Qa Qk:Rg) (addrs:Sl) (ad:List Int) (kns:Sl) (kn:List Kn) (most:Int):Prop where
 p:MP σ0 σ L H held s0 P mb am x
 b:bX σ xb (ns L.p mb addrs kns most)
 ra:bR addrs 1 (Wv ad) σ Qa
 rk:bR kns 3 (kx kn) σ Qk
 uq:σ0.size<=xb/\¬P xb/\xb≠mb/\xb≠am/\¬Qa xb/\¬Qk xb
 qa:∀b,Qa b->σ0.size<=b/\b<σ.size/\¬P b/\b≠mb/\b≠am
 qk:∀b,Qk b->σ0.size<=b/\b<σ.size/\¬P b/\b≠mb/\b≠am
 qq:∀b,Qa b->¬Qk b
structure OP (σ0 σ:Hp) (xb:Nat) (L:dR) (H:Hw) (held:List Pc) (s0:Sp) (P:Rg) (mb am:Nat) (x:Me) (Qa Qk:Rg) (addrs:Sl) (ad:List Int) (kns:Sl) (kn:List Kn) (most:Int):Prop where
 f:OF σ0 σ xb L H held s0 P mb am x Qa Qk addrs ad kns kn most
 mi:lj x
 k:KI H x kn
 al:ad.length<=x.cS
 pk:x.sum<=x.dM/\x.dM=most
variable {Qa Qk:Rg}{addrs kns:Sl}{ad:List Int}{kn:List Kn}{most:Int}
theorem OF.fr (o:OF σ0 σ xb L H held s0 P mb am x Qa Qk addrs ad kns kn most)(e:bO σ w):OF σ0 w xb L H held s0 P mb am x Qa Qk addrs ad kns kn most:=
 ⟨o.p.fr e,e.bZ o.b id,aI.bK o.ra e,aI.bK o.rk e,o.uq,λb a=>by have h:=o.qa b a;have:=e.1;exact⟨h.1,O,h.2.2⟩,λb a=>by have h:=o.qk b a;have:=e.1;exact⟨h.1,O,h.2.2⟩,o.qq⟩
theorem OF.fO (o:OF σ0 σ xb L H held s0 P mb am x Qa Qk addrs ad kns kn most){L':dR}{held':List Pc}{s0':Sp}{P':Rg}(e:Ext (Md P mb am) σ w)(p':MP σ0 w L' H' held' s0' P' mb am y)(hL:L'.p=L.p)(hP:∀b,P' b->P b\/σ.size<=b) :
 OF σ0 w xb L' H' held' s0' P' mb am y Qa Qk addrs ad kns kn most:=by
 have D:=e.1;have g:=o.b.lt;obtain⟨A,s,m,r,B,z⟩:=o.uq;have d:∀b,b<σ.size->¬P b->¬P' b:=λb E C u=>by
  rcases hP b u with h4|h4
  ·exact C h4
  ·omega
 refine⟨p',?_,aI.bU o.ra e λb _ j a=>?_,aI.bU o.rk e λb _ j a=>?_,⟨A,d _ g s,m,r,B,z⟩,λb i=>?_,λb i=>?_,o.qq⟩
 ·rw[hL];exact e.bZ o.b λa=>by
   rcases a with a|a|a
   ·exact s a
   ·exact m a
   ·exact r a
 ·have h:=o.qa b j;rcases a with a|a|a
  ·exact h.2.2.1 a
  ·exact h.2.2.2.1 a
  ·exact h.2.2.2.2 a
 ·have h:=o.qk b j;rcases a with a|a|a
  ·exact h.2.2.1 a
  ·exact h.2.2.2.1 a
  ·exact h.2.2.2.2 a
 ·have h:=o.qa b i;exact⟨h.1,O,d b h.2.1 h.2.2.1,h.2.2.2⟩
 ·have h:=o.qk b i;exact⟨h.1,O,d b h.2.1 h.2.2.1,h.2.2.2⟩
theorem OF.cB (o:OF σ0 σ xb L H held s0 P mb am x Qa Qk addrs ad kns kn most){s':Sl}{ad':List Int}(e:Ext Qa σ w)(hr:bR s' 1 (Wv ad') w λb=>Qa b\/σ.size<=b/\b<w.size){K:aP}
 (hK:∀u,Ext (· = xb) w u->OF σ0 u xb L H held s0 P mb am x (λb=>Qa b\/σ.size<=b/\b<w.size) Qk s' ad' kns kn most->K u):dL (Addr.add ⟨xb,0,none⟩ 2) (.slice s'.a s'.len s'.cap) w K:=by
 have S:=e.1;have G:=o.b.lt;obtain⟨D,A,E,z,s,C⟩:=o.uq;have r:=o.p.out e λb _ d=>by have h:=o.qa b d;exact⟨h.2.2.1,h.2.2.2.1,h.2.2.2.2,h.1⟩
 have y:=aI.bU o.rk e λb _ j M=>o.qq b M j;refine(e.bZ o.b s).s1 (by simp[ns]) λu B b=>?_;have i:=B.ext;have F:=B.1;have N:=r.b.lt;have J:=r.m.lt;refine hK u i ⟨r.out i λb _ (d:b=xb)=>by subst d;exact⟨A,E,z,D⟩,b,aI.bU hr i λb _ g (d:b=xb)=>?_,aI.bU y i λb _ g (d:b=xb)=>C (d▸g),⟨D,A,E,z,?_,C⟩,λb d=>?_,λb d=>by have h:=o.qk b d;exact⟨h.1,O,h.2.2⟩,λb d j=>?_⟩
 ·subst d;rcases g with g|g
  ·exact s g
  ·omega
 ·rintro(g|g)
  ·exact s g
  ·omega
 ·rcases d with d|d
  ·have h:=o.qa b d;exact⟨h.1,O,h.2.2⟩
  ·have:=o.p.e.1;have U:=o.p.b.lt;have R:=o.p.m.lt;exact⟨O,O,λQ=>by have:=(o.p.pP b Q).2;omega,O,O⟩
 ·rcases d with d|d
  ·exact o.qq b d j
  ·have:=(o.qk b j).2.1;omega
theorem OF.xG (o:OF σ0 σ xb L H held s0 P mb am x Qa Qk addrs ad kns kn most){s':Sl}{kn':List Kn}(e:Ext Qk σ w)(hr:bR s' 3 (kx kn') w λb=>Qk b\/σ.size<=b/\b<w.size){K:aP}
 (hK:∀u,Ext (· = xb) w u->OF σ0 u xb L H held s0 P mb am x Qa (λb=>Qk b\/σ.size<=b/\b<w.size) addrs ad s' kn' most->K u):dL (Addr.add ⟨xb,0,none⟩ 3) (.slice s'.a s'.len s'.cap) w K:=by
 have Q:=e.1;have G:=o.b.lt;obtain⟨A,D,C,B,z,r⟩:=o.uq;have E:=o.p.out e λb _ d=>by have h:=o.qk b d;exact⟨h.2.2.1,h.2.2.2.1,h.2.2.2.2,h.1⟩
 have s:=aI.bU o.ra e λb _ J i=>o.qq b J i;refine(e.bZ o.b r).s1 (by simp[ns]) λu y b=>?_;have j:=y.ext;have F:=y.1;refine hK u j ⟨E.out j λb _ (d:b=xb)=>by subst d;exact⟨D,C,B,A⟩,b,aI.bU s j λb _ g (d:b=xb)=>z (d▸g),aI.bU hr j λb _ g (d:b=xb)=>?_,⟨A,D,C,B,z,?_⟩,λb d=>by have h:=o.qa b d;exact⟨h.1,O,h.2.2⟩,λb d=>?_,λb d i=>?_⟩
 ·subst d;rcases g with g|g
  ·exact r g
  ·omega
 ·rintro(g|g)
  ·exact r g
  ·omega
 ·rcases d with d|d
  ·have h:=o.qk b d;exact⟨h.1,O,h.2.2⟩
  ·have:=o.p.e.1;have R:=o.p.b.lt;have N:=o.p.m.lt;exact⟨O,O,λM=>by have:=(o.p.pP b M).2;omega,O,O⟩
 ·rcases i with i|i
  ·exact o.qq b d i
  ·have:=(o.qa b d).2.1;omega
theorem OF.BX (o:OF σ0 σ xb L H held s0 P mb am x Qa Qk addrs ad kns kn most)(most':Int){K:aP}(hK:∀u,Ext (· = xb) σ u->OF σ0 u xb L H held s0 P mb am x Qa Qk addrs ad kns kn most'->K u):dL (Addr.add ⟨xb,0,none⟩ 4) (.int .i64 most') σ K:=by
 obtain⟨s,y,j,r,w,i⟩:=o.uq;refine o.b.s1 (by simp[ns]) λu g b=>?_;have d:=g.ext;have m:=g.1;exact hK u d ⟨o.p.out d λb _ (a:b=xb)=>by subst a;exact⟨y,j,r,s⟩,b,aI.bU o.ra d λb _ e (a:b=xb)=>w (a▸e),aI.bU o.rk d λb _ e (a:b=xb)=>i (a▸e),o.uq,λb a=>by have h:=o.qa b a;exact⟨h.1,O,h.2.2⟩,λb a=>by have h:=o.qk b a;exact⟨h.1,O,h.2.2⟩,o.qq⟩
theorem Pr (o:OP σ0 σ xb L H held s0 P mb am x Qa Qk addrs ad kns kn most):kns.len=kn.length/\kn.length<=900:=by
 have a:=o.f.rk.1;rw[Ua]at a;have d:=o.k.iR;have b:=o.mi.c;unfold Me.calls at b;exact⟨O,O⟩
def Hr (kn:List Kn):Int:=(kn.map λk=>k.2.1).sum
theorem vR {s:Sl}{l:List T3}(hs:cR s 3 (kx l) σ F){i:Nat}{r:T3}(hb:l[i]?=some r){K:Addr->Prop}(hK:∀bb o,(∀(j:Nat) v,(v3 r)[j]?=some v->cell σ ⟨bb,o+j,none⟩=some v)->K ⟨bb,o,none⟩):Ix s.a s.len (i:Int) 3 K:=by
 have u:=(cQ.1 hb).1;have w:s.len=l.length:=by have:=hs.1;rw[Ua]at this;omega
 obtain⟨b,o,g,_⟩:=hs.cell (j:=i*3+0) (v:=.int .i64 r.1) ((H9 hb O).trans rfl);rw[g];refine ix O O ?_;rw[add_lit];refine hK b _ λj v e=>?_;have m:j<3:=(cQ.1 e).1;obtain⟨y,x,d,p⟩:=hs.cell ((H9 hb m).trans e);rw[g]at d;cases d;rw[show o+(i:Int).toNat*3+j=o+(i*3+j) by omega];exact p
theorem Lo {hp:Nat}(hb:bX σ xb (ns hp mb addrs kns most))(hs:cR kns 3 (kx kn) σ F)(hl:kn.length<=1000)(ha:∀k∈kn,0<=k.2.1/\k.2.1<=16384){R:aN}(hR:R (Hr kn) σ):WF.c (aW xb) σ R:=by
 refine WF.o ?_;unfold WF.v;have p:kns.len=kn.length:=by have:=hs.1;rw[Ua]at this;omega
 refine Kf (a:=bN) (bb:=bN) (λ(sum i:Int) w=>w=σ/\∃k:Nat,i=k/\k<=kn.length/\sum=Hr (kn.take k)) (λ_ i _=>kn.length-i.toNat) ⟨rfl,0,rfl,O,by simp[Hr]⟩ ?_;rintro(sum:Int) (i:Int) w ⟨rfl,k,rfl,hk,rfl⟩;refine aG (hb.rS rfl (cI (λe=>?_) λj=>?_))
 ·have s:k<kn.length:=by simp only at e;omega
  have d:kn[k]?=some kn[k]:=cM _;generalize kn[k]=r at d;have B:=ha r (zE d);have y:=Vl (l:=kn.take k) (f:=λk:Kn=>k.2.1) (c:=16384) λb h=>ha b (mc h);have A:(kn.take k).length=k:=by rw[zO];omega
  have x:Hr (kn.take (k+1))=Hr (kn.take k)+r.2.1:=by unfold Hr;rw[zg,d];simp
  have z:Hr (kn.take k)=((kn.take k).map λk:Kn=>k.2.1).sum:=rfl;refine aG (hb.rS rfl (vR hs d λbb o u=>dS (u 1 _ rfl) (ar O O (cA (m:=k+1) O O ⟨⟨rfl,k+1,rfl,O,x.symm⟩,O⟩))))
 ·have g:k=kn.length:=by simp only at j;omega
  subst g;rw[zl];exact hR
end Go.Ar
namespace Go.Ar
open Go Go.Vc Go.Proofs
open Go.Vc (bV dF cT)
variable {H H':Hw}{x y:Me}{kn:List Kn}{a size align e:Int}{D:Nat}
theorem UH {α β:Type}(l:List (Int×α))(f:Int×α->Int×β)(hf:∀z∈l,(f z).1=z.1)(n:Int):(cT l n).map f=cT (l.map f) n:=by
 unfold cT
 induction l with
 | nil=>rfl
 | cons z l ih=>
  have d:=hf z kX;have b:=ih λz a=>hf z (kL _ a);simp only[zJ,rK,d];by_cases a:z.1=n
  ·simp[a,b]
  ·simp[a,b]
theorem KI.fresh (k:KI H x kn)(h:bV H.live a=none):bV x.asked a=none:=by
 rw[k.asked];refine(Fy ?_ a).1 h;rw[k.addr,zt];rfl
theorem KI.gO (k:KI H x kn)(ht:H'.tb=H.tb)(me:uA H size align H' a e):(e=0->KI H' (x.gO a size e D) (kn++[(a,size,align)]))/\(e≠0->KI H' (x.gO a size e D) kn):=by
 refine⟨λg=>?_,λg=>?_⟩
 ·rcases me with⟨h1,_⟩|⟨_,hm,hok,cl,m,hcl⟩
  ·exact absurd g h1
  ·have d:=k.fresh hm;have p:x.forget a=x:=by unfold Me.forget;rw[HE d,d];simp
   have b:(x.gO a size e D).asked=x.asked++[(a,size)]/\(x.gO a size e D).cS=x.cS+1/\(x.gO a size e D).fU=x.fU:=by
    unfold Me.gO;rw[zB g,p];unfold Me.count Me.add Me.eO;rw[zB g,zB rfl];exact⟨AQ d _,rfl,rfl⟩
   refine⟨?_,?_,λq i=>?_,?_⟩
   ·rw[b.1,k.asked];simp
   ·rw[m,AQ hm,zu,zu,k.live,ht]
    congr 1
    simp only[zJ,pI,vS]
    congr 3
    unfold kv;rcases hcl with⟨j,rfl,hj⟩|⟨rfl,hj⟩<;>rw[hj]
   ·rcases zR.1 i with i|i
    ·exact k.arg q i
    ·rw[zW]at i;subst i;exact⟨hok.1,hok.2.1,hok.2.2⟩
   ·rw[b.2.1,b.2.2,k.iR,zK,tZ];omega
 ·have m:H'.live=H.live:=by
   rcases me with⟨_,_,h⟩|⟨h,_⟩
   ·exact h
   ·exact absurd h g
  have b:(x.gO a size e D).asked=x.asked/\(x.gO a size e D).cS=x.cS/\(x.gO a size e D).fU=x.fU:=by
   unfold Me.gO;rw[zA g];unfold Me.count Me.eO;rw[zA g];exact⟨rfl,rfl,rfl⟩
  exact⟨b.1.trans k.asked,by rw[m,ht];exact k.live,k.arg,by rw[b.2.1,b.2.2];exact k.iR⟩
theorem F8 {l:List (Int×Int)}{n v:Int}(hn:(l.map (·.1)).Nodup)(h:bV l n=some v):(l.map (·.2)).sum=v+((cT l n).map (·.2)).sum/\l.length=(cT l n).length+1:=by
 have a:=KX h;refine⟨A8 hn a,?_⟩;clear h;unfold cT
 induction l with
 | nil=>simp at a
 | cons z l ih=>
  simp only[zJ,zp]at hn;rcases zQ.1 a with h1|h1
  ·subst h1;have:l.filter (λy=>!(y.1==n))=l:=by
    rw[oz];intro y hy;have:y.1≠n:=λe=>hn.1 (zC.2 ⟨y,hy,e⟩);simpa using this
   rw[uB aA,this];rfl
  ·have b:z.1≠n:=λe=>hn.1 (zC.2 ⟨_,h1,e.symm⟩);rw[tF (by simpa using b),zP,zP,ih hn.2 h1]
theorem OU (k:KI H x kn)(ht:H'.tb=H.tb)(he:e=0)(hl:H'.live=cT H.live a){b:Bk}(hm:bV H.live a=some b)(hn:(H.live.map (·.1)).Nodup):KI H' (x.je a e D) (kn.filter λq=>!(q.1==a))/\(∃v,bV x.asked a=some v)/\kn.length=(kn.filter λq=>!(q.1==a)).length+1:=by
 have m:(x.je a e D).asked=cT x.asked a/\(x.je a e D).cS=x.cS/\(x.je a e D).fU=x.fU+1:=by
  unfold Me.je;rw[zB he];unfold Me.count Me.forget Me.eO;rw[zB he,zA aB];exact⟨rfl,rfl,rfl⟩
 have j:x.asked.map (·.1)=H.live.map (·.1):=by rw[k.asked,k.addr,zt];rfl
 obtain⟨v,p⟩:∃v,bV x.asked a=some v:=by
  cases h:bV x.asked a with
  | none=>rw[(Fy j a).1 h]at hm;cases hm
  | some v=>exact⟨v,rfl⟩
 have d:=(F8 (by rw[j];exact hn) p).2;have i:cT x.asked a=(kn.filter λq=>!(q.1==a)).map λq=>(q.1,q.2.1):=by
  rw[k.asked];exact(UH kn (λq=>(q.1,q.2.1)) (λ_ _=>rfl) a).symm
 have g:kn.length=(kn.filter λq=>!(q.1==a)).length+1:=by
  rw[i,za]at d;rw[←d,k.asked,za]
 refine⟨⟨m.1.trans i,?_,λq r=>k.arg q (zH.1 r).1,?_⟩,⟨v,p⟩,g⟩
 ·rw[hl,ht,UH H.live (λe=>(e.1,e.2.2.1,e.2.2.2.1)) (λ_ _=>rfl) a,k.live];exact(UH kn (vS H.tb) (λ_ _=>rfl) a).symm
 ·rw[m.2.1,m.2.2,k.iR,g];omega
theorem KI.qU (k:KI H x kn)(ht:H'.tb=H.tb)(he:e≠0)(hl:H'.live=H.live):KI H' (x.je a e D) kn:=by
 have b:(x.je a e D).asked=x.asked/\(x.je a e D).cS=x.cS/\(x.je a e D).fU=x.fU:=by
  unfold Me.je;rw[zA he];unfold Me.count Me.eO;rw[zA he];exact⟨rfl,rfl,rfl⟩
 exact⟨b.1.trans k.asked,by rw[hl,ht];exact k.live,k.arg,by rw[b.2.1,b.2.2];exact k.iR⟩
theorem lj.je (mi:lj x)(hn:(x.asked.map (·.1)).Nodup)(hv:e=0->∃v,bV x.asked a=some v)(hc:x.calls<=899)(hD:D<=128):lj (x.je a e D):=by
 unfold Me.calls at hc;refine lj.eO ?_ hD;by_cases he:e=0
 ·rw[zB he];obtain⟨v,hv⟩:=hv he;have g:=F8 hn hv;unfold Me.count Me.forget;rw[zB he,zA aB];refine⟨λy b=>mi.v y (zH.1 b).1,?_,?_,mi.p,mi.d,?_⟩
  ·have:=mi.l;simp only;omega
  ·have:=mi.s;simp only[hv,oV];omega
  ·unfold Me.calls;simp only;omega
 ·rw[zA he];unfold Me.count;rw[zA he];exact⟨mi.v,mi.l,mi.s,mi.p,mi.d,by unfold Me.calls;simp only;omega⟩
end Go.Ar
namespace Go.Ar
open Go Go.Vc Go.Proofs
open Go.Vc (bV dF cT)
variable {σ σ0 v w w':Hp}{F G P Q X T:Rg}{L:dR}{H H':Hw}{held:List Pc}{s0:Sp}{t n:Nat}{g:Th}{mb am m xb:Nat}{x y:Me}{Qa Qk:Rg}{addrs kns:Sl}{ad:List Int}{kn:List Kn}{most:Int}
theorem AB {S:aP}{b i:Nat}{cs:List Value}{c:CK}{y:c.T}(hS:∀m,S m->bX m b cs)(hc:cs[i]?=some (c.v y)){K:c.T->Prop}(hK:K y):gQ S c (Addr.add ⟨b,0,none⟩ i) K:=
 ⟨y,λm a=>by rw[add_lit,(hS m a).cell,zG];exact hc,hK⟩
theorem O7 {S:aP}(hr:bR kns 3 (kx kn) σ Q)(hl:kn.length<=1000)(k:Kn)(hS0:∀u,bO σ u->S u){e t:Nat}{K:Sl->Hp->Prop}
 (hK:∀s' w,Ext Q σ w->bR s' 3 (kx (kn++[k])) w (λb=>Q b\/σ.size<=b/\b<w.size)->S w/\K s' w) :
 Nw (.cells #[.int .i64 k.1,.int .i64 k.2.1,.int .i64 k.2.2] t (0,0)) σ λn v=>And (S v)<|App kns 3 24 e [.int .i64 0,.int .i64 0,.int .i64 0] ⟨some n,1,1⟩ v λs' w=>And (S w)<|K s' w:=by
 have p:kns.len=kn.length:=by have:=hr.1;rw[Ua]at this;omega
 refine nw (cs:=v3 k) λv r g d=>⟨hS0 v g,?_⟩;have i:=aI.bK hr g;refine i.app (ys:=v3 k) rfl (by simp[v3]) ?_ (by simp[v3,dN]) ?_ ?_ nA λs' h' z x a=>?_
 ·intro j u hu;rw[add_lit,zG,d.cell];exact hu
 ·simp only;omega
 ·simp only;omega
 ·have s:Ext Q σ h':=g.to.trans x;refine hK s' h' s ?_;rw[CD];refine aI.mono (aI.cut a) λb y m=>?_;rcases m.1 with h1|h1
  ·exact .inl h1
  ·exact .inr ⟨O,y⟩
structure ru (d:fR) (x y:Me) (H':Hw):Prop where
 calls:y.calls=x.calls+(if d.kd=120\/d.kd=121 then 1 else 0)
 dM:x.dM<=y.dM
 dJ:x.dJ<=y.dJ
 dd:d.kd=120\/d.kd=121->(H'.sp.st.count 2:Int)*256<=y.dJ
theorem yf (x:Me)(D:Int):x.dM<=(x.eO D).dM/\x.sum<=(x.eO D).dM/\x.dJ<=(x.eO D).dJ/\D*256<=(x.eO D).dJ/\(x.eO D).dM=(if x.sum>x.dM then x.sum else x.dM)/\(x.eO D).calls=x.calls/\(x.eO D).sum=x.sum:=by
 unfold Me.eO Me.calls;refine⟨?_,?_,?_,?_,rfl,rfl,rfl⟩<;>simp only<;>split<;>omega
theorem G4 (x:Me)(e:Int)(gO:Bool):(x.count e gO).calls=x.calls+1/\(x.count e gO).dM=x.dM/\(x.count e gO).dJ=x.dJ/\(x.count e gO).sum=x.sum:=by
 unfold Me.count Me.calls;split
 ·split
  ·exact⟨by simp only;omega,rfl,rfl,rfl⟩
  ·exact⟨by simp only;omega,rfl,rfl,rfl⟩
 ·exact⟨by simp only;omega,rfl,rfl,rfl⟩
theorem Wlm {d:fR}(hd:d.kd=120)(x:Me)(a size e:Int):ru d x (x.gO a size e (H'.sp.st.count 2)) H':=by
 have b:=yf ((if e=0 then(x.forget a).add a size else x).count e true) (H'.sp.st.count 2:Nat)
 have i:=G4 (if e=0 then(x.forget a).add a size else x) e true
 have g:(if e=0 then(x.forget a).add a size else x).calls=x.calls/\(if e=0 then(x.forget a).add a size else x).dM=x.dM/\(if e=0 then(x.forget a).add a size else x).dJ=x.dJ:=by
  split<;>exact⟨rfl,rfl,rfl⟩
 refine⟨?_,?_,?_,λ_=>b.2.2.2.1⟩
 ·rw[zB (.inl hd)];show(Me.eO _ _).calls=_;omega
 ·show x.dM<=(Me.eO _ _).dM;omega
 ·show x.dJ<=(Me.eO _ _).dJ;omega
theorem TM {d:fR}(hd:d.kd=121)(x:Me)(a e:Int):ru d x (x.je a e (H'.sp.st.count 2)) H':=by
 have b:=yf ((if e=0 then x.forget a else x).count e false) (H'.sp.st.count 2:Nat)
 have i:=G4 (if e=0 then x.forget a else x) e false
 have g:(if e=0 then x.forget a else x).calls=x.calls/\(if e=0 then x.forget a else x).dM=x.dM/\(if e=0 then x.forget a else x).dJ=x.dJ:=by
  split<;>exact⟨rfl,rfl,rfl⟩
 refine⟨?_,?_,?_,λ_=>b.2.2.2.1⟩
 ·rw[zB (.inr hd)];show(Me.eO _ _).calls=_;omega
 ·show x.dM<=(Me.eO _ _).dM;omega
 ·show x.dJ<=(Me.eO _ _).dJ;omega
theorem OP.fr (o:OP σ0 σ xb L H held s0 P mb am x Qa Qk addrs ad kns kn most)(e:bO σ w):OP σ0 w xb L H held s0 P mb am x Qa Qk addrs ad kns kn most:=⟨o.f.fr e,o.mi,o.k,o.al,o.pk⟩
theorem MP.vT (p:MP σ0 σ L H held s0 P mb am x):H.sp.st.count 2<=128:=by
 have b:=vM (a:=2) (l:=H.sp.st);have e:=p.hi.sl;have d:=p.pg;omega
def q9 (P:Rg)(mb am xb:Nat)(Qa Qk:Rg):Rg:=λb=>Md P mb am b\/b=xb\/Qa b\/Qk b
theorem xi {P P' Qa Qa' Qk Qk':Rg}{n:Nat}(hP:∀b,P' b->P b\/n<=b)(hA:∀b,Qa' b->Qa b\/n<=b)(hK:∀b,Qk' b->Qk b\/n<=b):∀b,q9 P' mb am xb Qa' Qk' b->q9 P mb am xb Qa Qk b\/n<=b:=by
 rintro b ((h|h|h)|h|h|h)
 ·exact(hP b h).imp (λh=>.inl (.inl h)) id
 ·exact .inl (.inl (.inr (.inl h)))
 ·exact .inl (.inl (.inr (.inr h)))
 ·exact .inl (.inr (.inl h))
 ·exact(hA b h).imp (λh=>.inr (.inr (.inl h))) id
 ·exact(hK b h).imp (λh=>.inr (.inr (.inr h))) id
set_option maxRecDepth 16000 in
theorem Ml (o:OP σ0 σ xb L H held s0 P mb am x Qa Qk addrs ad kns kn most)(gc:Gc σ0)(hc:x.calls<=899)(d:fR)(di:lx d){R:aN}
 (hR:∀e w L' H' held' s0' P' y Qa' Qk' addrs' ad' kns' kn' most',OP σ0 w xb L' H' held' s0' P' mb am y Qa' Qk' addrs' ad' kns' kn' most'->L'.p=L.p->Qb H' H->ru d x y H'->Ext (q9 P mb am xb Qa Qk) σ w/\(∀b,q9 P' mb am xb Qa' Qk' b->q9 P mb am xb Qa Qk b\/σ.size<=b)->R e w) :
 Xo.c (aW xb) d.kd d.th d.a d.b d.of d.pl d.va d.s σ R:=by
 refine Xo.o ?_;unfold Xo.v;have tM:∀{u u':Hp},Ext (Md P mb am) u u'->Ext (q9 P mb am xb Qa Qk) u u':=λe=>e.sub λb z=>.inl z;have tX:∀{u u':Hp},Ext (· = xb) u u'->Ext (q9 P mb am xb Qa Qk) u u':=λe=>e.sub λb z=>.inr (.inl z);have tA:∀{u u':Hp},Ext Qa u u'->Ext (q9 P mb am xb Qa Qk) u u':=λe=>e.sub λb z=>.inr (.inr (.inl z));have tK:∀{u u':Hp},Ext Qk u u'->Ext (q9 P mb am xb Qa Qk) u u':=λe=>e.sub λb z=>.inr (.inr (.inr z));have hxb:=o.f.b.lt;have hmb:=o.f.p.b.lt;have ham:=o.f.p.m.lt;have h00:=o.f.p.e.1;refine nw (cs:=qw d) λv hz e z=>aG ((o.f.fr e).b.rS rfl (z.rI rfl (z.rI rfl (z.rI rfl (z.rI rfl (z.rI rfl (z.rI rfl (z.rI rfl (z.rT rfl ?_)))))))));have o1:=o.f.fr e;refine I6 (bR.fX o1.ra) d λv1 M=>?_;have o2:=o1.fr M;have X:σ.size<=v1.size:=(e.trans M).1;have A:=M.bZ z id;have hat:=Jz (ad:=ad) di;generalize hx:sM ad d=ax at hat;have hkl:kn.length<=900:=by have U:=o.k.iR;have V:=o.mi.c;unfold Me.calls at V;omega
 have hal:ad.length<=900:=by have U:=o.al;have V:=o.mi.c;unfold Me.calls at V;omega
 have hnM:¬Md P mb am σ.size:=λE=>by
  rcases E with E|E|E
  ·have:=(o.f.p.pP _ E).2;omega
  ·omega
  ·omega
 refine A.rI rfl (cU (λhk=>?_) λhk0=>?_)
 ·have S:d.kd=120:=by simpa using hk
  refine⟨λm=>bO v1 m,Ext.refl _ _,aG (bX.rH (c:=.p) (y:=some ⟨mb,0,none⟩) o2.b rfl (bX.rH (c:=bN) (y:=d.th) A rfl (bX.rH (c:=bN) (y:=d.a) A rfl (bX.rH (c:=bN) (y:=d.b) A rfl ?_))))⟩;refine Ll o2.p o.mi hc d.th d.a d.b λa j w ts H' held' s0' P' K p3 G kp me hw=>?_;have o3:=o2.fO K p3 rfl G;have hb3:=K.bZ A hnM;have W:=Wlm (H':=H') S x a d.a j;obtain⟨km1,km2⟩:=o.k.gO (D:=H'.sp.st.count 2) kp.1 me;have Q:=p3.vT;refine cU (λh0=>?_) λh0=>?_
  ·have g:j=0:=by simpa using h0
   have hfr:bV x.asked a=none/\1<=d.a/\d.a<=16384:=by
    rcases me with⟨B,_⟩|⟨_,B,U,_⟩
    ·exact absurd g B
    ·exact⟨o.k.fresh B,U.1,U.2.1⟩
   have C:=o.mi.gO (size:=d.a) (e:=j) hfr.1 hc O (λ_=>hfr.2.2) Q;have hmc:(x.gO a d.a j (H'.sp.st.count 2)).cS=x.cS+1:=by
    unfold Me.gO Me.count Me.eO;rw[zB g,zB g,zB rfl];rfl
   refine aG (o3.b.rS rfl (MG o3.ra O a λs' u1 e4 hr4=>aG (o3.cB e4 hr4 λu2 e5 o5=>?_)));have hb5:bX u2 σ.size (qw d):=e5.bZ (e4.bZ hb3 λhq=>by have:=(o.f.qa _ hq).2.1;omega) λ(hx:σ.size=xb)=>by omega
   refine⟨λm=>bX m xb (ns _ mb s' kns most)/\bX m σ.size (qw d),⟨o5.b,hb5⟩,aG (AB (c:=.s) (y:=kns) (λm E=>E.1) rfl (AB (c:=bN) (y:=d.a) (λm E=>E.2) rfl (AB (c:=bN) (y:=d.b) (λm E=>E.2) rfl ?_)))⟩;refine O7 o5.rk O (a,d.a,d.b) (λu Y=>⟨Y.bZ o5.b id,Y.bZ hb5 id⟩) λs2 u3 e6 hr6=>⟨⟨e6.bZ o5.b o5.uq.2.2.2.2.2,e6.bZ hb5 λhq=>?_⟩,aG (o5.xG e6 hr6 λu4 e7 o7=>?_)⟩
   ·have:=(o.f.qk _ hq).2.1;omega
   have kk:=km1 g;have hsum:(x.gO a d.a j (H'.sp.st.count 2)).sum=Hr (kn++[(a,d.a,d.b)]):=by
    rw[C.s,kk.asked];unfold Hr;rw[zt];rfl
   refine⟨λm=>bO u4 m,Ext.refl _ _,aG (bX.rH (c:=bN) (y:=most) o7.b rfl (Lo o7.b (bR.fX o7.rk) (by rw[zK,tZ];omega) (λq hq=>by have:=kk.arg q hq;omega) ⟨Ext.refl _ _,aG (o7.BX _ λu5 e8 o8=>?_)⟩))⟩;refine hR j u5 _ H' held' s0' P' _ _ _ _ _ _ _ _ ⟨o8,C,kk,?_,?_⟩ rfl kp W ⟨((((((bO.to (e.trans M)).trans (tM K)).trans (tA e4)).trans (tX e5)).trans (tK e6)).trans (tX e7) |>.trans (tX e8)),xi (λb h=>(G b h).imp id λh=>zI X h) (λb h=>h.imp id λh=>zI (zI X K.1) h.1) (λb h=>h.imp id λh=>zI (zI (zI (zI X K.1) e4.1) e5.1) h.1)⟩
   ·rw[zK,tZ,hmc];have:=o.al;omega
   ·have B:=yf ((if j=0 then(x.forget a).add a d.a else x).count j true) (H'.sp.st.count 2:Nat)
    have U:=G4 (if j=0 then(x.forget a).add a d.a else x) j true
    have V:(if j=0 then(x.forget a).add a d.a else x).dM=x.dM:=by split<;>rfl
    have h4:=o.pk;have M:(x.gO a d.a j (H'.sp.st.count 2)).dM=(Me.eO ((if j=0 then(x.forget a).add a d.a else x).count j true) (H'.sp.st.count 2:Nat)).dM:=rfl
    have e2:(x.gO a d.a j (H'.sp.st.count 2)).sum=(Me.eO ((if j=0 then(x.forget a).add a d.a else x).count j true) (H'.sp.st.count 2:Nat)).sum:=rfl
    refine⟨O,?_⟩;rw[←hsum,M,B.2.2.2.2.1,U.2.1,V,h4.2,e2,B.2.2.2.2.2.2]
  ·have g:j≠0:=by simpa using h0
   have C:lj (x.gO a d.a j (H'.sp.st.count 2)):=by
    have B:x.gO a d.a j (H'.sp.st.count 2)=x.je a j (H'.sp.st.count 2):=by
     unfold Me.gO Me.je Me.count;rw[zA g,zA g,zA g,zA g]
    rw[B];exact o.mi.je (o2.p.m.nodup) (λh=>absurd h g) hc Q
   have hmc:(x.gO a d.a j (H'.sp.st.count 2)).cS=x.cS:=by
    unfold Me.gO Me.count Me.eO;rw[zA g,zA g]
   refine hR j w _ H' held' s0' P' _ _ _ _ _ _ _ _ ⟨o3,C,km2 g,by rw[hmc];exact o.al,?_⟩ rfl kp W ⟨(bO.to (e.trans M)).trans (tM K),xi (λb h=>(G b h).imp id λh=>zI X h) (λ_=>.inl) (λ_=>.inl)⟩;have h4:=o.pk;have h5:(x.gO a d.a j (H'.sp.st.count 2)).sum=x.sum:=by unfold Me.gO Me.count Me.eO;rw[zA g,zA g]
   have h6:(x.gO a d.a j (H'.sp.st.count 2)).dM=x.dM:=by
    unfold Me.gO Me.count Me.eO;rw[zA g,zA g];exact zA aC
   exact⟨by rw[h5,h6];exact h4.1,by rw[h6];exact h4.2⟩
 have k0:d.kd≠120:=by simpa using hk0
 refine cU (λhk=>?_) λhk1=>?_
 ·have S:d.kd=121:=by simpa using hk
  refine aG (o2.b.rP rfl (A.rI rfl (SC o2.p o.mi hc d.th ax hat.2 λj w ts H' held' s0' P' K p3 G kp fe=>?_)));have o3:=o2.fO K p3 rfl G;have W:=TM (H':=H') S x ax j;have Q:=p3.vT;refine cU (λh0=>?_) λh0=>?_
  ·have g:j=0:=by simpa using h0
   obtain⟨b0,E,ab⟩:∃b,bV H.live ax=some b/\H'.live=cT H.live ax:=by
    rcases fe with⟨B,_⟩|⟨_,_,B,_⟩|⟨_,b,E,_,hl⟩
    ·exact absurd g B
    ·exact absurd g B
    ·exact⟨b,E,hl⟩
   obtain⟨kk,hv,hlen⟩:=OU (D:=H'.sp.st.count 2) o.k kp.1 g ab E o2.p.hi.lk;have C:=o.mi.je (e:=j) (D:=H'.sp.st.count 2) o2.p.m.nodup (λ_=>hv) hc Q;refine Kf (a:=.s) (bb:=bN) (λ(l:Sl) (i:Int) u=>∃k:Nat,i=k/\k<=kn.length/\Ext (λb=>w.size<=b) w u/\bR l 3 (kx ((kn.take k).filter λq=>!(q.1==ax))) u (λb=>w.size<=b)) (λ_ i _=>kn.length-i.toNat) ⟨0,rfl,O,Ext.refl _ _,⟨rfl,.inl ⟨rfl,rfl⟩⟩⟩ ?_;rintro(l:Sl) (i:Int) u ⟨k,rfl,hk,Y,hl⟩;have eu0:bO w u:=⟨Y.1,λb z _=>Y.2 b z O⟩;have ou:=o3.fr eu0;have hknl:kns.len=kn.length:=by have:=ou.rk.1;rw[Ua]at this;omega
   have hll:l.len<=k:=by
    have B:((kn.take k).filter λq:Kn=>!(q.1==ax)).length*3=l.len*3:=by have:=hl.1;rw[Ua]at this;exact this
    have U:=m5 (λq:Kn=>!(q.1==ax)) (kn.take k);rw[zO,qB hk]at U;omega
   refine aG (ou.b.rS rfl (cI (λhlt=>?_) λhge=>?_))
   ·have hk':k<kn.length:=by simp only at hlt;omega
    have hg:kn[k]?=some kn[k]:=cM _;generalize kn[k]=q at hg;have htk:kn.take (k+1)=kn.take k++[q]:=by rw[zg,hg];rfl
    refine aG (ou.b.rS rfl (vR (bR.fX ou.rk) hg λbb o' N=>dS (N 0 _ rfl) (cU (λaa=>?_) λheq=>?_)))
    ·have aa:¬q.1=ax:=by simpa using aa
     refine aG (ou.b.rS rfl (vR (bR.fX ou.rk) hg λbb o' N=>dS (N 0 _ rfl) (dS (N 1 _ rfl) (dS (N 2 _ rfl) ?_))));refine bR.push (F:=λb=>w.size<=b) (vs:=v3 q) hl (λb z=>by have:=Y.1;show w.size<=b;omega) rfl rfl (by simp[v3,dN]) O O λs' u' hsl eu' Z=>?_;refine cA (m:=k+1) O O ⟨⟨k+1,rfl,O,Y.trans eu',?_⟩,O⟩;rw[htk,uN,tF (by simpa using aa),List.filter_nil,CD];exact Z
    ·have heq:q.1=ax:=by simpa using heq
     refine cA (m:=k+1) O O ⟨⟨k+1,rfl,O,Y,?_⟩,O⟩;rw[htk,uN,uB (by simp[heq]),List.filter_nil,j9];exact hl
   ·have hkk:k=kn.length:=by simp only at hge;omega
    subst hkk;rw[zl]at hl;refine aG (o3.xG (bO.to eu0) (aI.mono (aI.cut hl) λb _ z=>.inr ⟨z.1,z.2⟩) λu2 e9 o4=>?_);refine hR j u2 _ H' held' s0' P' _ _ _ _ _ _ _ _ ⟨o4,C,kk,?_,?_⟩ rfl kp W ⟨(((bO.to (e.trans M)).trans (tM K)).trans (bO.to eu0)).trans (tX e9),xi (λb h=>(G b h).imp id λh=>zI X h) (λ_=>.inl) (λb h=>h.imp id λh=>zI (zI X K.1) h.1)⟩
    ·have:(x.je ax j (H'.sp.st.count 2)).cS=x.cS:=by
      unfold Me.je Me.count Me.eO;rw[zB g,zB g,zA aB];rfl
     rw[this];exact o.al
    ·have h4:=o.pk;obtain⟨vv,hvv⟩:=hv;have hvr:=o.mi.v _ (KX hvv);have h5:(x.je ax j (H'.sp.st.count 2)).sum=x.sum-vv:=by
      unfold Me.je Me.count Me.eO;rw[zB g,zB g,zA aB];unfold Me.forget;rw[hvv];rfl
     have B:=yf ((if j=0 then x.forget ax else x).count j false) (H'.sp.st.count 2:Nat)
     have U:=G4 (if j=0 then x.forget ax else x) j false
     have V:(if j=0 then x.forget ax else x).dM=x.dM:=by split<;>rfl
     have h6:(x.je ax j (H'.sp.st.count 2)).dM=(Me.eO ((if j=0 then x.forget ax else x).count j false) (H'.sp.st.count 2:Nat)).dM:=rfl
     have h7:(x.je ax j (H'.sp.st.count 2)).sum=(Me.eO ((if j=0 then x.forget ax else x).count j false) (H'.sp.st.count 2:Nat)).sum:=rfl
     have h8:(x.je ax j (H'.sp.st.count 2)).dM=x.dM:=by
      rw[h6,B.2.2.2.2.1,U.2.1,V];have:((if j=0 then x.forget ax else x).count j false).sum=x.sum-vv:=by rw[←B.2.2.2.2.2.2,←h7];exact h5
      rw[this];exact zA (by simp only at hvr;omega)
     simp only at hvr;exact⟨by rw[h5,h8];omega,by rw[h8];exact h4.2⟩
  ·have g:j≠0:=by simpa using h0
   have ab:H'.live=H.live:=by
    rcases fe with⟨_,B,_⟩|⟨_,_,_,B⟩|⟨_,b,_,B,_⟩
    ·rw[B]
    ·exact B
    ·exact absurd B g
   have C:=o.mi.je (a:=ax) (e:=j) (D:=H'.sp.st.count 2) o2.p.m.nodup (λh=>absurd h g) hc Q;have hf:(x.je ax j (H'.sp.st.count 2)).cS=x.cS/\(x.je ax j (H'.sp.st.count 2)).sum=x.sum/\(x.je ax j (H'.sp.st.count 2)).dM=x.dM:=by
    have h4:=o.pk;unfold Me.je Me.count Me.eO;rw[zA g,zA g];exact⟨rfl,rfl,zA aC⟩
   exact hR j w _ H' held' s0' P' _ _ _ _ _ _ _ _ ⟨o3,C,o.k.qU kp.1 g ab,by rw[hf.1];exact o.al,by rw[hf.2.1,hf.2.2];exact o.pk⟩ rfl kp W ⟨(bO.to (e.trans M)).trans (tM K),xi (λb h=>(G b h).imp id λh=>zI X h) (λ_=>.inl) (λ_=>.inl)⟩
 have k1:d.kd≠121:=by simpa using hk1
 have W:∀H',ru d x x H':=λH'=>⟨by rw[zA O];omega,ri _,ri _,λh=>O⟩;refine Cp (λr w=>v1=w/\(r=true->d.kd=2\/d.kd=3\/d.kd=8\/d.kd=9\/d.kd=10)) (λr w ⟨hw,hr⟩=>?_) λJ hJ=>?_
 ·subst hw;refine cU (λht=>?_) λhf=>hR 0 v1 L H held s0 P x _ _ _ _ _ _ _ (o.fr (e.trans M)) rfl (Qb.refl _) (W H) ⟨bO.to (e.trans M),λ_=>.inl⟩;have S:=hr ht;refine⟨λm=>bO v1 m,Ext.refl _ _,aG (bX.rH (c:=.p) (y:=some ⟨L.p,0,none⟩) o2.b rfl (aG (bX.rH (c:=.s) (y:=addrs) o2.b rfl (bX.rH (c:=bN) (y:=d.kd) A rfl (bX.rH (c:=bN) (y:=d.th) A rfl (bX.rH (c:=bN) (y:=d.a) A rfl (bX.rH (c:=bN) (y:=d.b) A rfl (bX.rH (c:=bN) (y:=d.of) A rfl (bX.rH (c:=bN) (y:=d.pl) A rfl (bX.rH (c:=bN) (y:=d.va) A rfl (bX.rH (c:=.str) (y:=d.s) A rfl ?_)))))))))))⟩;refine AT o2.p.h (gc.bK o2.p.e) o2.p.hi o2.p.cf (by have:=o2.p.pg;omega) (bR.fX o2.ra) d di S λa' e' n' w ts H' K V dq=>?_;obtain⟨held',s0',hi'⟩:=dq.hi;have p3:=o2.p.step K V hi' dq.kp (dq.ph o2.p.ph);have o3:=o2.fO (K.sub λb z=>.inl z) p3 rfl λb z=>z.1;exact hR e' w _ H' held' s0' _ x _ _ _ _ _ _ _ ⟨o3,o.mi,o.k.same dq.live dq.kp.1,o.al,o.pk⟩ rfl dq.kp (W H') ⟨(bO.to (e.trans M)).trans (tM (K.sub λb z=>.inl z)),xi (λb z=>z.1.imp id λh=>zI X h) (λ_=>.inl) (λ_=>.inl)⟩
 ·exact cU (λh=>hJ _ _ ⟨rfl,λ_=>.inl (by simpa using h)⟩) λ_=>cU (λh=>hJ _ _ ⟨rfl,λ_=>.inr (.inl (by simpa using h))⟩) λ_=>cU (λh=>hJ _ _ ⟨rfl,λ_=>.inr (.inr (.inl (by simpa using h)))⟩) λ_=>cU (λh=>hJ _ _ ⟨rfl,λ_=>.inr (.inr (.inr (.inl (by simpa using h))))⟩) λ_=>hJ _ _ ⟨rfl,λh=>.inr (.inr (.inr (.inr (by simpa using h))))⟩
end Go.Ar
namespace Go.Ar
open Go Go.Vc Go.Proofs
open Go.Vc (bV dF cT)
variable {σ w w':Hp}{l:Sl}{ds:List fR}
def vN (d:fR):Bool:=d.kd==120||d.kd==121
theorem Po (d:fR):(if vN d=true then 1 else 0)=if d.kd=120\/d.kd=121 then 1 else 0:=by
 unfold vN;by_cases h1:d.kd=120
 ·simp[h1]
 ·by_cases h2:d.kd=121
  ·simp[h2]
  ·simp[h1,h2]
set_option maxRecDepth 8000 in
theorem Rz (gl:Gl σ)(gc:Gc σ)(b b1 b2 b3 b4 b5:Int)(hd:j0 σ l ds)(most:Int)(hmost:most<=60){R:Option Addr->Hp->Prop}(h0:∀σ',bO σ σ'->R none σ')
 (h1:∀σ' xb L H held s0 P mb am x Qa Qk addrs ad kns kn mo,OP σ σ' xb L H held s0 P mb am x Qa Qk addrs ad kns kn mo->x.calls=ds.countP vN->(H.cf.aF:Int)=b1->ds.length<=60->R (some ⟨xb,0,none⟩) σ'):X4.c b b1 b2 b3 b4 b5 l most σ R:=by
 refine X4.o ?_;unfold X4.v;have hl:=hd.len;have hbig:=hd.xS;refine nw (cs:=[.int .i64 b,.int .i64 b1,.int .i64 b2,.int .i64 b3,.int .i64 b4,.int .i64 b5]) λv hz e g=>g.rI rfl (g.rI rfl (g.rI rfl (g.rI rfl (g.rI rfl (g.rI rfl (WO.o ?_))))));unfold WO.v;refine nw (cs:=[.int .i64 b,.int .i64 b1,.int .i64 b2,.int .i64 b3,.int .i64 b4,.int .i64 b5]) λv1 Z e1 S=>S.gF rfl ?_;have j:=e.trans e1;have s:=e1.bZ g id;refine Ha (λr w=>v1=w/\(r=false->b1<=128/\(ds.length:Int)<=most)) (λr w ⟨hw,hr⟩=>?_) λJ hJ=>cI (λh=>hJ _ _ ⟨rfl,λh=>by cases h⟩) λh=>Mx (hJ _ _ ⟨rfl,λh'=>by have:=sg h';exact⟨O,O⟩⟩);subst hw;refine cU (λht=>h0 v1 j) λhf=>?_;obtain⟨hpg,hlm⟩:=hr hf;refine s.rI rfl (s.rI rfl (s.rI rfl (s.rI rfl (s.rI rfl (s.rI rfl ?_)))));refine NN (gl.bK j) (gc.bK j).gd b b1 b2 b3 b4 b5 (λv2 X=>cK rfl (h0 v2 (j.trans X))) λv2 L0 N H0 X hsN hNv hh D=>cG rfl ?_;have K:=j.trans X;refine I3 K hh.cut D.hi D.cf D.ph (by have:=D.pg;omega) (λb g=>⟨by have:=j.1;have:N<=b:=g.1;omega,g.2⟩) (Bj gl gc.gd) λw mb am e3 hm1 hm2 p=>bY.intro (cG rfl (cG rfl ?_));refine nw (cs:=ns L0.p mb ⟨none,0,0⟩ ⟨none,0,0⟩ 0) λw1 Z e4 G=>?_;have p4:=p.fr e4;have hmb:=p.b.lt;have ham:=p.m.lt;have W:=p.e.1;have o4:OP σ w1 w.size L0 H0 [] (Vq H0.cf.aF) _ mb am oL (λ_=>False) (λ_=>False) ⟨none,0,0⟩ [] ⟨none,0,0⟩ [] 0:=
  ⟨⟨p4,G,⟨rfl,.inl ⟨rfl,rfl⟩⟩,⟨rfl,.inl ⟨rfl,rfl⟩⟩,⟨W,λhP=>by have:=(p.pP _ hP).2;omega,O,O,id,id⟩,λb g=>g.elim,λb g=>g.elim,λb g=>g.elim⟩,Cs,⟨rfl,by rw[D.live];rfl,by simp,rfl⟩,by simp,by simp[oL]⟩
 refine ZU (a:=bN) (λ(z:Int) u=>∃(i:Nat) (L:dR) (H:Hw) (held:List Pc) (s0:Sp) (P:Rg) (x:Me) (Qa Qk:Rg) (addrs:Sl) (ad:List Int) (kns:Sl) (kn:List Kn) (mo:Int),z=i/\i<=ds.length/\OP σ u w.size L H held s0 P mb am x Qa Qk addrs ad kns kn mo/\x.calls=(ds.take i).countP vN/\(H.cf.aF:Int)=b1) (λz _=>ds.length-z.toNat)
  ⟨0,L0,H0,_,_,_,_,_,_,_,_,_,_,_,rfl,O,o4,by simp[oL,Me.calls],D.pg⟩ ?_
 rintro(z:Int) u ⟨i,L,H,held,s0,P,x,Qa,Qk,addrs,ad,kns,kn,mo,rfl,hi,o,hcl,hpp⟩;refine cI (λhlt=>?_) λhge=>?_
 ·have F:ds[i]?=some (ds[i]' O):=cM _;generalize (ds[i]' O)=d at F;have Q:=hd.i _ (zE F);have hle:(ds.take i).countP vN<=60:=by
   have h1:=vj (p:=vN) (l:=ds.take i);rw[zO]at h1;omega
  refine hd.rd o.f.p.e F λba oa B=>dS (B _ o.f.p.e 0 _ rfl) (dS (B _ o.f.p.e 1 _ rfl) (dS (B _ o.f.p.e 2 _ rfl) (dS (B _ o.f.p.e 3 _ rfl) (dS (B _ o.f.p.e 4 _ rfl) (dS (B _ o.f.p.e 5 _ rfl) (dS (B _ o.f.p.e 6 _ rfl) (Cb (B _ o.f.p.e 7 _ rfl) ?_)))))));refine Ml o gc O d Q λer u2 L' H' C Y P' y Qa' Qk' A M E V U o' hLp kp po _=>?_;refine cA (m:=i+1) O O ⟨⟨i+1,L',H',C,Y,P',y,Qa',Qk',A,M,E,V,U,rfl,O,o',?_,by rw[kp.2.1];exact hpp⟩,O⟩;rw[po.calls,hcl,←Po,zg,F,vH];simp[qD]
 ·have aa:i=ds.length:=by omega
  subst aa;rw[zl]at hcl;exact h1 u w.size L H held s0 P mb am x Qa Qk addrs ad kns kn mo o hcl hpp O
end Go.Ar
namespace Go.Proofs
open Go.Vc
set_option maxRecDepth 100000
end Go.Proofs
namespace Go.Ar
open Go Go.Vc Go.Proofs
open Go.Vc (bV dF cT)
variable {σ w w':Hp}{l:Sl}{ds:List fR}
theorem Eo {α:Type}{f g:α->Int}:∀{l:List α},(∀a∈l,f a<=g a)->(l.map f).sum<=(l.map g).sum
 | [],_=>by simp
 | a::l,h=>by
  have h1:=h a kX;have e:=Eo λb d=>h b (kL _ d);simp only[zJ,zm];omega
end Go.Ar
namespace Go.Ar
open Go Go.Vc Go.Proofs
open Go.Vc (bV dF cT)
variable {σ v w w':Hp}{F:Rg}{tb:List bW}{asked:List (Int×Int)}{bs:List Bk}{H:Hw}{x:Me}{kn:List Kn}{held:List Pc}{s0:Sp}
theorem FZ {l:List U6}{i:Nat}{r:U6}(h:l[i]?=some r){j:Nat}(hj:j<6):(mg l)[i*6+j]?=(mB r)[j]? := by
 unfold mg
 induction l generalizing i with
 | nil=>simp at h
 | cons a l ih=>
  rw[mO];have b:(mB a).length=6:=by simp[mB]
  cases i with
  | zero=>
   simp only[uP,Option.some.injEq]at h;subst h;rw[zd O,tz,zG]
  | succ i=>
   rw[yJ]at h;rw[zn O,b,show(i+1)*6+j-6=i*6+j by omega];exact ih h
theorem wy {s:Sl}{l:List U6}(hs:cR s 6 (mg l) σ F){i:Nat}{r:U6}(hb:l[i]?=some r){K:Addr->Prop}(hK:∀bb o,(∀(j:Nat) v,(mB r)[j]?=some v->cell σ ⟨bb,o+j,none⟩=some v)->K ⟨bb,o,none⟩):Ix s.a s.len (i:Int) 6 K:=by
 have u:=(cQ.1 hb).1;have w:s.len=l.length:=by have:=hs.1;rw[wS]at this;omega
 obtain⟨b,o,g,_⟩:=hs.cell (j:=i*6+0) (v:=.int .i64 r.1) ((FZ hb O).trans rfl);rw[g];refine ix O O ?_;rw[add_lit];refine hK b _ λj v e=>?_;have m:j<6:=(cQ.1 e).1;obtain⟨y,x,d,p⟩:=hs.cell ((FZ hb m).trans e);rw[g]at d;cases d;rw[show o+(i:Int).toNat*6+j=o+(i*6+j) by omega];exact p
theorem Lh {j:Nat}{r:U6}(h:Ge tb asked bs j=some r):r=((j:Int)-1,kS tb j,uS one bs ((j:Int)-1),uS lh bs ((j:Int)-1),uS (mW asked) bs ((j:Int)-1),lf tb j (uS one bs ((j:Int)-1)))/\uS one bs ((j:Int)-1)≠0:=by
 unfold Ge at h;split at h
 ·cases h
 ·rename_i h0;exact⟨(Option.some.inj h).symm,h0⟩
theorem PF {m:Nat}{r:U6}(h:r∈lQ tb asked bs m):∃j,j<m/\Ge tb asked bs j=some r:=by
 unfold lQ at h;obtain⟨j,a,b⟩:=vw.1 h;exact⟨j,zU.1 a,b⟩
structure Cd (tb:List bW) (asked:List (Int×Int)) (bs:List Bk) (r:U6):Prop where
 live:r.2.2.1=uS one bs r.1
 bytes:r.2.2.2.1=uS lh bs r.1
 ask:r.2.2.2.2.1=uS (mW asked) bs r.1
 ne:uS one bs r.1≠0
 cls : -1<=r.1/\r.1<tb.length
 cl:∀c:Nat,r.1=c->r.2.1=((tb.getD c ⟨8,1,1⟩).size:Int)/\r.2.2.2.2.2=(uS one bs r.1+((tb.getD c ⟨8,1,1⟩).n:Int)-1)/((tb.getD c ⟨8,1,1⟩).n:Int)
theorem LF {r:U6}(h:r∈lQ tb asked bs (tb.length+1)):Cd tb asked bs r:=by
 obtain⟨j,g,b⟩:=PF h;obtain⟨rfl,d⟩:=Lh b;refine⟨rfl,rfl,rfl,d,by simp only;omega,λc e=>?_⟩;simp only at e;have a:j-1=c:=by omega
 simp only;unfold kS lf;rw[zA O,zA O,a];exact⟨rfl,rfl⟩
theorem Ny {f:Bk->Int}{c:Int}(h:uS one bs c=0):uS f bs c=0:=y8 h
theorem SZ (f:Bk->Int)(m:Nat):((lQ tb asked bs m).map λr=>uS f bs r.1).sum=((List.range m).map λj:Nat=>uS f bs ((j:Int)-1)).sum:=by
 induction m with
 | zero=>rfl
 | succ m ih=>
  rw[Em,zz,zu,zu,qo,qo,ih]
  congr 1
  cases h:Ge tb asked bs m with
  | none=>
   have a:uS one bs ((m:Int)-1)=0:=by
    unfold Ge at h;split at h
    ·assumption
    ·cases h
   simp[Ny a]
  | some r=>rw[(Lh h).1];simp
theorem Pz (c:Int)(y:Int)(m:Nat)(h : -1<=c):((List.range m).map λj:Nat=>if c=(j:Int)-1 then y else 0).sum=if c+1<(m:Int)then y else 0:=by
 induction m with
 | zero=>simp;omega
 | succ m ih=>
  rw[zz,zu,qo,ih];simp only[zJ,pI,zm,List.sum_nil,Int.add_zero];by_cases h1:c+1<(m:Int)
  ·rw[zB h1,zA O,zB O];omega
  ·by_cases h2:c=(m:Int)-1
   ·rw[zA h1,zB h2,zB O];omega
   ·rw[zA h1,zA h2,zA O];rfl
theorem AV {α:Type}(f g:α->Int)(l:List α):(l.map λa=>f a+g a).sum=(l.map f).sum+(l.map g).sum:=by
 induction l with
 | nil=>rfl
 | cons a l ih=>simp only[zJ,zm,ih];omega
theorem Lz (f:Bk->Int)(m:Nat):∀{bs:List Bk},(∀b∈bs, -1<=b.2.2.1/\b.2.2.1+1<(m:Int))->((List.range m).map λj:Nat=>uS f bs ((j:Int)-1)).sum=(bs.map f).sum
 | [],_=>by
  have:(λj:Nat=>uS f [] ((j:Int)-1))=λ_=>0:=rfl;rw[this];generalize List.range m=l
  induction l with
  | nil=>rfl
  | cons a l ih=>simp only[zJ,zm];simpa using ih
 | b::bs,h=>by
  have e:(λj:Nat=>uS f (b::bs) ((j:Int)-1))=λj:Nat=>(if b.2.2.1=(j:Int)-1 then f b else 0)+uS f bs ((j:Int)-1):=rfl
  have d:=h b kX;rw[e,AV,Pz _ _ _ d.1,zB d.2,Lz f m λb g=>h b (kL _ g)];rfl
theorem Sn (f:Bk->Int){m:Nat}(h:∀b∈bs, -1<=b.2.2.1/\b.2.2.1+1<(m:Int)):((lQ tb asked bs m).map λr=>uS f bs r.1).sum=(bs.map f).sum:=by rw[SZ,Lz f m h]
theorem JE {f:Bk->Int}{c y:Int}:∀{bs:List Bk},(∀b∈bs,b.2.2.1=c->f b=y)->uS f bs c=uS one bs c*y
 | [],_=>by simp[uS]
 | b::bs,h=>by
  have h1:uS one (b::bs) c=(if b.2.2.1=c then 1 else 0)+uS one bs c:=rfl
  have a:uS f (b::bs) c=(if b.2.2.1=c then f b else 0)+uS f bs c:=rfl
  rw[h1,a,JE λb d=>h b (kL _ d)];by_cases hc:b.2.2.1=c
  ·rw[zB hc,zB hc,h b kX hc,Int.add_mul,Int.one_mul]
  ·rw[zA hc,zA hc,Int.zero_add,Int.zero_add]
theorem KI.AK (k:KI H x kn)(hi:HI H held s0)(hl:jn H.live bs)(f:Int×Int×Int->Int):(bs.map λb=>f (b.1,b.2.1,b.2.2.1)).sum=(kn.map λq=>f (vS H.tb q)).sum:=by
 have a:=J9 ((IW hi hl).map λe=>f (e.1,e.2.2.1,e.2.2.2.1));rw[zt]at a;have d:=congrArg (List.map f) k.live;rw[zt,zt]at d;have g:(bs.map λb=>f (b.1,b.2.1,b.2.2.1)).sum=(H.live.map λe=>f (e.1,e.2.2.1,e.2.2.2.1)).sum:=a;rw[g];exact congrArg List.sum d
theorem KI.Jk (k:KI H x kn)(hl:jn H.live bs){b:Bk}(hb:b∈bs):∃q∈kn,vS H.tb q=(b.1,b.2.1,b.2.2.1):=by
 have a:(b.1,b.2.1,b.2.2.1)∈H.live.map (λe=>(e.1,e.2.2.1,e.2.2.2.1)):=zC.2 ⟨_,(hl.mem b).1 hb,rfl⟩;rw[k.live]at a;obtain⟨q,d,g⟩:=zC.1 a;exact⟨q,d,g⟩
theorem WmN (tb:List bW)(size align:Int) : -1<=kv tb size align/\kv tb size align+1<((tb.length+1:Nat):Int):=by
 unfold kv;cases h:gE tb size align with
 | none=>simp only;omega
 | some k=>
  have:=(yp.1 h).1;simp only;omega
theorem KI.cls (k:KI H x kn)(hl:jn H.live bs){b:Bk}(hb:b∈bs) : -1<=b.2.2.1/\b.2.2.1+1<((H.tb.length+1:Nat):Int):=by
 obtain⟨q,_,d⟩:=k.Jk hl hb;have a:kv H.tb q.2.1 q.2.2=b.2.2.1:=congrArg (λe:Int×Int×Int=>e.2.2) d;rw[←a];exact WmN _ _ _
theorem KI.size (k:KI H x kn)(hl:jn H.live bs){b:Bk}(hb:b∈bs){c:Nat}(hc:b.2.2.1=(c:Int)):b.2.1=((H.tb.getD c ⟨8,1,1⟩).size:Int):=by
 obtain⟨q,i,d⟩:=k.Jk hl hb;have a:kv H.tb q.2.1 q.2.2=b.2.2.1:=congrArg (λe:Int×Int×Int=>e.2.2) d;have m:(qM H.tb q.2.1 q.2.2).1=b.2.1:=congrArg (λe:Int×Int×Int=>e.2.1) d;have g:=k.arg q i;rw[←m];unfold qM;rw[zB ⟨g.2.1,g.2.2⟩];unfold kv at a;cases h:gE H.tb q.2.1 q.2.2 with
 | none=>rw[h]at a;simp only at a;omega
 | some j=>
  rw[h]at a;simp only at a ⊢;have:j=c:=by omega
  rw[this]
theorem CM {α:Type}{f:α->Int}{l:List α}{k:Nat}{r:α}(h:l[k]?=some r):((l.take (k+1)).map f).sum=((l.take k).map f).sum+f r:=by
 rw[zg,h];simp
end Go.Ar
namespace Go.Proofs
open Go.Vc
set_option maxRecDepth 100000
def WV.h:Hn:=.q .o2 (.q .o4 (.q (.q .o2 .aJ) (.q (.cV (.held true [] (.tk [0,1,2,3,5,6,7,8] (.all [(4,.all [(9,.take 10 (.take 11 (.done)))])])))) (.q .o4 (.q (.q .o1 (.k (.loop [(8,.I),(9,.I),(10,.I)] (.q (.q .o4 (.c .l .l)) (.q (.k (.q (.q .o6 (.c (.q .o8 .l) .l)) (.q (.q .o8 .aK) (.q (.o 11) (.q .fV .o4))))) .o3))))) (.q (.q .o1 (.k (.loop [(9,.I),(12,.I)] (.q (.q .o7 (.c .l .l)) (.q (.k (.q (.cV (.held true [] (.take 0 (.take 1 (.take 2 (.take 3 (.take 4 (.take 5 (.take 6 (.take 7 (.take 8 (.take 9 (.take 10 (.take 11 (.take 12 (.take 13 (.take 14 (.take 15 (.take 16 (.all [(17,.take 18 (.take 19 (.take 20 (.take 21 (.take 22 (.done))))))])))))))))))))))))))) (.q (.q (.cV (.seq [.op,.op,.op,.dD false 2 [.op,.op]])) .aK) .o4))) .o3))))) (.q (.cV (.seq [.op,.op,.op,.op,.dD true 1 [.op],.op])) .l)))))))
def WV.v (a b c d e f:Int)(g:Sl)(h:Hp)(i:aO):Prop:=aV #[.I a,.I b,.I c,.I d,.I e,.I f] 65 h λj k=>aQ j 0 k λl=>aQ j 1 k λm=>aQ j 2 k λn=>aQ j 3 k λo=>aQ j 4 k λp=>aQ j 5 k λq=>X4.c l m n o p q g 60 k λr s=>If r.isNone (Xg.c s λt u=>i t u) (dT s λv=>bS r λw=>aU v w 0 λx=>bS r λy=>aU v y 1 λz=>Yu.c x s λaa ab=>And (v ab) <| XS.c z ab λac ad=>And (v ad) <| WF.c r ad λae af=>W6 [bN,bN,bN] (λag=>ag 0 ae 0 af) λah (ai:Int) (aj:Int) (ak:Int) al=>If (ak<((ac.len:Nat):Int)) (Ix ac.a ac.len ak 6 λam=>aQ am 0 al λan=>If (an<0) (Ix ac.a ac.len ak 6 λao=>aQ ao 3 al λap=>bL (ai+ap) λaq=>bL (ak+1) λar=>ah aq aj ar al) (Ix ac.a ac.len ak 6 λau=>aQ au 0 al λav=>If (av≥((aa.len:Nat):Int)) (i false al) (Ix ac.a ac.len ak 6 λaw=>aQ aw 0 al λax=>Ix aa.a aa.len ax 3 λay=>aQ ay 1 al λaz=>bL (az*256) λa0=>Ix ac.a ac.len ak 6 λa1=>aQ a1 5 al λa2=>bL (a2*a0) λa3=>bL (ai+a3) λa4=>bL (aj+a0) λa5=>bL (ak+1) λa6=>ah a4 a5 a6 al))) (W6 [bN,bN] (λa7=>a7 aj 0 al) λa8 (a9:Int) (ba:Int) bb=>bE r 3 bb λbd=>If (ba<((bd.len:Nat):Int)) (dT bb λbe=>bS r λbf=>aT be bf 3 λbg=>Ix bg.a bg.len ba 3 λbh=>
 aS be bh 1 λbi=>bS r λbj=>aT be bj 3 λbk=>Ix bk.a bk.len ba 3 λbl=>aS be bl 2 λbm=>Z1.c aa bi bm bb λbn bo bp=>And (be bp) <| bY (λbq br=>If bq (i false br) (bL (a9+bn) λbs=>bL (ba+1) λbt=>a8 bs bt br)) λbu=>If (bo != 0) (bu true bp) (bu (decide (bn<0)) bp)) (bY (λbv bw=>i bv bw) λbx=>If (ai<=a9) (Xg.c bb λbz b0=>bx bz b0) (bx false bb))))
theorem WV.o {a b c d e f g h i}(j:WV.v a b c d e f g h i):WV.c a b c d e f g h i:=Wa Tryz.func8 (x:=WV.h) (R0 j)
end Go.Proofs
namespace Go.Ar
open Go Go.Vc Go.Proofs
open Go.Vc (bV dF cT)
variable {σ w w':Hp}{l:Sl}{ds:List fR}{tb:List bW}{asked:List (Int×Int)}{bs:List Bk}{H:Hw}{x:Me}{kn:List Kn}{held:List Pc}{s0:Sp}
def wC (tb:List bW)(c:Nat):Int:=((tb.getD c ⟨8,1,1⟩).size:Int)+((((tb.getD c ⟨8,1,1⟩).tail+(tb.getD c ⟨8,1,1⟩).n-1)/(tb.getD c ⟨8,1,1⟩).n:Nat):Int)
def wV (tb:List bW)(b:Bk):Int:=if 0<=b.2.2.1 then wC tb b.2.2.1.toNat else b.2.1
def qf (tb:List bW)(r:U6):Int:=((tb.getD r.1.toNat ⟨8,1,1⟩).aF:Int)*256
def gN (tb:List bW)(r:U6):Int:=if r.1<0 then r.2.2.2.1 else r.2.2.2.2.2*qf tb r
def gM (tb:List bW)(r:U6):Int:=if r.1<0 then 0 else qf tb r
theorem OY {L n size tail span d s:Int}(hL:1<=L)(hn:1<=n)(hs:0<=size)(hd:0<=d)(hsp:span=n*size+tail)(hd1:tail<=n*d)(hs1:n*s<=L+n-1)(hs2:1<=s):s*span<=span+L*(size+d):=by
 obtain⟨t,rfl⟩:∃t,s=t+1:=⟨s-1,O⟩;have e:n*t<=L-1:=by rw[Int.mul_add,Int.mul_one]at hs1;omega
 have i:t*span=(n*t)*size+t*tail:=by rw[hsp,Int.mul_add,←Int.mul_assoc,Int.mul_comm t n]
 have b:t*tail<=t*(n*d):=BU hd1 O;have g:t*(n*d)=(n*t)*d:=by rw[←Int.mul_assoc,Int.mul_comm t n]
 have a:(n*t)*(size+d)<=L*(size+d):=Int.mul_le_mul_of_nonneg_right O O;rw[Int.mul_add]at a;rw[Int.add_mul,Int.one_mul];omega
theorem Sj {f g:Bk->Int}{c:Int}(h:∀b∈bs,b.2.2.1=c->f b=g b):uS f bs c=uS g bs c:=by
 unfold uS;refine congrArg List.sum (kD λb a=>?_);by_cases hc:b.2.2.1=c
 ·rw[zB hc,zB hc,h b a hc]
 ·rw[zA hc,zA hc]
theorem Wjg {c:bW}(hc:c.ok):(c.aF:Int)*256=(c.n:Int)*(c.size:Int)+(c.tail:Int)/\(c.tail:Int)<=(c.n:Int)*(((c.tail+c.n-1)/c.n:Nat):Int):=by
 have e:=c.pT;have b:=hc.lr;constructor
 ·unfold bW.tail;omega
 ·have a:=Nat.div_add_mod (c.tail+c.n-1) c.n;have g:=uc (c.tail+c.n-1) b;generalize (c.tail+c.n-1)/c.n=d at a ⊢;omega
theorem DT (hok:∀c∈tb,bW.ok c){r:U6}(ur:Cd tb asked bs r)(hl:bs.length<=1000000):gN tb r<=gM tb r+uS (wV tb) bs r.1/\(0<=r.1->1<=r.2.2.2.2.2/\r.2.2.2.2.2<=1000127):=by
 have u:∀b∈bs,0<=one b/\one b<=1:=λb z=>⟨by unfold one;omega,by unfold one;omega⟩;have F:=sA (bs:=bs) (k:=1) O u r.1;have B:=ur.ne;have J:=ur.cls;by_cases hneg:r.1<0
 ·unfold gN gM;rw[zB hneg,zB hneg,ur.bytes];refine⟨?_,λh=>O⟩;rw[Sj (f:=wV tb) (g:=lh) λb _ z=>by unfold wV lh;rw[zA O]];omega
 ·obtain⟨c,x⟩:=zi (show 0<=r.1 by omega);have j:c<tb.length:=by omega
  have d:=hok _ (zc j);have w:tb.getD c ⟨8,1,1⟩=tb[c]:=by rw[zL,cM j];rfl
  have e:=(ur.cl c x).2;have C:=JE (f:=wV tb) (c:=r.1) (y:=wC tb c) (bs:=bs) λb _ z=>by unfold wV;rw[zB O];congr 1;omega
  unfold gN gM qf;rw[zA hneg,zA hneg,C];rw[show r.1.toNat=c by omega];unfold wC;rw[w]at e ⊢;generalize tb[c]=cl at d e;generalize uS one bs r.1=Lv at F B e ⊢;have H:=d.lr;have D:=d.jg;obtain⟨E,A⟩:=Wjg d;have p:=Int.mul_ediv_add_emod (Lv+(cl.n:Int)-1) (cl.n:Int);have G:=Int.emod_nonneg (Lv+(cl.n:Int)-1) (b:=(cl.n:Int)) O;have i:1<=(Lv+(cl.n:Int)-1)/(cl.n:Int):=Int.le_ediv_of_mul_le O O;have m:=Int.ediv_le_self (a:=Lv+(cl.n:Int)-1) (cl.n:Int) O;rw[←e]at i m p;generalize r.2.2.2.2.2=s at *;refine⟨?_,λ_=>⟨O,O⟩⟩;exact OY O O O (Int.natCast_nonneg _) E A O i
theorem Cv (ht:kr tb){size align:Int}(h:1<=size/\size<=16384/\Kr size align=true)(hok:∀c∈tb,bW.ok c):(VT (tb.map gV) size align).2=0/\0<=(VT (tb.map gV) size align).1/\(VT (tb.map gV) size align).1<=2000 ∧
 size+(VT (tb.map gV) size align).1=(if 0<=kv tb size align then wC tb (kv tb size align).toNat else(qM tb size align).1):=by
 unfold VT kv qM;have b:size<=16384/\Kr size align=true:=h.2;rw[zB (show Qd (tb.map gV)=true from ht),zB b,zB b,E4];cases hc:gE tb size align with
 | none=>simp only;rw[zA O];unfold vA;refine⟨trivial,?_,?_,?_⟩<;>omega
 | some k=>
  obtain⟨c,e,r,_⟩:=L3 hc;have a:=hok c (zE e);obtain⟨g,m,j,i⟩:=Im a;have p:=a.2.1;simp only;rw[zB O,show((k:Int)).toNat=k by omega];unfold wC BK;rw[zL,e];simp only[oV];generalize (c.tail+c.n-1)/c.n=d at *;refine⟨trivial,?_,?_,?_⟩<;>omega
theorem xz {bb o j:Nat}{x:Int}(h:cell σ ⟨bb,o+j,none⟩=some (.int .i64 x)){K:Int->Prop}(hK:K x):gQ (λm=>bO σ m) bN (Addr.add ⟨bb,o,none⟩ j) K:=⟨x,λm a=>by rw[add_lit,QI a (QH h) id];exact h,hK⟩
theorem Ss {s:Sl}{xs:List (Int×Int×Int)}(ha:gB σ s xs){i:Nat}{x y z:Int}(hx:xs[i]?=some (x,y,z)){K:Int->Prop}(hK:K y):Ix s.a s.len (i:Int) 3 λa=>fF .i64 (a.add 1) σ K:=by
 have j:=(cQ.1 hx).1;obtain⟨g,h⟩:=ha;obtain⟨b,o,d,_,_,e,_⟩:=h i x y z hx;rw[d];refine ix O O (nI ?_ hK);rw[add_lit,add_lit];simpa using e
def qF (tb:List bW)(q:Kn):Int:=(VT (tb.map gV) q.2.1 q.2.2).1
theorem MZ (k:KI H x kn)(hi:HI H held s0)(hl:jn H.live bs)(ht:kr H.tb)(hbl:bs.length<=1000000) :
 ((lQ H.tb x.asked bs (H.tb.length+1)).map (gN H.tb)).sum<=((lQ H.tb x.asked bs (H.tb.length+1)).map (gM H.tb)).sum+Hr kn+(kn.map (qF H.tb)).sum:=by
 have s1:=Sn (tb:=H.tb) (asked:=x.asked) (wV H.tb) (m:=H.tb.length+1) λb p=>k.cls hl p;have j:=k.AK hi hl λe=>if 0<=e.2.2 then wC H.tb e.2.2.toNat else e.2.1
 have a:(bs.map (wV H.tb)).sum=(kn.map λq=>q.2.1+qF H.tb q).sum:=by
  refine(show(bs.map (wV H.tb)).sum=_ from j).trans (congrArg List.sum (kD λq s=>?_));exact(Cv ht (k.arg q s) hi.ok).2.2.2.symm
 rw[AV]at a;have u:Hr kn=(kn.map λq=>q.2.1).sum:=rfl;have d:=Eo (f:=gN H.tb) (g:=λr=>gM H.tb r+uS (wV H.tb) bs r.1) (l:=lQ H.tb x.asked bs (H.tb.length+1)) λr i=>(DT hi.ok (LF i) hbl).1;rw[AV,s1,a]at d;omega
set_option maxRecDepth 16000 in
theorem S7 (gl:Gl σ)(gc:Gc σ)(b b1 b2 b3 b4 b5:Int)(hd:j0 σ l ds){R:aO}(hR:∀σ',bO σ σ'->R true σ'):WV.c b b1 b2 b3 b4 b5 l σ R:=by
 refine WV.o ?_;unfold WV.v;refine nw (cs:=[.int .i64 b,.int .i64 b1,.int .i64 b2,.int .i64 b3,.int .i64 b4,.int .i64 b5]) λv hz e N=>N.rI rfl (N.rI rfl (N.rI rfl (N.rI rfl (N.rI rfl (N.rI rfl ?_)))));refine Rz (gl.bK e) (gc.bK e) b b1 b2 b3 b4 b5 (hd.bK e) 60 aB (λv1 M=>?_) λv1 xb L H held s0 P mb am x Qa Qk ai ad ac d mo o hcl hpp hlen=>cG rfl ?_
 ·exact cK rfl (FI (gl.bK (e.trans M)) (gc.bK (e.trans M)).gd λv2 U=>hR v2 ((e.trans M).trans U))
 have E:=e.trans o.f.p.e;refine⟨λm=>bO v1 m,Ext.refl _ _,aG (bX.rH (c:=.p) (y:=some ⟨L.p,0,none⟩) o.f.b rfl (aG (bX.rH (c:=.p) (y:=some ⟨mb,0,none⟩) o.f.b rfl ?_)))⟩;refine Cc o.f.p.h o.f.p.h.lZ λdB w1 M Q=>⟨M,?_⟩;refine FK (o.f.p.fr M) o.mi λs w bs U hl D=>⟨M.trans U,?_⟩;have ew:=M.trans U;have ow:=o.fr ew;have A:gB w dB (H.tb.map gV):=Yc (Hz Q) U;have htl:dB.len=H.tb.length:=by have:=Q.1;rw[Kd]at this;omega
 have W:bs.length<=1000000:=by rw[hl.len];exact o.f.p.hi.iN
 have hW:=MZ o.k o.f.p.hi hl o.f.p.cf.2.2 W;have hul:=Ia H.tb x.asked bs (H.tb.length+1);have F:∀r∈lQ H.tb x.asked bs (H.tb.length+1),Cd H.tb x.asked bs r:=λr g=>LF g;generalize lQ H.tb x.asked bs (H.tb.length+1)=us at D hW hul F;have h40:=ow.f.p.h.lZ;have hsl:s.len=us.length:=by have:=D.1;rw[wS]at this;omega
 have G:=bR.fX D;obtain⟨hkl,hkn⟩:=Pr ow;have hb1:∀b∈bs,0<=lh b/\lh b<=270000:=λb N=>by
  have:=o.f.p.hi.jD ((hl.mem b).1 N);unfold lh;simp only at this;omega
 have B:∀r∈us,0<=r.1->∃c:Nat,r.1=c/\c<H.tb.length/\(H.tb.map gV)[c]?=some (((H.tb.getD c ⟨8,1,1⟩).size:Int),((H.tb.getD c ⟨8,1,1⟩).aF:Int),((H.tb.getD c ⟨8,1,1⟩).batch:Int))/\qf H.tb r=((H.tb.getD c ⟨8,1,1⟩).aF:Int)*256/\1<=(H.tb.getD c ⟨8,1,1⟩).aF/\(H.tb.getD c ⟨8,1,1⟩).aF<=4:=λr g h0=>by
  obtain⟨c,K⟩:=zi h0;have C:c<H.tb.length:=by have:=(F r g).cls;omega
  have ae:=o.f.p.hi.ok _ (zc C);have Z:H.tb.getD c ⟨8,1,1⟩=H.tb[c]:=by rw[zL,cM C];rfl
  refine⟨c,K,C,?_,?_,?_⟩
  ·rw[ze,cM C,Z];rfl
  ·unfold qf;rw[K];rfl
  ·rw[Z];exact⟨ae.2.2.2.1,ae.2.2.2.2.1⟩
 have af:∀r∈us,0<=gN H.tb r/\gN H.tb r<=270000000000:=λr g=>by
  unfold gN;split
  ·rw[(F r g).bytes];have:=sA (bs:=bs) O hb1 r.1;omega
  ·rename_i h0;have h1:=(DT o.f.p.hi.ok (F r g) W).2 O;obtain⟨c,_,_,_,h2,h3,h4⟩:=B r g O;have h5:qf H.tb r<=1024:=by omega
   have h6:r.2.2.2.2.2*qf H.tb r<=1000127*1024:=Int.mul_le_mul h1.2 h5 O O;have h7:0<=r.2.2.2.2.2*qf H.tb r:=Int.mul_nonneg O O;omega
 have ah:∀r∈us,0<=gM H.tb r/\gM H.tb r<=1024:=λr g=>by
  unfold gM;split
  ·omega
  ·obtain⟨c,_,_,_,h2,h3,h4⟩:=B r g O;omega
 have ag:∀q∈d,0<=qF H.tb q/\qF H.tb q<=2000:=λq X=>by
  have:=Cv o.f.p.cf.2.2 (o.k.arg q X) o.f.p.hi.ok;unfold qF;omega
 have hks:=Vl (l:=d) (f:=λk:Kn=>k.2.1) (c:=16384) λq X=>by have:=o.k.arg q X;omega
 have hks':Hr d=(d.map λk:Kn=>k.2.1).sum:=rfl;refine Lo ow.f.b (bR.fX ow.f.rk) O (λq X=>by have:=o.k.arg q X;omega) ?_;refine A9 (a:=bN) (bb:=bN) (c:=bN) (λ(n m i:Int) u=>u=w/\∃q:Nat,i=q/\q<=us.length/\n=((us.take q).map (gN H.tb)).sum/\m=Hr d+((us.take q).map (gM H.tb)).sum) (λ_ _ i _=>us.length-i.toNat) ⟨rfl,0,rfl,O,by simp,by simp⟩ ?_;rintro(n:Int) (m:Int) (i:Int) u ⟨rfl,q,rfl,X,rfl,rfl⟩;have c1:=Vl (l:=us.take q) (f:=gN H.tb) λr g=>af r (mc g);have c2:=Vl (l:=us.take q) (f:=gM H.tb) λr g=>ah r (mc g);have hlq:(us.take q).length=q:=by rw[zO];omega
 rw[hlq]at c1 c2;refine cI (λab=>?_) λaa=>?_
 ·have hq':q<us.length:=by omega
  have j:us[q]?=some us[q]:=cM _;have J:=zE j;generalize us[q]=r at j J;have b1:=CM (f:=gN H.tb) j;have b2:=CM (f:=gM H.tb) j;have g1:=af r J;have g2:=ah r J;refine wy G j λbb Y z=>dS (z 0 _ rfl) (cI (λS=>?_) λV=>?_)
  ·have d1:gN H.tb r=r.2.2.2.1:=zB S;have d2:gM H.tb r=0:=zB S;exact wy G j λbb Y z=>dS (z 3 _ rfl) (ar O O (cA (m:=q+1) O O ⟨⟨rfl,q+1,rfl,O,by rw[b1,d1],by rw[b2,d2];omega⟩,O⟩))
  ·obtain⟨c,K,C,hx,h2,h3,h4⟩:=B r J O;have h5:=(DT o.f.p.hi.ok (F r J) W).2 O;have d1:gN H.tb r=r.2.2.2.2.2*qf H.tb r:=zA V;have d2:gM H.tb r=qf H.tb r:=zA V;refine wy G j λbb Y z=>dS (z 0 _ rfl) (cI (λh=>absurd h O) λh=>wy G j λbb Y z=>dS (z 0 _ rfl) ?_);rw[K];refine Ss A hx (ar O O (wy G j λbb Y z=>dS (z 5 _ rfl) ?_));rw[←h2];refine ar O O (ar O O (ar O O (cA (m:=q+1) O O ⟨⟨rfl,q+1,rfl,O,by rw[b1,d1],by rw[b2,d2];omega⟩,O⟩)))
 ·have hqq:q=us.length:=by omega
  subst hqq;rw[zl]at c1 c2 ⊢;refine Kf (a:=bN) (bb:=bN) (λ(m i:Int) w=>bO u w/\∃k:Nat,i=k/\k<=d.length/\m=Hr d+(us.map (gM H.tb)).sum+((d.take k).map (qF H.tb)).sum) (λ_ i _=>d.length-i.toNat) ⟨Ext.refl _ _,0,rfl,O,by simp⟩ ?_;rintro(m:Int) (i:Int) w ⟨eu,k,rfl,hk,rfl⟩;have o2:=ow.fr eu;have c3:=Vl (l:=d.take k) (f:=qF H.tb) λr g=>ag r (mc g);have hlk:(d.take k).length=k:=by rw[zO];omega
  rw[hlk]at c3;refine aG (o2.f.b.rS rfl (cI (λab=>?_) λaa=>?_))
  ·have hk':k<d.length:=by simp only at ab;omega
   have j:d[k]?=some d[k]:=cM _;have J:=zE j;generalize d[k]=r at j J;have b3:=CM (f:=qF H.tb) j;have g:=ag r J;have hbv:=Cv o.f.p.cf.2.2 (o.k.arg r J) o.f.p.hi.ok;refine⟨λm=>bO w m,Ext.refl _ _,aG (bX.rH (c:=.s) (y:=ac) o2.f.b rfl (vR (bR.fX o2.f.rk) j λbb Y z=>xz (z 1 _ rfl) (aG (bX.rH (c:=.s) (y:=ac) o2.f.b rfl (vR (bR.fX o2.f.rk) j λbb Y z=>xz (z 2 _ rfl) ?_)))))⟩;have hbe:(VT (H.tb.map gV) r.2.1 r.2.2).1=qF H.tb r:=rfl;refine FB (Yc A eu) _ _ λw2 U=>⟨U,bY.intro (cG (by rw[hbv.1];rfl) ?_)⟩;rw[hbe];exact cG (zh O) (ar O O (cA (m:=k+1) O O ⟨⟨eu.trans U,k+1,rfl,O,by rw[b3];omega⟩,O⟩))
  ·have hkk:k=d.length:=by simp only at aa;omega
   subst hkk;rw[zl]at c3 ⊢;have E5:=(E.trans ew).trans eu;exact bY.intro (cK (zV O) (FI (gl.bK E5) (gc.bK E5).gd λq eq=>hR q (E5.trans eq)))
end Go.Ar
namespace Go.Ar
open Go Go.Vc Go.Proofs Go.ChangeShapes Go.WideShapes Go.RowKit Go.Deep
theorem GN {H:Type}{enc:TypeId×Value->H}{P:Program}{w:World}{base:Nat}{sp:Nat->Bool}{held:Bool}{fuel:Nat}{t:TypeId}{c:Value}{y:DataW H×List MemPlace}
 (ht:P.underlying t=some .bool) (h:DataW.trod enc P w base sp held fuel t [c]=some y):∃n,c=.bool n/\y=(.lit (.bool n),[]):=by
 cases fuel with
 | zero=>simp[DataW.trod]at h
 | succ fuel=>
  cases c<;>simp[DataW.trod,ht]at h
  rename_i n;exact⟨n,rfl,by simpa using h.symm⟩
theorem AE {P:Program}{w:World}{t:TypeId}{f0 f1:Field}{cs:Array Value}{fuel:Nat}{p:List MemPlace}{x y:Bool}(ht:P.underlying t=some (.struct #[f0,f1]))(hone:oneCellFields P #[f0,f1]=true)(hC:P.cellsOf t=2)
 (h0:P.underlying f0.type=some .bool) (h1:P.underlying f1.type=some .bool) (h:DataW.trod (λ_=>()) P w 0 (λ_=>true) false fuel t cs.toList=some (.agg [.lit (.bool x),.lit (.bool y)],p)):cs = #[.bool x,.bool y]:=by
 obtain⟨A,n,B,i,b,e,a⟩:=DataW.trod_struct ht h;obtain⟨l⟩:=cs;have d:l.length=2:=by rw[←hC];simpa using b
 match l,d with
 | [c0,c1],_=>
  have j:=a 0 f0 rfl;have g:=a 1 f1 rfl;obtain⟨u,m⟩:=hone_of hone 0 f0 rfl;obtain⟨o1,r⟩:=hone_of hone 1 f1 rfl;rw[u,m]at j;rw[o1,r]at g
  match A,e with
  | [y0,y1],_=>
   obtain⟨D,rfl,s⟩:=GN h0 (c:=c0) (y:=y0) (by simpa using j);obtain⟨C,rfl,z⟩:=GN h1 (c:=c1) (y:=y1) (by simpa using g);subst s;subst z;simp at i;obtain⟨⟨rfl,rfl⟩,_⟩:=i;rfl
theorem Gp {w:World}{a:Addr}{v:Value}(h:w.cell? a=some v):cell w.heap a=some v:=h
section
variable {H:Type}{enc:TypeId×Value->H}{P:Program}{w:World}
theorem Nk {x:Int}(h:(Lit.int .i64 x).wf=true):lY x:=by
 unfold lY;simp[Lit.wf,IntKind.min,IntKind.max,IntKind.bits,IntKind.signed]at h;omega
theorem OE {t:TypeId}{f0 f1 f2 f3 f4 f5 f6 f7:Field}{fuel:Nat}{cs:List Value}{y:DataW H×List MemPlace}
 (ht:P.underlying t=some (.struct #[f0,f1,f2,f3,f4,f5,f6,f7])) (hone:oneCellFields P #[f0,f1,f2,f3,f4,f5,f6,f7]=true) (hC:P.cellsOf t=8)
 (h0:P.underlying f0.type=some (.int .i64)) (h1:P.underlying f1.type=some (.int .i64)) (h2:P.underlying f2.type=some (.int .i64)) (h3:P.underlying f3.type=some (.int .i64)) (h4:P.underlying f4.type=some (.int .i64)) (h5:P.underlying f5.type=some (.int .i64)) (h6:P.underlying f6.type=some (.int .i64)) (h7:P.underlying f7.type=some .string)
 (h:DataW.trod enc P w 0 (λ_=>true) true fuel t cs=some y):∃d:fR,cs=qw d/\lx d:=by
 obtain⟨A,n,V,W,e,r,g⟩:=DataW.trod_struct ht h;have i:cs.length=8:=by rw[←hC];exact e
 match cs,i with
 | [c0,c1,c2,c3,c4,c5,c6,c7],_=>
  have one:∀(j:Nat) (f:Field) (c:Value),(#[f0,f1,f2,f3,f4,f5,f6,f7]:Array Field)[j]?=some f->[c0,c1,c2,c3,c4,c5,c6,c7][j]?=some c->∃z,DataW.trod enc P w 0 (λ_=>true) true n f.type [c]=some z:=by
   intro j f c hj hc;obtain⟨F,R⟩:=hone_of hone j f hj;have h3:=g j f hj;rw[F,R]at h3;have b:=(cQ.1 hc).1;have M:([c0,c1,c2,c3,c4,c5,c6,c7].drop j).take 1=[c]:=by
    rw[qh b,sy,Au,(cQ.1 hc).2]
   rw[M]at h3;have p:A[j]?=some (A[j]'(by rw[r];simp at b ⊢;omega)):=cM _;rw[p]at h3;exact⟨_,h3⟩
  have int:∀(j:Nat) (f:Field) (c:Value),(#[f0,f1,f2,f3,f4,f5,f6,f7]:Array Field)[j]?=some f->[c0,c1,c2,c3,c4,c5,c6,c7][j]?=some c->P.underlying f.type=some (.int .i64)->∃x:Int,c=.int .i64 x/\lY x:=by
   intro j f c hj hc hu;obtain⟨z,m⟩:=one j f c hj hc;obtain⟨x,a,_,B⟩:=DataW.trod_int hu m;simp only[List.cons.injEq,and_true]at a;exact⟨x,a,Nk B⟩
  obtain⟨L,rfl,_⟩:=int 0 f0 c0 rfl rfl h0;obtain⟨S,rfl,_⟩:=int 1 f1 c1 rfl rfl h1;obtain⟨C,rfl,J⟩:=int 2 f2 c2 rfl rfl h2;obtain⟨U,rfl,D⟩:=int 3 f3 c3 rfl rfl h3;obtain⟨Q,rfl,_⟩:=int 4 f4 c4 rfl rfl h4;obtain⟨G,rfl,E⟩:=int 5 f5 c5 rfl rfl h5;obtain⟨N,rfl,K⟩:=int 6 f6 c6 rfl rfl h6;obtain⟨z,m⟩:=one 7 f7 c7 rfl rfl;obtain⟨s,u,_⟩:=DataW.trod_string h7 m;simp only[List.cons.injEq,and_true]at u;subst u;exact⟨⟨L,S,C,U,Q,G,N,s⟩,rfl,J,D,E,K⟩
theorem MA {t e:TypeId}{f0 f1 f2 f3 f4 f5 f6 f7:Field}{a:Option Addr}{len cap:Nat}{d:DataW H}{ps:List MemPlace}
 (htl:P.underlying t=some (.slice e)) (ht:P.underlying e=some (.struct #[f0,f1,f2,f3,f4,f5,f6,f7])) (hone:oneCellFields P #[f0,f1,f2,f3,f4,f5,f6,f7]=true) (hC:P.cellsOf e=8)
 (h0:P.underlying f0.type=some (.int .i64)) (h1:P.underlying f1.type=some (.int .i64)) (h2:P.underlying f2.type=some (.int .i64)) (h3:P.underlying f3.type=some (.int .i64)) (h4:P.underlying f4.type=some (.int .i64)) (h5:P.underlying f5.type=some (.int .i64)) (h6:P.underlying f6.type=some (.int .i64)) (h7:P.underlying f7.type=some .string)
 (h:DataW.Trod enc P w 0 (λ_=>true) true t (.slice a len cap) d ps):∃ds,j0 w.heap ⟨a,len,cap⟩ ds:=by
 obtain⟨N,U⟩:=h;rcases open_slice htl U with⟨p,_⟩|⟨ad,len',cap',m,n,D,Pl,p,_,hl,hm,hmm,z,y⟩
 ·simp[Value.cells]at p;obtain⟨rfl,rfl,rfl⟩:=p;exact⟨[],rfl,λi x z=>by simp at z,by simp,by simp⟩
 ·simp[Value.cells]at p;obtain⟨rfl,rfl,rfl⟩:=p;have W:m=cap:=by simpa using hmm
  have key:∀i,i<len->∃u:fR,(∀j v,(qw u)[j]?=some v->cell w.heap ((ad.add (i*8)).add j)=some v)/\lx u:=by
   intro i r;obtain⟨S,F,L⟩:=y i O;rw[hC]at F;obtain⟨x,p,K⟩:=OE ht hone hC h0 h1 h2 h3 h4 h5 h6 h7 L;obtain⟨_,R,J⟩:=World.cells?_some F;refine⟨x,λj v C=>?_,K⟩;have V:=(cQ.1 C).1;have:=J j (by simpa[qw]using V);rw[p]at this;rw[C]at this;exact this
  let g:Nat->fR:=λi=>if y:i<len then(key i y).choose else⟨0,0,0,0,0,0,0,ByteArray.empty⟩
  have Q:∀i,(y:i<len)->g i=(key i y).choose:=λi y=>by simp only[g,y,dif_pos]
  refine⟨(List.range len).map g,by simp,λi x z=>?_,λx z=>?_,?_⟩
  ·have r:i<len:=by
    have:=(cQ.1 z).1;simpa using this
   have B:g i=x:=by simpa[r]using z
   rw[Q i r]at B;have E:=(key i r).choose_spec;rw[B]at E;obtain⟨F,_⟩:=E;have G:=(key 0 O).choose_spec.1;have M:=G 0 _ rfl;have A:=JK M;simp only[tz,Addr.add_zero']at A;obtain⟨b,o,s⟩:=ad;have E:s=none:=A.2;subst E;refine⟨b,o,rfl,A.1,λj v C=>?_⟩;have:=F j v C;rw[add_lit,add_lit]at this;exact this
  ·obtain⟨i,y,rfl⟩:=zC.1 z;have r:=zU.1 y;rw[Q i r];exact(key i r).choose_spec.2
  ·have:maxLen=9223372036854775807:=rfl;simp;omega
theorem Tu {b0:Nat}{t:TypeId}{f0 f1 g0 g1 g2 g3 g4:Field}{v:Value}{d:DataW H}{ps:List MemPlace}
 (ht:P.underlying t=some (.struct #[f0,f1])) (hC:P.cellsOf t=6) (ho:f0.offset=0/\P.cellsOf f0.type=1/\f1.offset=1/\P.cellsOf f1.type=5)
 (h0:P.underlying f0.type=some (.int .i64)) (h1:P.underlying f1.type=some (.struct #[g0,g1,g2,g3,g4])) (hone:oneCellFields P #[g0,g1,g2,g3,g4]=true)
 (k0:P.underlying g0.type=some (.int .i64)) (k1:P.underlying g1.type=some (.int .i64)) (k2:P.underlying g2.type=some (.int .i64)) (k3:P.underlying g3.type=some (.int .i64)) (k4:P.underlying g4.type=some (.int .i64))
 (hval:Value.okWide P w .any b0 t v) (h:DataW.Trod enc P w 0 (λ_=>true) true t v d ps):∃(x0 x1 x2 x3 x4 x5:Int),v=.agg #[.int .i64 x0,.int .i64 x1,.int .i64 x2,.int .i64 x3,.int .i64 x4,.int .i64 x5]:=by
 unfold Value.okWide at hval;rw[ht]at hval;obtain⟨L,rfl,B,_⟩:=hval;obtain⟨a,i⟩:=h;obtain⟨l⟩:=L;have u:l.length=6:=by rw[←hC];simpa using B
 obtain⟨C,m,p,y⟩:=ho
 match l,u with
 | [c0,c1,c2,c3,c4,c5],_=>
  have i:DataW.trod enc P w 0 (λ_=>true) true a t [c0,c1,c2,c3,c4,c5]=some (d,ps):=i;obtain⟨y0,y1,n,_,_,G,J⟩:=trod_struct2 ht i;rw[C,m]at G;rw[p,y]at J;have z:DataW.trod enc P w 0 (λ_=>true) true n f0.type [c0]=some y0:=G;have A:DataW.trod enc P w 0 (λ_=>true) true n f1.type [c1,c2,c3,c4,c5]=some y1:=J;obtain⟨x0,e,_,_⟩:=DataW.trod_int h0 z;simp only[List.cons.injEq,and_true]at e;subst e;obtain⟨F,n,R,Q,K,E,s⟩:=DataW.trod_struct h1 A;have int:∀(j:Nat) (f:Field) (c:Value),(#[g0,g1,g2,g3,g4]:Array Field)[j]?=some f->[c1,c2,c3,c4,c5][j]?=some c->P.underlying f.type=some (.int .i64)->∃x:Int,c=.int .i64 x:=by
   intro j f c hj hc hu;obtain⟨ho,N⟩:=hone_of hone j f hj;have g:=s j f hj;rw[ho,N]at g;have b:=(cQ.1 hc).1;have M:([c1,c2,c3,c4,c5].drop j).take 1=[c]:=by
    rw[qh b,sy,Au,(cQ.1 hc).2]
   rw[M]at g;have D:F[j]?=some (F[j]'(by rw[E];simp at b ⊢;omega)):=cM _;rw[D]at g;obtain⟨x,r,_,_⟩:=DataW.trod_int hu g;exact⟨x,by simpa using r⟩
  obtain⟨x1,rfl⟩:=int 0 g0 c1 rfl rfl k0;obtain⟨x2,rfl⟩:=int 1 g1 c2 rfl rfl k1;obtain⟨x3,rfl⟩:=int 2 g2 c3 rfl rfl k2;obtain⟨x4,rfl⟩:=int 3 g3 c4 rfl rfl k3;obtain⟨x5,rfl⟩:=int 4 g4 c5 rfl rfl k4;exact⟨x0,x1,x2,x3,x4,x5,rfl⟩
end
end Go.Ar