/- Texts joined. -/
import Derived.Test.YtkabjcanamcbeaaGreatDoorRows
import Derived.ChangeVars
import Derived.JoinedOf
import Derived.RowKit
import Derived.WalkKit
import Derived.ProofKit
import Derived.OpenShut
import Derived.ChangeOld
import Derived.Carry
import Derived.Test.YtkabjcanamcbeaaGreatDoorY7
set_option linter.unusedVariables false
set_option linter.unusedSimpArgs false
namespace Go.Ar
open Go Go.Vc Go.Proofs
variable {σ v w:Hp}{s:Sl}{xs:List (Int×Int×Int)}
def JX (c:bW)(size:Int):Int:=(c.size:Int)-size+(((c.tail+c.n-1)/c.n:Nat):Int)
def vn (xs:List (Int×Int×Int))(size align:Int):Int×Int:=if Qi xs then(if size<=16384/\KN size align=true then(match gO (xs.map ZW) size align with
 | some k=>JX ((xs.map ZW).getD k ⟨8,1,1⟩) size
 | none=>xH size-size,0)else(0,1))else(0,2)
theorem Tb (ha:gH σ s xs){i:Nat}{x y z:Int}(hx:xs[i]?=some (x,y,z)){K:Int->Prop}(hK:K x):Ix s.a s.len (i:Int) 3 λa=>fJ .i64 (a.add 0) σ K:=by
 have g:=(cQ.1 hx).1;obtain⟨j,h⟩:=ha;obtain⟨b,o,e,_,d,_⟩:=h i x y z hx;rw[e];refine ix O O (ox ?_ hK);rw[add_lit,add_lit];simpa using d
theorem WgD {c:bW}(hc:c.ok):c.tail<=1024/\1<=c.n/\c.n<=128/\(c.tail+c.n-1)/c.n<=1200:=by
 have b:=hc.ns;have a:=hc.jQ;have d:c.tail<=1024:=by unfold bW.tail;have:=hc.2.2.2.2.1;omega
 exact⟨d,b,a,zI (Nat.div_le_self _ _) O⟩
set_option maxRecDepth 8000 in
theorem RC (ha:gH σ s xs)(size align:Int){R:Int->Int->Hp->Prop}(hR:∀σ',bO σ σ'->R (vn xs size align).1 (vn xs size align).2 σ'):Qg.c s size align σ R:=by
 refine Qg.o ?_;unfold Qg.v;refine HL ha λv e=>?_;have y:=YN ha e;cases hv:Qi xs with
 | false=>
  have:=hR v e;unfold vn at this;rw[hv]at this;exact cJ rfl this
 | true=>
  refine cG rfl ?_;have fin:∀r,r = !decide (size<=16384/\KN size align=true)->(r=true->R 0 1 v)/\(r=false->size<=16384/\KN size align=true):=by
   intro r b;refine⟨λh=>?_,λh=>?_⟩
   ·have hn:¬(size<=16384/\KN size align=true):=by rw[b,ni,decide_eq_false_iff_not]at h;exact h
    have:=hR v e;unfold vn at this;rw[hv,zB rfl,zA hn]at this;exact this
   ·rw[b]at h;simpa using h
  refine UC (λr w=>v=w/\r=decide (size<1\/16384<size)) (λr w ⟨z,b⟩=>?_) λJ d=>cI (λh=>d _ _ ⟨rfl,(zW (.inl h)).symm⟩) λh=>d _ _ ⟨rfl,by rw[decide_eq_decide];omega⟩;subst z;refine UC (λr u=>v=u/\r=decide (size<1\/16384<size\/align<1)) (λr u ⟨z,b⟩=>?_) λJ d=>cU (λh=>d _ _ ⟨rfl,by rw[b]at h;have:=pE h;exact(zW O).symm⟩) λh=>d _ _ ⟨rfl,by rw[b]at h;have:=rW h;rw[decide_eq_decide];omega⟩;subst z;refine UC (λr u=>v=u/\r=decide (size<1\/16384<size\/align<1\/256<align)) (λr u ⟨z,b⟩=>?_) λJ d=>cU (λh=>d _ _ ⟨rfl,by rw[b]at h;have:=pE h;exact(zW O).symm⟩) λh=>d _ _ ⟨rfl,by rw[b]at h;have:=rW h;rw[decide_eq_decide];omega⟩;subst z;refine UC (λr u=>v=u/\r = !decide (size<=16384/\KN size align=true)) (λr u ⟨z,b⟩=>?_) λJ d=>cU (λh=>d _ _ ⟨rfl,?_⟩) λh=>?_
  ·subst z;obtain⟨f1,Y⟩:=fin r b;refine cU f1 λS=>?_;obtain⟨W,j⟩:=Y S;have X:1<=size:=by simp only[KN,zF,zT]at j;exact j.1
   refine FO y hv size align λM L=>?_;have a:=λE (C:bO M E)=>hR E ((e.trans L).trans C);unfold vn at a;rw[hv,zB rfl,zB ⟨W,j⟩]at a;rw[j];cases hcl:gO (xs.map ZW) size align with
   | none=>
    rw[hcl]at a;refine cJ rfl (ar O O (ar O O (nz aB (ar (by rw[YK O];omega) (by rw[YK O];omega) ?_))));rw[YK O];refine ar O O (ar O O ?_);have K:=a M (Ext.refl _ _);simp only[xH]at K;rw[show size+256-1=size+255 by omega];exact K
   | some k=>
    rw[hcl]at a;have hk:k<(xs.map ZW).length:=(x8.1 hcl).1;have x:(xs.map ZW)[k]?=some (xs.map ZW)[k]:=cM hk;generalize (xs.map ZW)[k]=c at x;have D:(xs.map ZW).getD k ⟨8,1,1⟩=c:=by rw[zL,x];rfl
    simp only[D]at a;obtain⟨H,i⟩:=UL y hv x;obtain⟨b1,b2,b3,b4⟩:=WgD i;have A:=YN y L;have aa:=i.2.1;refine cG rfl ?_;simp only[zS,pN];refine UZ A H (UF _ _ _ (λg U Q V N E C=>?_) λp=>?_)
    ·have G:g=c:=by
      cases g;cases c;simp only[bW.mk.injEq]at *;omega
     subst G;obtain⟨q,F⟩:∃q,(g.tail+g.n-1)/g.n=q:=⟨_,rfl⟩;rw[F]at b4;unfold JX at a;rw[F]at a;have B:=YN A C;refine UZ B H (FR i λZ P=>?_);refine Tb (YN B P) H (ar O O (cA (m:=g.tail+g.n) O O (cA (m:=g.tail+g.n-1) O O (nz O (cA (m:=q) ?_ O (ar O O ?_))))))
     ·rw[YK O,←F];exact(Int.natCast_ediv _ _).symm
     ·exact a Z (C.trans P)
    ·rw[(UA c).2 i]at p;cases p
  ·rw[b]at h;have Q:=pE h;have:¬(size<=16384/\KN size align=true):=λ⟨V,N⟩=>by
    simp only[KN,zF,zT]at N;omega
   rw[zh this];rfl
  ·rw[b]at h;have Q:=rW h;refine ar O O (d _ _ ⟨rfl,?_⟩);rw[Wlg O O]
   congr 1
   rw[nL,zT];simp only[KN,zF,zT];exact⟨λh=>⟨O,O,O,O,h⟩,λh=>h.2.2.2.2⟩
end Go.Ar
namespace Go.Ar
open Go Go.Vc Go.Proofs
open Go.Vc (bV dF cT)
variable {σ σ0 v w w':Hp}{F P Q X T:Rg}{L:dS}{H H':Hw}{held:List Pc}{s0:Sp}{t n:Nat}{g:Th}{mb am m:Nat}{x y:Me}{s:Sl}{xs:List (Int×Int×Int)}{bs:List Bk}
abbrev U6:=Int×Int×Int×Int×Int×Int
def uS (f:Bk->Int)(bs:List Bk)(c:Int):Int:=(bs.map λb=>if b.2.2.1=c then f b else 0).sum
def one (_:Bk):Int:=1
def kQ (b:Bk):Int:=b.2.1
def kK (asked:List (Int×Int))(b:Bk):Int:=(bV asked b.1).getD 0
theorem AX {f:Bk->Int}{i:Nat}{b:Bk}(h:bs[i]?=some b)(c:Int):uS f (bs.take (i+1)) c=uS f (bs.take i) c+(if b.2.2.1=c then f b else 0):=by
 unfold uS;rw[zg,h];simp
theorem qT {f:Bk->Int}{k:Int}(hk:0<=k)(h:∀b∈bs,0<=f b/\f b<=k)(c:Int):0<=uS f bs c/\uS f bs c<=bs.length*k:=by
 refine VG (f:=λb:Bk=>if b.2.2.1=c then f b else 0) λb a=>?_
 have:=h b a;split<;>omega
theorem xT {f:Bk->Int}{c:Int}:∀{bs:List Bk},uS one bs c=0->uS f bs c=0
 | [],_=>rfl
 | b::bs,h=>by
  have hp:=(qT (f:=one) (bs:=bs) (k:=1) O (λb _=>⟨by unfold one;omega,by unfold one;omega⟩) c).1;have d:uS one (b::bs) c=(if b.2.2.1=c then 1 else 0)+uS one bs c:=rfl
  have a:uS f (b::bs) c=(if b.2.2.1=c then f b else 0)+uS f bs c:=rfl
  rw[d]at h;by_cases hc:b.2.2.1=c
  ·rw[zB hc]at h;omega
  ·rw[zA hc]at h a;rw[a,xT O];omega
def pD (asked:List (Int×Int))(bs:List Bk)(c:Int):U6:=(c,0,uS one bs c,uS kQ bs c,uS (kK asked) bs c,0)
def DT (U:List (Int×U6))(asked:List (Int×Int))(bs:List Bk):Prop:=∀c,bV U c=if uS one bs c=0 then none else some (pD asked bs c)
theorem DT.q {U:List (Int×U6)}{asked:List (Int×Int)}(h:DT U asked bs)(c:Int):∃a,(bV U c).getD (0,0,0,0,0,0)=(a,0,uS one bs c,uS kQ bs c,uS (kK asked) bs c,0):=by
 rw[h c];split
 ·rename_i h0;exact⟨0,by rw[h0,xT h0,xT h0];rfl⟩
 ·exact⟨c,rfl⟩
def kW (tb:List bW)(j:Nat):Int:=if j=0 then 0 else((tb.getD (j-1) ⟨8,1,1⟩).size:Int)
def kP (tb:List bW)(j:Nat)(l:Int):Int:=if j=0 then 0 else(l+((tb.getD (j-1) ⟨8,1,1⟩).n:Int)-1)/((tb.getD (j-1) ⟨8,1,1⟩).n:Int)
def Ga (tb:List bW)(asked:List (Int×Int))(bs:List Bk)(j:Nat):Option U6:=if uS one bs ((j:Int)-1)=0 then none else
 some ((j:Int)-1,kW tb j,uS one bs ((j:Int)-1),uS kQ bs ((j:Int)-1),uS (kK asked) bs ((j:Int)-1),kP tb j (uS one bs ((j:Int)-1)))
def l9 (tb:List bW)(asked:List (Int×Int))(bs:List Bk)(m:Nat):List U6:=(List.range m).filterMap (Ga tb asked bs)
def mf (r:U6):List Value:=[.int .i64 r.1,.int .i64 r.2.1,.int .i64 r.2.2.1,.int .i64 r.2.2.2.1,.int .i64 r.2.2.2.2.1,.int .i64 r.2.2.2.2.2]
def lH (l:List U6):List Value:=l.flatMap mf
theorem F8 (tb:List bW)(asked:List (Int×Int))(bs:List Bk)(m:Nat):l9 tb asked bs (m+1)=l9 tb asked bs m++(Ga tb asked bs m).toList:=by
 unfold l9;rw[j7,uL];cases h:Ga tb asked bs m<;>simp[h]
theorem D8 (tb:List bW)(asked:List (Int×Int))(bs:List Bk)(m:Nat):(l9 tb asked bs m).length<=m:=by
 have:=List.length_filterMap_le (Ga tb asked bs) (List.range m);rw[oK]at this;exact this
theorem wV (l:List U6):(lH l).length=l.length*6:=by
 unfold lH
 induction l with
 | nil=>rfl
 | cons b bs ih=>rw[mS,zK,ih];simp[mf];omega
theorem No (ha:gH σ s xs){i:Nat}{x y z:Int}(hx:xs[i]?=some (x,y,z)){K:Int->Prop}(hK:K x):Ix s.a s.len (i:Int) 3 λa=>gP (λm=>bO σ m) bN (a.add 0) K:=by
 have p:=(cQ.1 hx).1;obtain⟨r,h⟩:=ha;obtain⟨b,o,j,_,g,_⟩:=h i x y z hx;rw[j];refine ix O O ⟨x,λm e=>?_,hK⟩;have d:cell σ ⟨b,o+(i:Int).toNat*3+0,none⟩=some (.int .i64 x):=by simpa using g
 rw[add_lit,add_lit,QN e (QQ d) id];exact d
theorem Df {k:IntKind}{c:CK}{r:Nat}{l:List (Int×c.T)}{n:Int}{o:Option c.T}{K:Option c.T->Prop}(hm:dL σ r k c l)(h:bV l n=o)(hK:K o):Lk k c (some r) n σ K:=⟨l,hm,by rw[h];exact hK⟩
def vD:List Value:=[.int .i64 0,.int .i64 0,.int .i64 0,.int .i64 0,.int .i64 0,.int .i64 0]
set_option maxRecDepth 16000 in
theorem xW (p:MP σ0 σ L H held s0 P mb am x)(mi:lq x){R:Sl->Hp->Prop}
 (hR:∀s w bs,bO σ w->iU H.live bs->bR s 6 (lH (l9 H.tb x.asked bs (H.tb.length+1))) w (λb=>σ.size<=b)->R s w):Xe.c (aW mb) σ R:=by
 refine Xe.o ?_;unfold Xe.v;refine G5 p (cG rfl (aG (p.b.rP rfl (F3 p.h p.h.mA λdD V e1 M=>tz λY hz2 e2 m2=>aG ?_))));have e12:=e1.trans e2;have p2:=p.fr e12;refine p2.b.rP rfl (Dg p2.h p.hi λs v3 bs e3 hl hrow=>?_);have e03:=e12.trans e3;have p3:=p.fr e03;have m3:dL v3 V.size .i64 (.ag 6) []:=e3.gL (m2 _ _) id;have hub:σ.size<=V.size:=e1.1;have hsl:s.len=bs.length:=by have:=hrow.1;rw[HC]at this;omega
 have hbl:bs.length<=1000000:=by rw[hl.len];exact p.hi.iH
 have hb1:∀b∈bs,0<=kQ b/\kQ b<=270000:=λb hb=>by
  have:=p.hi.jk ((hl.mem b).1 hb);unfold kQ;simp only at this;omega
 have hb2:∀b∈bs,0<=kK x.asked b/\kK x.asked b<=16384:=λb hb=>by
  unfold kK;cases hm:bV x.asked b.1 with
  | none=>exact⟨ql _,by decide⟩
  | some z=>exact mi.v _ (KA hm)
 have Z:∀b∈bs,0<=one b/\one b<=1:=λb hb=>⟨by unfold one;omega,by unfold one;omega⟩;have hacts:gH v3 dD (H.tb.map j5):=YN (GZ M) (e2.trans e3);have htl:dD.len=H.tb.length:=by have:=M.1;rw[KD]at this;omega
 refine ZU (a:=bN) (λ(i:Int) w=>∃(k:Nat) (U:List (Int×U6)),i=k/\k<=bs.length/\Ext (· = V.size) v3 w/\dL w V.size .i64 (.ag 6) U/\DT U x.asked (bs.take k)) (λi _=>bs.length-i.toNat) ⟨0,[],rfl,O,Ext.refl _ _,m3,λc=>rfl⟩ ?_;rintro(i:Int) w ⟨k,U,rfl,hk,e,hm,hU⟩;have pw:MP σ0 w L H held s0 P mb am x:=p3.out e λq _ (hq:q=V.size)=>by
  have h1:=p.b.lt;have h2:=p.m.lt;have h3:=p.e.1;exact⟨λhP=>by have:=(p.pP q hP).2;omega,O,O,O⟩
 refine cI (λhlt=>?_) λhge=>?_
 ·have hk':k<bs.length:=by omega
  have hg:bs[k]?=some bs[k]:=cM _;generalize bs[k]=b at hg;have hbm:=zE hg;have q0:=Z b hbm;have q1:=hb1 b hbm;have q2:=hb2 b hbm;have hlk:(bs.take k).length=k:=by rw[zO];omega
  have l0:=qT (bs:=bs.take k) O (λb h=>Z b (mK h)) b.2.2.1;have l1:=qT (bs:=bs.take k) O (λb h=>hb1 b (mK h)) b.2.2.1;have l2:=qT (bs:=bs.take k) O (λb h=>hb2 b (mK h)) b.2.2.1;rw[hlk]at l0 l1 l2;have n0:=λc=>AX (f:=one) hg c;have n1:=λc=>AX (f:=kQ) hg c;have n2:=λc=>AX (f:=kK x.asked) hg c;obtain⟨a0,hq⟩:=hU.q b.2.2.1;have hrw:cR s 4 (jg bs) w (λq=>Y.size<=q):=bR.gp (aI.bU hrow e λq _ (h1:Y.size<=q) (h2:q=V.size)=>O);refine Il hrw hg λbb o hc=>dP (hc 0 _ rfl) (dP (hc 1 _ rfl) (dP (hc 2 _ rfl) (dP (hc 3 _ rfl) ?_)));refine nw (cs:=[.int .i64 0,.int .i64 0,.int .i64 0,.int .i64 0]) λu2 hz2 f2 c2=>c2.s1 aA λu3 o3 c3=>c3.s1 aA λu4 o4 c4=>c4.s1 aA λu5 o5 c5=>c5.s1 aA λu6 o6 c6=>?_;have f6:bO w u6:=Ext.fresh (Ext.fresh (Ext.fresh (Ext.fresh f2 o3.ext λi hi=>O) o4.ext λi hi=>O) o5.ext λi hi=>O) o6.ext λi hi=>by omega
  have hm6:=f6.gL hm id;obtain⟨mu,G⟩:∃mu,bV U b.2.2.1=mu:=⟨_,rfl⟩;rw[G]at hq;refine c6.rI rfl (Df hm6 G ?_);rw[hq];refine nw (cs:=vD) λu7 hz7 f7 d7=>?_;unfold vD at d7;refine d7.s1 aA λu8 o8 d8=>d8.s1 aA λu9 o9 d9=>d9.s1 aA λu10 fV C=>C.s1 aA λu11 E Q=>Q.s1 aA λu12 K D=>D.s1 aA λu13 W B=>?_;have g:bO u6 u13:=Ext.fresh (Ext.fresh (Ext.fresh (Ext.fresh (Ext.fresh (Ext.fresh f7 o8.ext λi hi=>O) o9.ext λi hi=>O) fV.ext λi hi=>O) E.ext λi hi=>O) K.ext λi hi=>O) W.ext λi hi=>by omega
  have c13:=g.bZ c6 id;have ad:∀{u u':Hp},QC u u' u6.size->bX u w.size (m5 b)->bX u' w.size (m5 b):=λo h=>o.ext.bZ h λ(hx:w.size=u6.size)=>by have:=c6.lt;omega
  refine c13.rI rfl (B.s1 aA λu14 ac X=>X.rI rfl (ar aC aC (X.s1 aA λu15 ab ae=>ae.rI rfl ?_)));have c15:bX u15 w.size (m5 b):=ad ab (ad ac c13);refine c15.rI rfl (ar (by show _<=uS kQ (bs.take k) b.2.2.1+kQ b;omega) (by show uS kQ (bs.take k) b.2.2.1+kQ b<=_;omega) (ae.s1 aA λu16 o16 aa=>aa.rI rfl (aG ?_)));have c16:=ad o16 c15;have f16:bO w u16:=Ext.fresh (Ext.fresh (Ext.fresh (f6.trans g) ac.ext λi hi=>by have:=f6.1;omega) ab.ext λi hi=>by have:=f6.1;omega) o16.ext λi hi=>by have:=f6.1;omega
  have p16:=pw.fr f16;refine p16.b.rM rfl (c16.rI rfl ⟨x.asked,p16.m,ar (by show _<=uS (kK x.asked) (bs.take k) b.2.2.1+kK x.asked b;omega) (by show uS (kK x.asked) (bs.take k) b.2.2.1+kK x.asked b<=_;omega) (aa.s1 aA λu17 o17 A=>?_)⟩);have c17:=ad o17 c16;have f17:bO w u17:=Ext.fresh f16 o17.ext λi hi=>by have:=f6.1;omega
  refine c17.rI rfl (A.rI rfl (A.rI rfl (A.rI rfl (A.rI rfl (A.rI rfl (A.rI rfl ⟨V.size,U,rfl,f17.gL hm id,λu18 o18 m18=>?_⟩))))));refine cA (m:=k+1) O O ⟨⟨k+1,_,rfl,O,?_,m18,?_⟩,O⟩
  ·exact(e.trans (bO.to f17)).trans o18.ext
  ·intro c;have hp0:=(qT (bs:=bs.take k) O (λb h=>Z b (mK h)) c).1;rw[Cy];by_cases S:c=b.2.2.1
   ·subst S;have e0:=n0 b.2.2.1;have e1:=n1 b.2.2.1;have e2:=n2 b.2.2.1;rw[zB rfl]at e0 e1 e2;have:¬uS one (bs.take (k+1)) b.2.2.1=0:=by rw[e0];unfold one at *;omega
    rw[zB rfl,zA this];unfold pD;rw[e0,e1,e2];rfl
   ·have hne':¬b.2.2.1=c:=λh=>S h.symm;have e0:=n0 c;have e1:=n1 c;have e2:=n2 c;rw[zA hne',Int.add_zero]at e0 e1 e2;rw[zA S,hU c];unfold pD;rw[e0,e1,e2]
 ·have hkk:k=bs.length:=by omega
  subst hkk;rw[zn]at hU;have r:=GZ M;have hactw:gH w dD (H.tb.map j5):=DN hacts e λq (hq:q=V.size) o ha=>by
   obtain⟨_,hc⟩:=r;cases htb0:H.tb with
   | nil=>have:=p.cf.2.2;unfold ly at this;rw[htb0]at this;exact absurd this aB
   | cons c0 r0=>
    obtain⟨b',o',h1,h2,_⟩:=hc 0 c0.size c0.aF c0.batch (by rw[htb0];rfl);rw[ha]at h1;simp only[Option.some.injEq,Addr.mk.injEq]at h1;omega
  refine Ko (a:=.s) (bb:=bN) (λ(out:Sl) (c:Int) u=>∃j:Nat,c=(j:Int)-1/\j<=H.tb.length+1/\Ext (λq=>Y.size<=q) w u/\bR out 6 (lH (l9 H.tb x.asked bs j)) u (λq=>Y.size<=q)) (λ_ c _=>(H.tb.length+1)-(c+1).toNat) ⟨0,rfl,O,Ext.refl _ _,⟨rfl,.inl ⟨rfl,rfl⟩⟩⟩ ?_;rintro(out:Sl) (c:Int) u ⟨j,rfl,hj,eu,hout⟩;have ht40:=p.h.mA;have hwz:=e.1;have h3z:=e3.1;have huz:=eu.1;have hlen:=D8 H.tb x.asked bs j;have hol:out.len<=j:=by have:=hout.1;rw[wV]at this;omega
  refine cI (λhlt=>?_) λhge=>?_
  ·have G:dL u V.size .i64 (.ag 6) U:=eu.gL hm λ(hx:Y.size<=V.size)=>by omega
   have d:=F8 H.tb x.asked bs j;by_cases h0:uS one bs ((j:Int)-1)=0
   ·have hU0:bV U ((j:Int)-1)=none:=by rw[hU,zB h0]
    have hrow0:Ga H.tb x.asked bs j=none:=by unfold Ga;rw[zB h0]
    rw[hrow0]at d;refine Df G hU0 ?_;refine nw (cs:=vD) λu7 hz7 f7 d7=>?_;unfold vD at d7;refine d7.s1 aA λu8 o8 d8=>d8.s1 aA λu9 o9 d9=>d9.s1 aA λu10 fV C=>C.s1 aA λu11 E Q=>Q.s1 aA λu12 K D=>D.s1 aA λu13 W B=>?_;have g:bO u u13:=Ext.fresh (Ext.fresh (Ext.fresh (Ext.fresh (Ext.fresh (Ext.fresh f7 o8.ext λi hi=>O) o9.ext λi hi=>O) fV.ext λi hi=>O) E.ext λi hi=>O) K.ext λi hi=>O) W.ext λi hi=>by omega
    refine cJ rfl (ar O O ⟨⟨j+1,O,O,eu.trans (bO.to g),?_⟩,O⟩);rw[d];simp only[Option.toList,j8];exact aI.bK hout g
   ·have hU1:bV U ((j:Int)-1)=some (pD x.asked bs ((j:Int)-1)):=by rw[hU,zA h0]
    have hrow1:Ga H.tb x.asked bs j=some ((j:Int)-1,kW H.tb j,uS one bs ((j:Int)-1),uS kQ bs ((j:Int)-1),uS (kK x.asked) bs ((j:Int)-1),kP H.tb j (uS one bs ((j:Int)-1))):=by unfold Ga;rw[zA h0]
    rw[hrow1]at d;have l0:=qT (bs:=bs) O Z ((j:Int)-1);unfold pD at hU1;generalize uS one bs ((j:Int)-1)=ul at *;generalize uS kQ bs ((j:Int)-1)=ub at *;generalize uS (kK x.asked) bs ((j:Int)-1)=ua at *;refine Df G hU1 ?_;refine nw (cs:=vD) λu7 hz7 f7 d7=>?_;unfold vD at d7;refine d7.s1 aA λu8 o8 d8=>d8.s1 aA λu9 o9 d9=>d9.s1 aA λu10 fV C=>C.s1 aA λu11 E Q=>Q.s1 aA λu12 K D=>D.s1 aA λu13 W B=>?_;have g:bO u u13:=Ext.fresh (Ext.fresh (Ext.fresh (Ext.fresh (Ext.fresh (Ext.fresh f7 o8.ext λi hi=>O) o9.ext λi hi=>O) fV.ext λi hi=>O) E.ext λi hi=>O) K.ext λi hi=>O) W.ext λi hi=>by omega
    refine cG rfl (qy (λq=>bO u q/\bX q u.size (mf ((j:Int)-1,kW H.tb j,ul,ub,ua,kP H.tb j ul))) (λq ⟨eq,bq⟩=>?_) λJ hJ=>?_)
    ·refine bq.rI rfl (bq.rI rfl (bq.rI rfl (bq.rI rfl (bq.rI rfl (bq.rI rfl ?_)))));refine bR.push (F:=λq=>Y.size<=q) (vs:=mf ((j:Int)-1,kW H.tb j,ul,ub,ua,kP H.tb j ul)) (aI.bK hout eq) (λb hb=>by have:=eq.1;show Y.size<=b;omega) rfl rfl (by simp[mf,dN]) O O λs' u' hsl eu' hrow'=>?_;refine ar O O ⟨⟨j+1,O,O,(eu.trans (bO.to eq)).trans eu',?_⟩,O⟩;rw[d];have:lH (l9 H.tb x.asked bs j++(some ((j:Int)-1,kW H.tb j,ul,ub,ua,kP H.tb j ul)).toList)=lH (l9 H.tb x.asked bs j)++mf ((j:Int)-1,kW H.tb j,ul,ub,ua,kP H.tb j ul):=by simp[lH]
     rw[this];exact hrow'
    ·refine cI (λhc0=>?_) λhc0=>?_
     ·obtain⟨k,rfl⟩:∃k,j=k+1:=⟨j-1,O⟩;have hck:(((k+1:Nat):Int)-1)=(k:Int):=by omega
      rw[hck]at B hJ ⊢;have hkt:k<H.tb.length:=by omega
      have hcl:H.tb[k]?=some H.tb[k]:=cM _;have af:bW.ok H.tb[k]:=p.hi.ok _ (zc hkt);have hgd:H.tb.getD (k+1-1) ⟨8,1,1⟩=H.tb[k]:=by rw[C9,zL,hcl];rfl
      have hsz:kW H.tb (k+1)=(H.tb[k].size:Int):=by unfold kW;rw[zA O,hgd]
      have hsp:kP H.tb (k+1) ul=(ul+(H.tb[k].n:Int)-1)/(H.tb[k].n:Int):=by unfold kP;rw[zA O,hgd]
      rw[hsz,hsp]at hJ;generalize H.tb[k]=cl at hcl af hJ;have hx:(H.tb.map j5)[k]?=some ((cl.size:Int),(cl.aF:Int),(cl.batch:Int)):=by rw[ze,hcl];rfl
      have N:gH u13 dD (H.tb.map j5):=YN (DN hactw eu λq (hq:Y.size<=q) o ha=>by
       obtain⟨_,hc⟩:=r;obtain⟨b',o',h1,h2,_⟩:=hc k _ _ _ hx;rw[ha]at h1;simp only[Option.some.injEq,Addr.mk.injEq]at h1;omega) g
      have n1:=af.ns;have n2:=af.jQ;refine UZ N hx (UF _ _ _ (λc' hc' h1 h2 h3 v7 e7=>?_) λhbad=>?_)
      ·have S:c'=cl:=by
        cases c';cases cl;simp only[bW.mk.injEq]at *;omega
       subst S;have X:=e7.bZ B id;refine⟨λm=>bO v7 m,Ext.refl _ _,No (YN N e7) hx (bX.rH (c:=bN) (y:=ul) X rfl (ar O O (ar O O (nz O ?_))))⟩;have hq0:0<=(ul+(c'.n:Int)-1)/(c'.n:Int):=Int.ediv_nonneg O O;have hq1:(ul+(c'.n:Int)-1)/(c'.n:Int)<=ul+(c'.n:Int)-1:=Int.ediv_le_self _ O;rw[YK O];generalize (ul+(c'.n:Int)-1)/(c'.n:Int)=qq at hq0 hq1 hJ ⊢;refine ar O O (X.s1 aA λu14 ac ae=>ae.s1 aA λu15 ab aa=>hJ u15 ⟨?_,aa⟩);exact Ext.fresh (Ext.fresh (g.trans e7) ac.ext λi hi=>O) ab.ext λi hi=>by omega
      ·rw[(UA cl).2 af]at hbad;cases hbad
     ·have hj0:j=0:=by omega
      subst hj0;exact hJ u13 ⟨g,B⟩
  ·have hjj:j=H.tb.length+1:=by omega
   subst hjj;refine hR out u bs (Ext.fresh (Ext.fresh e03 e λi (hi:i=V.size)=>O) eu λi (hi:Y.size<=i)=>O) hl (aI.mono hout λq _ (hq:Y.size<=q)=>by show σ.size<=q;omega)
end Go.Ar
namespace Go.Proofs
open Go.Vc
set_option maxRecDepth 100000
def Xp.h:Hn:=.q .o1 (.q .o2 (.q (.q .o2 .aK) (.q .o7 (.q (.q (.cV (.seq [.op,.op,.op,.dA false 2 [.op,.op]])) .aK) (.q .o7 (.q .o4 (.q .o8 (.q (.cV (.seq [.op,.op,.op,.dA true 3 (RI.ops 3),.op,.dA true 3 (RI.ops 3),.op,.dA true 3 (RI.ops 3),.op,.dA true 5 (RI.ops 5),.op,.dA true 2 [.op,.op],.op,.dA true 2 [.op,.op],.op])) .l))))))))
def Xp.v (a:Hp)(b:aO):Prop:=XI.c a λc d=>If c.isNone (b false d) (QI.c c d λe f g=>bY (λh i=>If h (b false i) (Xz.c e 0 20 8 i λj k l=>W6.c e l λm n o p q r s t u v w=>aV #[.I 0,.I 0,.I 0,.I 0,.I 0,.I 0,.I 0,.I 0,.I 0,.I 0] 56 w λx y=>aR x 0 (.I m) y λz=>aR x 1 (.I n) z λaa=>aR x 2 (.I o) aa λab=>aR x 3 (.I p) ab λac=>aR x 4 (.I q) ac λad=>aR x 5 (.I r) ad λae=>aR x 6 (.I s) ae λaf=>aR x 7 (.I t) af λag=>aR x 8 (.I u) ag λah=>aR x 9 (.I v) ah λai=>YX.c c ai λaj ak=>Qg.c aj 20 8 ak λal am an=>bY (λao ap=>bY (λaq ar=>bY (λau av=>bY (λaw ax=>bY (λay az=>bY (λa0 a1=>b a0 a1) λa2=>If ay (a2 (am==0) az) (a2 false az)) λa3=>If aw (a3 (al==6) ax) (a3 false ax)) λa4=>If au (Xe.c e av λa5 a6=>aV #[.I 2,.I 24,.I 1,.I 24,.I 20,.I 1] 80 a6 λa7 a8=>X4.c a5 ⟨some a7,1,1⟩ a8 λa9 ba=>a4 a9 ba) (a4 false av)) λbb=>If aq (aQ x 7 ar λbc=>bb (bc==1) ar) (bb false ar)) λbd=>If ao (aQ x 1 ap λbe=>bd (be==24) ap) (bd false ap)) λbf=>If (k==0) (aQ x 0 an λbg=>bf (bg==20) an) (bf false an))) λbh=>If (f != 0) (bh true g) (bh e.isNone g))
theorem Xp.o {a b}(c:Xp.v a b):Xp.c a b:=Wa Tryz.func13 (x:=Xp.h) (R0 c)
def X1.h:Hn:=.q .o2 (.q (.q (.cV (.seq [.op,.op,.op,.dA false 3 (RI.ops 3)])) .aK) (.q .o3 (.q (.q .o2 .aK) (.q .o7 (.q (.q (.cV (.seq [.op,.op,.op,.dA false 2 [.op,.op]])) .aK) (.q .o5 (.q (.q .o1 (.k (.loop [(11,.I)] (.q (.q .o4 (.c .l .l)) (.q (.k .o6) .o3))))) .aL)))))))
def X1.v (a b c d e f:Int)(g:Sl)(h:Int)(i:Hp)(j:Option Addr->Hp->Prop):Prop:=aV #[.I a,.I b,.I c,.I d,.I e,.I f] 65 i λk l=>aQ k 0 l λm=>aQ k 1 l λn=>aQ k 2 l λo=>aQ k 3 l λp=>aQ k 4 l λq=>aQ k 5 l λr=>WQ.c m n o p q r l λs t=>bY (λu v=>If u (j none v) (aQ k 0 v λw=>aQ k 1 v λx=>aQ k 2 v λy=>aQ k 3 v λz=>aQ k 4 v λaa=>aQ k 5 v λab=>Wu.c w x y z aa ab v λac ad=>If ac.isNone (j none ad) (QI.c ac ad λae af ag=>bY (λah ai=>If ah (j none ai) (aV #[.pointer ac,.pointer ae,.slice none 0 0,.slice none 0 0,.I 0] 72 ai λaj ak=>W7 [bN] (λal=>al 0 ak) λam (an:Int) ao=>If (an<((g.len:Nat):Int)) (Ix g.a g.len an 8 λap=>aQ ap 0 ao λaq=>aQ ap 1 ao λar=>aQ ap 2 ao λau=>aQ ap 3 ao λav=>aQ ap 4 ao λaw=>aQ ap 5 ao λax=>aQ ap 6 ao λay=>bC ap 7 ao λaz=>Xq.c (some aj) aq ar au av aw ax ay az ao λa0 a1=>bL (an+1) λa2=>am a2 a1) (j (some aj) ao))) λa3=>If (af != 0) (a3 true ag) (a3 ae.isNone ag)))) λa4=>If s (a4 true t) (X5.c g h t λa5 a6=>a4 a5 a6)
theorem X1.o {a b c d e f g h i j}(k:X1.v a b c d e f g h i j):X1.c a b c d e f g h i j:=Wa Tryz.func30 (x:=X1.h) (R0 k)
def WP.h:Hn:=.q .o1 (.q .o1 (.q (.q .o1 (.k (.loop [(3,.I),(4,.I)] (.q (.q .o7 (.c .l .l)) (.q (.k (.o 11)) .o3))))) .aL))
def WP.v (a:R2)(b:Hp)(c:aN):Prop:=W7 [bN,bN] (λd=>d 0 0 b) λe (f:Int) (g:Int) h=>bS a λi=>aX i 3 h λj=>If (g<((j.len:Nat):Int)) (bE a 3 h λl=>Ix l.a l.len g 3 λm=>aQ m 1 h λn=>bL (f+n) λo=>bL (g+1) λp=>e o p h) (c f h)
theorem WP.o {a b c}(d:WP.v a b c):WP.c a b c:=Wa Tryz.func32 (x:=WP.h) (R0 d)
def Xq.h:Hn:=.q .o2 (.q (.cV (.tail 5 (RI.ops 5) [.op,.op])) (.q (.q .o2 (.k (.q .o2 (.c (.q (.cV (.held true [10] (.tk [0,1,2,3,4,5,6,7,8,9] (.all [(10,.tk [11,12,13,14,15] (.done))])))) (.q (.q .o2 (.c (.q (.o 11) (.q (.cV (.held true [15] (.tk [0,1,2,3,4,5,6,7,8,9,10] (.all [(11,.all [(12,.take 13 (.take 14 (.all [(15,.done)])))])])))) (.cV (.held true [10] (.take 0 (.take 1 (.take 2 (.take 3 (.take 4 (.take 5 (.all [(6,.take 7 (.take 8 (.take 9 (.all [(10,.done)]))))]))))))))))) .l)) .aL)) (.q .o2 (.c (.q (.cV (.tail 7 (RI.ops 7) [.op,.op])) (.q (.q .o2 (.c (.q .o1 (.q (.q .o1 (.k (.loop [(9,.one .s),(10,.I)] (.q (.q .o7 (.c .l .l)) (.q (.k (.q .fV (.c (.o 11) .l))) .o3))))) .o5)) .l)) .aL)) (.jD [(122,.one .b)] (.q .o2 (.c .l (.q .o2 (.c .l (.q .o2 (.c .l (.q .o2 (.c .l .o2)))))))) (.c (.q (.cV (.held true [9] (.take 0 (.take 1 (.take 2 (.take 3 (.take 4 (.take 5 (.take 6 (.take 7 (.take 8 (.all [(9,.take 10 (.take 11 (.take 12 (.take 13 (.take 14 (.take 15 (.take 16 (.done))))))))])))))))))))) .aL) .l)))))))) .aM))
def Xq.v (a:R2)(b c d e f g h:Int)(i:ByteArray)(j:Hp)(k:aN):Prop:=aV #[.I b,.I c,.I d,.I e,.I f,.I g,.I h,.string i] 87 j λl m=>bE a 2 m λo=>aQ l 0 m λp=>aQ l 1 m λq=>aQ l 2 m λr=>aQ l 3 m λs=>aQ l 4 m λt=>aQ l 5 m λu=>aQ l 6 m λv=>bC l 7 m λw=>Yr.c o p q r s t u v w m λx y=>aQ l 0 y λz=>If (z==120) (dU y λaa=>bS a λab=>aU aa ab 1 λac=>aS aa l 1 λad=>aS aa l 2 λae=>aS aa l 3 λaf=>Xz.c ac ad ae af y λag ah ai=>If (ah==0) (bE a 2 ai λak=>aV #[.I ag] 3 ai λal am=>App ak 1 8 3 [.I 0] ⟨some al,1,1⟩ am λan ao=>bS a λap=>aR ap 2 (.slice an.a an.len an.cap) ao λaq=>dU aq λar=>bS a λau=>aT ar au 3 λav=>aS ar l 2 λaw=>aS ar l 3 λax=>aV #[.I ag,.I aw,.I ax] 83 aq λay az=>And (ar az) <| App av 3 24 83 [.I 0,.I 0,.I 0] ⟨some ay,1,1⟩ az λa0 a1=>And (ar a1) <| bS a λa2=>aR a2 3 (.slice a0.a a0.len a0.cap) a1 λa3=>dU a3 λa4=>bS a λa5=>aS a4 a5 4 λa6=>WP.c a a3 λa7 a8=>And (a4 a8) <| bS a λa9=>aR a9 4 (.I (if a7>a6 then a7 else a6)) a8 λba=>k ah ba) (k ah ai)) (If (z==121) (bF a 1 y λbc=>aQ l 1 y λbd=>Y3.c bc bd x y λbe bf=>
 If (be==0) (W7 [.s,bN] (λbg=>bg ⟨none,0,0⟩ 0 bf) λbh (bi:Sl) (bj:Int) bk=>bE a 3 bk λbm=>If (bj<((bm.len:Nat):Int)) (bE a 3 bk λbo=>Ix bo.a bo.len bj 3 λbp=>aQ bp 0 bk λbq=>If (bq != x) (bE a 3 bk λbs=>Ix bs.a bs.len bj 3 λbt=>aQ bt 0 bk λbu=>aQ bt 1 bk λbv=>aQ bt 2 bk λbw=>aV #[.I bu,.I bv,.I bw] 83 bk λbx bz=>App bi 3 24 83 [.I 0,.I 0,.I 0] ⟨some bx,1,1⟩ bz λb0 b1=>bL (bj+1) λb2=>bh b0 b2 b1) (bL (bj+1) λb3=>bh bi b3 bk)) (bS a λb4=>aR b4 3 (.slice bi.a bi.len bi.cap) bk λb5=>k be b5)) (k be bf)) (Jn [.b] (λ(b6:Bool) b7=>If b6 (dU b7 λb8=>bS a λb9=>aU b8 b9 0 λca=>bS a λcb=>aT b8 cb 2 λcc=>aS b8 l 0 λcd=>aS b8 l 1 λce=>aS b8 l 2 λcf=>aS b8 l 3 λcg=>aS b8 l 4 λch=>aS b8 l 5 λci=>aS b8 l 6 λcj=>gP b8 .str (l.add 7) λ(ck:ByteArray)=>Y6.c ca cc cd ce cf cg ch ci cj ck b7 λcl cm cn co=>k cm co) (k 0 b7)) λcp=>If (z==2) (cp (z==2) y) (If (z==3) (cp (z==3) y) (If (z==8) (cp (z==8) y) (If (z==9) (cp (z==9) y) (cp (z==10) y))))))
theorem Xq.o {a b c d e f g h i j k}(l:Xq.v a b c d e f g h i j k):Xq.c a b c d e f g h i j k:=Wa Tryz.func35 (x:=Xq.h) (R0 l)
end Go.Proofs
namespace Go.Proofs
open Go.Vc
set_option maxRecDepth 100000
def X4.h:Hn:=.q .o1 (.q (.q .o5 .aK) (.q (.q .o1 (.k (.loop [(5,.I)] (.q (.q .o4 (.c .l .l)) (.q (.k (.q (.oq 9) .aK)) .o3))))) .aM))
def X4.v (a b:Sl)(c:Hp)(d:aO):Prop:=If (((a.len:Nat):Int) != ((b.len:Nat):Int)) (d false c) (W7 [bN] (λe=>e 0 c) λf (g:Int) h=>If (g<((a.len:Nat):Int)) (Ix a.a a.len g 6 λi=>aQ i 0 h λj=>aQ i 1 h λk=>aQ i 2 h λl=>aQ i 3 h λm=>aQ i 4 h λn=>aQ i 5 h λo=>Ix b.a b.len g 6 λp=>aQ p 0 h λq=>aQ p 1 h λr=>aQ p 2 h λs=>aQ p 3 h λt=>aQ p 4 h λu=>aQ p 5 h λv=>If (!((j==q)&&((k==r)&&((l==s)&&((m==t)&&((n==u)&&((o==v)&&true))))))) (d false h) (bL (g+1) λw=>f w h)) (d true h))
theorem X4.o {a b c d}(e:X4.v a b c d):X4.c a b c d:=Wa Tryz.func39 (x:=X4.h) (R0 e)
end Go.Proofs
namespace Go.Ar
open Go Go.Vc Go.Proofs
open Go.Vc (bV dF cT)
variable {σ σ0 v w w':Hp}{F G P Q X T:Rg}{L:dS}{H H':Hw}{held:List Pc}{s0:Sp}{t n:Nat}{g:Th}{mb am m:Nat}{x y:Me}
theorem A5 {α:Type}{l:List (Int×α)}{n:Int}(h:bV l n=none)(v:α):dF l n v=l++[(n,v)]:=by
 unfold dF;rw[zA];intro hx;obtain⟨y,a,e⟩:=j9.1 hx;unfold bV at h;rw[rq,n4]at h;exact h y a e
theorem Ho {α:Type}{l:List (Int×α)}{n:Int}(h:bV l n=none):cT l n=l:=by
 unfold cT;rw[nT];intro y hy;unfold bV at h;rw[rq,n4]at h;have:=h y hy;simpa using this
theorem lq.eN (mi:lq x){D:Nat}(hD:D<=128):lq (x.eN (D:Int)):=by
 have a:=mi.iY;have b:=mi.p;have hd:=mi.d;refine⟨mi.v,mi.l,mi.s,?_,?_,mi.c⟩
 ·unfold Me.eN;simp only;split<;>omega
 ·unfold Me.eN;simp only;split<;>omega
theorem lq.gK (mi:lq x){a size e:Int}{D:Nat}(h:bV x.asked a=none)(hc:x.calls<=899)(h0:0<=size)(h1:e=0->size<=16384)(hD:D<=128):lq (x.gK a size e D):=by
 unfold Me.calls at hc;refine lq.eN ?_ hD;by_cases he:e=0
 ·have h1:=h1 he;rw[zB he];have g:x.forget a=x:=by unfold Me.forget;rw[Ho h,h];simp
  rw[g];unfold Me.count Me.add;rw[zB he,zB rfl,A5 h];refine⟨λy b=>?_,?_,?_,mi.p,mi.d,?_⟩
  ·rcases zR.1 b with b|b
   ·exact mi.v y b
   ·rw[zV]at b;subst b;exact⟨h0,h1⟩
  ·have:=mi.l;simp only[zK,uw];omega
  ·simp only[zr,pR];rw[mi.s];simp
  ·unfold Me.calls;simp only;omega
 ·rw[zA he];unfold Me.count;rw[zA he];exact⟨mi.v,mi.l,mi.s,mi.p,mi.d,by unfold Me.calls;simp only;omega⟩
theorem iO.A0 {n m:Nat}{H H1 H2:Hw}{t:Nat}{p:Ph}{a1 e1 a2 e2:Int}(h:iO n H t p H1 a1 e1)(h':iO m H t p H2 a2 e2):H1=H2/\a1=a2/\e1=e2:=by
 induction h generalizing m with
 | done h1 h2=>
  cases h' with
  | done=>exact⟨rfl,rfl,rfl⟩
  | next _ h3 _=>rw[h2]at h3;cases h3
 | next h1 h2 _ ih=>
  cases h' with
  | done _ h3=>rw[h2]at h3;cases h3
  | next _ h3 h4=>rw[h2]at h3;cases h3;exact ih h4
theorem U1.A0 {thread kind size align addr a1 e1 a2 e2:Int}{H1 H2:Hw}(h:U1 H thread kind size align addr H1 a1 e1)(h':U1 H thread kind size align addr H2 a2 e2):H1=H2/\a1=a2/\e1=e2:=by
 rcases h with⟨h1,_,rfl,rfl⟩|⟨t,p,n,h1,h2⟩
 ·rcases h' with⟨g1,_,rfl,rfl⟩|⟨_,_,_,g1,_⟩
  ·rw[h1]at g1;cases g1;exact⟨rfl,rfl,rfl⟩
  ·rw[h1]at g1;cases g1
 ·rcases h' with⟨g1,_⟩|⟨_,_,_,g1,g2⟩
  ·rw[h1]at g1;cases g1
  ·rw[h1]at g1;cases g1;exact h2.A0 g2
def wm:Hw×Int×Int:=oV w0 0 20 0
theorem BL:wm.2=(4096,0):=by decide +kernel
theorem Dd:U1 w0 0 0 20 8 0 wm.1 4096 0:=As rfl BL aB rfl
theorem AQ:wm.1.sp.st.count 2<=128:=by decide +kernel
theorem Fw:wm.1.live=[(4096,4096,24,2,0)]:=by decide +kernel
theorem Je:wm.1.tb=tN:=by decide +kernel
theorem AD:vn (tN.map j5) 20 8=(6,0):=by decide +kernel
theorem BC:l9 tN [(4096,20)] [(4096,24,2,0)] (tN.length+1)=[(2,24,1,24,20,1)]:=by decide +kernel
theorem LQ:tV w0 64:=by
 have h:=E1 (xs:=qO 8) (p:=64) (a:=1) (t:=1) (b:=1024) (r:=2) (HV 8 aB aB) aB;rw[xk]at h;exact h
theorem DF:∀{l:List U6} {i:Nat} {r:U6},l[i]?=some r->∀{j:Nat} {v:Value},(mf r)[j]?=some v->(lH l)[6*i+j]?=some v
 | [],i,b,h,_,_,_=>by simp at h
 | a::bs,0,b,h,j,v,hv=>by
  simp only[ve,Option.some.injEq]at h;subst h;have hj:=(cQ.1 hv).1;show(mf a++lH bs)[6*0+j]?=_;rw[show 6*0+j=j by omega,zd hj];exact hv
 | a::bs,i+1,b,h,j,v,hv=>by
  have d:=DF (l:=bs) (i:=i) (r:=b) (by simpa using h) hv;show(mf a++lH bs)[6*(i+1)+j]?=_;rw[zo (by simp[mf];omega)];have:6*(i+1)+j-(mf a).length=6*i+j:=by simp[mf];omega
  rw[this];exact d
theorem Fi {s:Sl}{l:List U6}(hs:cR s 6 (lH l) σ F){i:Nat}{r:U6}(hb:l[i]?=some r){K:Addr->Prop}(hK:∀bb o,(∀(j:Nat) v,(mf r)[j]?=some v->cell σ ⟨bb,o+j,none⟩=some v)->K ⟨bb,o,none⟩):Ix s.a s.len (i:Int) 6 K:=by
 have m:=(cQ.1 hb).1;have u:s.len=l.length:=by have:=hs.1;rw[wV]at this;omega
 obtain⟨b,o,e,_⟩:=hs.cell (DF hb (j:=0) rfl);rw[e];refine ix O O ?_;rw[add_lit];refine hK b _ λj v p=>?_;obtain⟨w,x,d,g⟩:=hs.cell (DF hb p);rw[e]at d;cases d;rw[show o+(i:Int).toNat*6+j=o+(6*i+j) by omega];exact g
theorem Sg {a b:Sl}{l:List U6}(ha:cR a 6 (lH l) σ F)(hb:cR b 6 (lH l) σ G)(hl:l.length<=1000000){R:aO}(hR:R true σ):X4.c a b σ R:=by
 refine X4.o ?_;unfold X4.v;have y:=ha.1;have x:=hb.1;rw[wV]at y x;have g:a.len=l.length:=by omega
 have j:b.len=l.length:=by omega
 refine cG (by rw[g,j];simp) (ZU (a:=bN) (λ(i:Int) w=>w=σ/\∃k:Nat,i=k/\k<=l.length) (λi _=>l.length-i.toNat) ⟨rfl,0,rfl,O⟩ ?_);rintro(i:Int) w ⟨rfl,k,rfl,hk⟩;refine cI (λs=>?_) λu=>hR;have p:l[k]?=some (l[k]' O):=cM _;generalize (l[k]' O)=r at p;refine Fi ha p λz o1 e=>dP (e 0 _ rfl) (dP (e 1 _ rfl) (dP (e 2 _ rfl) (dP (e 3 _ rfl) (dP (e 4 _ rfl) (dP (e 5 _ rfl) ?_)))));refine Fi hb p λA o2 d=>dP (d 0 _ rfl) (dP (d 1 _ rfl) (dP (d 2 _ rfl) (dP (d 3 _ rfl) (dP (d 4 _ rfl) (dP (d 5 _ rfl) ?_)))));exact cG aA (cA (m:=k+1) O O ⟨⟨rfl,k+1,rfl,O⟩,O⟩)
attribute [local irreducible] w0 wm oV tN
set_option maxRecDepth 8000 in
theorem Jo (gl:Gl σ)(gd:Gd σ){R:aO}(hR:∀σ',bO σ σ'->R true σ'):Xp.c σ R:=by
 refine Xp.o ?_;unfold Xp.v;refine Pp gl gd λv L N e hsN hNv h0=>cG rfl ?_;have E:=LQ;have hc0:w0.cf.aF=64:=by have:=E.pg;omega
 refine J7 e h0.cut E.hi E.cf E.ph O (λb Z=>⟨by have:N<=b:=Z.1;omega,Z.2⟩) (CT gl gd) λw mb am e1 _ _ p=>?_;refine bY.intro (cG rfl (cG rfl ?_));refine ED p Bw aB 0 20 8 λa er w2 ts H' X s0' P' e2 V hP2 k2 me hw=>?_;obtain⟨rfl,rfl,rfl⟩:=hw.A0 Dd;generalize hy:oS.gK 4096 20 0 (wm.1.sp.st.count 2)=y at V;have Y:y.sum=20/\y.cS=1/\y.asked=[(4096,20)]:=by subst hy;exact⟨rfl,rfl,rfl⟩
 obtain⟨y1,y2,y3⟩:=Y;refine HZ V λU e3 so=>?_;have J:xA wm.1.live=24:=by rw[Fw];rfl
 rw[y1,y2,J];have p3:=V.fr e3;refine nw (cs:=VL) λw4 hz4 e4 D=>?_;unfold VL at D;refine D.s1 aA λv1 o1 b1=>b1.s1 aA λv2 o2 b2=>b2.s1 aA λv3 o3 b3=>b3.s1 aA λv4 o4 D=>D.s1 aA λv5 o5 b5=>b5.s1 aA λv6 o6 b6=>b6.s1 aA λv7 o7 b7=>b7.s1 aA λv8 o8 b8=>b8.s1 aA λv9 o9 b9=>b9.s1 aA λv10 fV M=>?_;have eo:Ext (· = U.size) w4 v10:=((((((((o1.ext.trans o2.ext).trans o3.ext).trans o4.ext).trans o5.ext).trans o6.ext).trans o7.ext).trans o8.ext).trans o9.ext).trans fV.ext;have K:bO U v10:=Ext.fresh e4 eo λi (hi:i=U.size)=>by omega
 have m:=p3.fr K;refine F3 m.h m.h.mA λdD v11 u C=>RC (GZ C) 20 8 λS B=>?_;rw[Je,AD];have g:=(u.trans B).bZ M id;refine bY.intro (cJ rfl (g.rI rfl (bY.intro (cJ rfl (g.rI rfl (bY.intro (cJ rfl (g.rI rfl (bY.intro (cJ rfl ?_))))))))));have A:=(m.fr u).fr B;refine xW A ?_ λs z bs P W d=>?_
 ·subst hy;exact Bw.gK rfl aB aB (λ_=>by decide) AQ
 rw[Fw]at W;have Q:bs=[(4096,24,2,0)]:=by
  have h1:=W.len;obtain⟨b,rfl⟩:=List.length_eq_one_iff.1 (show bs.length=1 from h1);have h2:=(W.mem b).1 aA;simp only[zV,Prod.mk.injEq]at h2;rw[h2.2]
 rw[Q,y3,Je,BC]at d;refine nw (cs:=[.int .i64 2,.int .i64 24,.int .i64 1,.int .i64 24,.int .i64 20,.int .i64 1]) λr hz14 x H=>?_;have G:cR s 6 (lH [(2,24,1,24,20,1)]) r (λb=>S.size<=b):=bR.gp (aI.bK d x);have F:cR ⟨some ⟨z.size,0,none⟩,1,1⟩ 6 (lH [(2,24,1,24,20,1)]) r (λb=>True):=⟨rfl,.inr ⟨z.size,0,_,trivial,rfl,H.q,λj _=>by rw[zG];rfl⟩⟩;refine Sg G F aA (bY.intro (cJ rfl (bY.intro (cJ rfl ?_))));exact hR r ((A.fr P).fr x).e
end Go.Ar
namespace Go.Ar
open Go Go.Vc Go.Proofs
open Go.Vc (bV dF cT)
variable {σ w w':Hp}{F P Q X:Rg}{L:dS}{H H':Hw}{held:List Pc}{s0:Sp}{t n:Nat}{g:Th}{σ0:Hp}{addrs:Sl}{ad:List Int}{l:Sl}{ds:List fS}
theorem jP.push (p:jP σ0 σ L H held s0 P Q addrs ad){s':Sl}{x:Int}(e:Ext Q σ w)(hr:bR s' 1 (Wv (ad++[x])) w (λb=>Q b\/σ.size<=b/\b<w.size))(hl:(ad++[x]).length<=60):jP σ0 w L H held s0 P (λb=>Q b\/σ.size<=b/\b<w.size) s' (ad++[x]):=by
 have j:=e.1;have i:=p.e.1;refine⟨Ext.fF p.e e λb a=>.inr (p.pQ b a).1,p.h.bU e (λb a d g=>(p.pQ b g).2.2 d) (λb a=>p.g0.1 b (p.pQ b a).1) (λa=>p.g0.2 (p.pQ _ a).1),p.hi,p.cf,p.pg,λb a=>⟨(p.pP b a).1,by have:=(p.pP b a).2;omega⟩,λb a=>?_,hr,hl,p.g0⟩;rcases a with a|a
 ·exact⟨(p.pQ b a).1,by have:=(p.pQ b a).2.1;omega,(p.pQ b a).2.2⟩
 ·exact⟨O,a.2,λd=>by have:=(p.pP b d).2;omega⟩
end Go.Ar
namespace Go.Ar
open Go Go.Vc Go.Proofs
open Go.Vc (bV dF cT)
variable {σ σ0 v w w':Hp}{F G P Q X T:Rg}{L:dS}{H H':Hw}{held:List Pc}{s0:Sp}{t n:Nat}{g:Th}{mb am m:Nat}{x y:Me}
structure Fg (H H':Hw):Prop where
 hi:∃held s0,HI H' held s0
 kp:Z8 H' H
 live:H'.live=H.live
 ph:(∀g∈H.bQ,g.ph=none)->∀g∈H'.bQ,g.ph=none
set_option maxRecDepth 8000 in
theorem DQ (h:HH σ F L H)(gc:Gc σ)(hi:HI H held s0)(hc:mw H)(h208:H.cf.aF<=208){addrs:Sl}{ad:List Int}(hs:cR addrs 1 (Wv ad) σ X)(d:fS)(di:ln d)
 (hkd:d.kd=2\/d.kd=3\/d.kd=8\/d.kd=9\/d.kd=10) {R:Int->Int->Int->Hp->Prop}
 (hR:∀a e n σ' ts' H',Ext F σ σ'->HH σ' (Grow F σ) {L with ts:=ts'} H'->Fg H H'->R a e n σ') :
 Y6.c (aW L.p) addrs d.kd d.th d.a d.b d.of d.pl d.va d.s σ R:=by
 refine Y6.o ?_;unfold Y6.v;refine nw (cs:=qA d) λv hz e i=>i.rI rfl (i.rI rfl (i.rI rfl (i.rI rfl (i.rI rfl (i.rI rfl (i.rI rfl (i.rT rfl ?_)))))));refine FT (aH.bK (aH.cut hs) e) d λv1 M=>?_;have K:=((HK.start h).box e hz).fr M;have z:=M.bZ i id;have C:=J6 (ad:=ad) di;generalize hx:uB ad d=x at C;have m:∀{H'},iG H H'->Fg H H':=λo=>⟨o.hi,o.kp,o.live,λh g hg=>h g (by rw[←o.bQ];exact hg)⟩;refine z.rI rfl (cU (λj=>absurd (pE (by simpa using j):d.kd=0) O) λhk0=>?_);refine cU (λj=>absurd (show d.kd=1 by simpa using j) O) λhk1=>?_;refine cU (λj=>?_) λP=>?_
 ·obtain⟨H',er,hw,o,le⟩:=Ty hi d.th;refine z.rI rfl (Η Cb K.h hc.2.2 hw λw ts u r=>?_);have K2:=K.to u r λb _ i=>i;exact hR _ _ _ w ts H' K2.e (K2.fin h) ⟨o.hi,o.kp,le,o.rest⟩
 refine cU (λj=>?_) λJ=>?_
 ·refine z.rI rfl (SM K.h (gc.bK (e.trans M)) x d.va C.2 λw u r=>?_);have K2:=K.to u r λb _ i=>i;exact hR _ _ _ w L.ts _ K2.e (K2.fin h) ⟨⟨_,_,hi.write x d.va⟩,⟨rfl,rfl,rfl,rfl⟩,rfl,id⟩
 have k2:d.kd≠2:=by simpa using P
 have k3:d.kd≠3:=by simpa using J
 refine cU (λj=>absurd (show d.kd=4 by simpa using j) O) λhk4=>?_;refine cU (λj=>absurd (show d.kd=5 by simpa using j) O) λaa=>?_;refine cU (λj=>absurd (show d.kd=6 by simpa using j) O) λhk6=>?_;refine cU (λj=>absurd (show d.kd=7 by simpa using j) O) λhk7=>?_;refine cU (λj=>?_) λG=>?_
 ·have y:=T2 hi d.a;refine z.rI rfl (OE K.h d.a di.a.2 (λn A N Q=>?_) (λn N=>?_) (λW=>?_) λZ w u r=>?_)
  ·obtain⟨B,S,U⟩:=(y n).1.hi;exact U.lr (by rw[(y n).1.kp.2.1];exact h208) Q
  ·have:=(y n).2;have:=h.s.a2;omega
  ·exact hR _ _ _ v1 L.ts _ K.e (K.fin h) ⟨⟨_,_,hi⟩,Z8.refl _,rfl,id⟩
  ·have K2:=K.to u r λb _ i=>i;exact hR _ _ _ w L.ts _ K2.e (K2.fin h) (m (y _).1)
 refine cU (λj=>?_) λE=>?_
 ·have V:=LN hi;refine Ms K.h (λn N=>?_) λw u r=>?_
  ·have:=(V n).2;have:=h.s.a2;omega
  ·have K2:=K.to u r λb _ i=>i;exact hR _ _ _ w L.ts _ K2.e (K2.fin h) (m (V _).1)
 refine cU (λj=>?_) λD=>?_
 ·have Y:=Sk hi;refine WlE K.h (λn A N Q=>?_) λw u r=>?_
  ·obtain⟨B,S,U⟩:=(Y n).hi;exact(U.wi.ga n A Q).BG
  ·have K2:=K.to u r λb _ i=>i;exact hR _ _ _ w L.ts _ K2.e (K2.fin h) (m (Y _))
 have k8:d.kd≠8:=by simpa using G
 have k9:d.kd≠9:=by simpa using E
 have k10:d.kd≠10:=by simpa using D
 omega
abbrev Kn:=Int×Int×Int
def mH (tb:List bW)(size align:Int):Int:=match gO tb size align with
 | some k=>(k:Int)
 | none=>-1
def wQ (tb:List bW)(k:Kn):Int×Int×Int:=(k.1,(td tb k.2.1 k.2.2).1,mH tb k.2.1 k.2.2)
structure KI (H:Hw) (x:Me) (kn:List Kn):Prop where
 asked:x.asked=kn.map λk=>(k.1,k.2.1)
 live:H.live.map (λe=>(e.1,e.2.2.1,e.2.2.2.1))=kn.map (wQ H.tb)
 arg:∀k∈kn,1<=k.2.1/\k.2.1<=16384/\KN k.2.1 k.2.2=true
 iR:x.cS=x.fT+kn.length
theorem KI.addr {kn:List Kn}(k:KI H x kn):H.live.map (·.1)=kn.map (·.1):=by
 have:=congrArg (List.map λe:Int×Int×Int=>e.1) k.live;rw[zm,zm]at this;exact this
theorem Ea {α β:Type}{l:List (Int×α)}{l':List (Int×β)}(h:l.map (·.1)=l'.map (·.1))(n:Int):bV l n=none↔bV l' n=none:=by
 have key:∀{γ:Type} (l:List (Int×γ)),bV l n=none↔n∉l.map (·.1):=λl=>by
  unfold bV;rw[rq,n4];simp only[zC,not_exists,not_and,zZ]
 rw[key,key,h]
theorem KI.same {kn:List Kn}(k:KI H x kn)(hl:H'.live=H.live)(ht:H'.tb=H.tb):KI H' x kn:=⟨k.asked,by rw[hl,ht];exact k.live,k.arg,k.iR⟩
end Go.Ar
namespace Go.Ar
open Go Go.Vc Go.Proofs
open Go.Vc (bV dF cT)
variable {σ σ0 v w w':Hp}{F G P Q X T:Rg}{L:dS}{H H':Hw}{held:List Pc}{s0:Sp}{t n:Nat}{g:Th}{mb am m xb:Nat}{x y:Me}
def m7 (hp mb:Nat)(addrs kns:Sl)(most:Int):List Value:=[.pointer (some ⟨hp,0,none⟩),.pointer (some ⟨mb,0,none⟩),.slice addrs.a addrs.len addrs.cap,.slice kns.a kns.len kns.cap,.int .i64 most]
structure OF (σ0 σ:Hp) (xb:Nat) (L:dS) (H:Hw) (held:List Pc) (s0:Sp) (P:Rg) (mb am:Nat) (x:Me) (Qa Qk:Rg) (addrs:Sl) (ad:List Int) (kns:Sl) (kn:List Kn) (most:Int):Prop where
 p:MP σ0 σ L H held s0 P mb am x
 b:bX σ xb (m7 L.p mb addrs kns most)
 ra:bR addrs 1 (Wv ad) σ Qa
 rk:bR kns 3 (kv kn) σ Qk
 uv:σ0.size<=xb/\¬P xb/\xb≠mb/\xb≠am/\¬Qa xb/\¬Qk xb
 qa:∀b,Qa b->σ0.size<=b/\b<σ.size/\¬P b/\b≠mb/\b≠am
 qk:∀b,Qk b->σ0.size<=b/\b<σ.size/\¬P b/\b≠mb/\b≠am
 qq:∀b,Qa b->¬Qk b
structure OP (σ0 σ:Hp) (xb:Nat) (L:dS) (H:Hw) (held:List Pc) (s0:Sp) (P:Rg) (mb am:Nat) (x:Me) (Qa Qk:Rg) (addrs:Sl) (ad:List Int) (kns:Sl) (kn:List Kn) (most:Int):Prop where
 f:OF σ0 σ xb L H held s0 P mb am x Qa Qk addrs ad kns kn most
 mi:lq x
 k:KI H x kn
 al:ad.length<=x.cS
 pk:x.sum<=x.dO/\x.dO=most
variable {Qa Qk:Rg}{addrs kns:Sl}{ad:List Int}{kn:List Kn}{most:Int}
theorem OF.fr (o:OF σ0 σ xb L H held s0 P mb am x Qa Qk addrs ad kns kn most)(e:bO σ w):OF σ0 w xb L H held s0 P mb am x Qa Qk addrs ad kns kn most:=
 ⟨o.p.fr e,e.bZ o.b id,aI.bK o.ra e,aI.bK o.rk e,o.uv,λb a=>by have h:=o.qa b a;have:=e.1;exact⟨h.1,O,h.2.2⟩,λb a=>by have h:=o.qk b a;have:=e.1;exact⟨h.1,O,h.2.2⟩,o.qq⟩
theorem OF.fO (o:OF σ0 σ xb L H held s0 P mb am x Qa Qk addrs ad kns kn most){L':dS}{held':List Pc}{s0':Sp}{P':Rg}(e:Ext (Md P mb am) σ w)(p':MP σ0 w L' H' held' s0' P' mb am y)(hL:L'.p=L.p)(hP:∀b,P' b->P b\/σ.size<=b) :
 OF σ0 w xb L' H' held' s0' P' mb am y Qa Qk addrs ad kns kn most:=by
 have D:=e.1;have g:=o.b.lt;obtain⟨u,m,s,r,z,A⟩:=o.uv;have i:∀b,b<σ.size->¬P b->¬P' b:=λb E B C=>by
  rcases hP b C with h4|h4
  ·exact B h4
  ·omega
 refine⟨p',?_,aI.bU o.ra e λb _ d a=>?_,aI.bU o.rk e λb _ d a=>?_,⟨u,i _ g m,s,r,z,A⟩,λb j=>?_,λb j=>?_,o.qq⟩
 ·rw[hL];exact e.bZ o.b λa=>by
   rcases a with a|a|a
   ·exact m a
   ·exact s a
   ·exact r a
 ·have h:=o.qa b d;rcases a with a|a|a
  ·exact h.2.2.1 a
  ·exact h.2.2.2.1 a
  ·exact h.2.2.2.2 a
 ·have h:=o.qk b d;rcases a with a|a|a
  ·exact h.2.2.1 a
  ·exact h.2.2.2.1 a
  ·exact h.2.2.2.2 a
 ·have h:=o.qa b j;exact⟨h.1,O,i b h.2.1 h.2.2.1,h.2.2.2⟩
 ·have h:=o.qk b j;exact⟨h.1,O,i b h.2.1 h.2.2.1,h.2.2.2⟩
theorem OF.cB (o:OF σ0 σ xb L H held s0 P mb am x Qa Qk addrs ad kns kn most){s':Sl}{ad':List Int}(e:Ext Qa σ w)(hr:bR s' 1 (Wv ad') w λb=>Qa b\/σ.size<=b/\b<w.size){K:aP}
 (hK:∀u,Ext (· = xb) w u->OF σ0 u xb L H held s0 P mb am x (λb=>Qa b\/σ.size<=b/\b<w.size) Qk s' ad' kns kn most->K u):dG (Addr.add ⟨xb,0,none⟩ 2) (.slice s'.a s'.len s'.cap) w K:=by
 have S:=e.1;have J:=o.b.lt;obtain⟨A,D,z,E,r,C⟩:=o.uv;have y:=o.p.out e λb _ d=>by have h:=o.qa b d;exact⟨h.2.2.1,h.2.2.2.1,h.2.2.2.2,h.1⟩
 have s:=aI.bU o.rk e λb _ j N=>o.qq b N j;refine(e.bZ o.b r).s1 (by simp[m7]) λu B b=>?_;have i:=B.ext;have Q:=B.1;have F:=y.b.lt;have M:=y.m.lt;refine hK u i ⟨y.out i λb _ (d:b=xb)=>by subst d;exact⟨D,z,E,A⟩,b,aI.bU hr i λb _ g (d:b=xb)=>?_,aI.bU s i λb _ g (d:b=xb)=>C (d▸g),⟨A,D,z,E,?_,C⟩,λb d=>?_,λb d=>by have h:=o.qk b d;exact⟨h.1,O,h.2.2⟩,λb d j=>?_⟩
 ·subst d;rcases g with g|g
  ·exact r g
  ·omega
 ·rintro(g|g)
  ·exact r g
  ·omega
 ·rcases d with d|d
  ·have h:=o.qa b d;exact⟨h.1,O,h.2.2⟩
  ·have:=o.p.e.1;have U:=o.p.b.lt;have R:=o.p.m.lt;exact⟨O,O,λG=>by have:=(o.p.pP b G).2;omega,O,O⟩
 ·rcases d with d|d
  ·exact o.qq b d j
  ·have:=(o.qk b j).2.1;omega
theorem OF.wU (o:OF σ0 σ xb L H held s0 P mb am x Qa Qk addrs ad kns kn most){s':Sl}{kn':List Kn}(e:Ext Qk σ w)(hr:bR s' 3 (kv kn') w λb=>Qk b\/σ.size<=b/\b<w.size){K:aP}
 (hK:∀u,Ext (· = xb) w u->OF σ0 u xb L H held s0 P mb am x Qa (λb=>Qk b\/σ.size<=b/\b<w.size) addrs ad s' kn' most->K u):dG (Addr.add ⟨xb,0,none⟩ 3) (.slice s'.a s'.len s'.cap) w K:=by
 have R:=e.1;have E:=o.b.lt;obtain⟨B,C,A,D,z,s⟩:=o.uv;have J:=o.p.out e λb _ d=>by have h:=o.qk b d;exact⟨h.2.2.1,h.2.2.2.1,h.2.2.2.2,h.1⟩
 have r:=aI.bU o.ra e λb _ F i=>o.qq b F i;refine(e.bZ o.b s).s1 (by simp[m7]) λu y b=>?_;have j:=y.ext;have G:=y.1;refine hK u j ⟨J.out j λb _ (d:b=xb)=>by subst d;exact⟨C,A,D,B⟩,b,aI.bU r j λb _ g (d:b=xb)=>z (d▸g),aI.bU hr j λb _ g (d:b=xb)=>?_,⟨B,C,A,D,z,?_⟩,λb d=>by have h:=o.qa b d;exact⟨h.1,O,h.2.2⟩,λb d=>?_,λb d i=>?_⟩
 ·subst d;rcases g with g|g
  ·exact s g
  ·omega
 ·rintro(g|g)
  ·exact s g
  ·omega
 ·rcases d with d|d
  ·have h:=o.qk b d;exact⟨h.1,O,h.2.2⟩
  ·have:=o.p.e.1;have Q:=o.p.b.lt;have N:=o.p.m.lt;exact⟨O,O,λM=>by have:=(o.p.pP b M).2;omega,O,O⟩
 ·rcases i with i|i
  ·exact o.qq b d i
  ·have:=(o.qa b d).2.1;omega
theorem OF.BX (o:OF σ0 σ xb L H held s0 P mb am x Qa Qk addrs ad kns kn most)(most':Int){K:aP}(hK:∀u,Ext (· = xb) σ u->OF σ0 u xb L H held s0 P mb am x Qa Qk addrs ad kns kn most'->K u):dG (Addr.add ⟨xb,0,none⟩ 4) (.int .i64 most') σ K:=by
 obtain⟨j,s,y,w,m,r⟩:=o.uv;refine o.b.s1 (by simp[m7]) λu g b=>?_;have d:=g.ext;have i:=g.1;exact hK u d ⟨o.p.out d λb _ (a:b=xb)=>by subst a;exact⟨s,y,w,j⟩,b,aI.bU o.ra d λb _ e (a:b=xb)=>m (a▸e),aI.bU o.rk d λb _ e (a:b=xb)=>r (a▸e),o.uv,λb a=>by have h:=o.qa b a;exact⟨h.1,O,h.2.2⟩,λb a=>by have h:=o.qk b a;exact⟨h.1,O,h.2.2⟩,o.qq⟩
def GV (kn:List Kn):Int:=(kn.map λk=>k.2.1).sum
theorem OP.sum (o:OP σ0 σ xb L H held s0 P mb am x Qa Qk addrs ad kns kn most):x.sum=GV kn:=by
 rw[o.mi.s,o.k.asked];unfold GV;rw[zm];rfl
theorem By {s:Sl}{l:List T3}(hs:cR s 3 (kv l) σ F){i:Nat}{r:T3}(hb:l[i]?=some r){K:Addr->Prop}(hK:∀bb o,(∀(j:Nat) v,(v3 r)[j]?=some v->cell σ ⟨bb,o+j,none⟩=some v)->K ⟨bb,o,none⟩):Ix s.a s.len (i:Int) 3 K:=by
 have p:=(cQ.1 hb).1;have w:s.len=l.length:=by have:=hs.1;rw[Uz]at this;omega
 obtain⟨b,o,g,_⟩:=hs.cell (j:=i*3+0) (v:=.int .i64 r.1) ((Gg hb O).trans rfl);rw[g];refine ix O O ?_;rw[add_lit];refine hK b _ λj v e=>?_;have u:j<3:=(cQ.1 e).1;obtain⟨x,y,d,m⟩:=hs.cell ((Gg hb u).trans e);rw[g]at d;cases d;rw[show o+(i:Int).toNat*3+j=o+(i*3+j) by omega];exact m
theorem Tz {hp:Nat}(hb:bX σ xb (m7 hp mb addrs kns most))(hs:cR kns 3 (kv kn) σ F)(hl:kn.length<=1000)(ha:∀k∈kn,0<=k.2.1/\k.2.1<=16384){R:aN}(hR:R (GV kn) σ):WP.c (aW xb) σ R:=by
 refine WP.o ?_;unfold WP.v;have x:kns.len=kn.length:=by have:=hs.1;rw[Uz]at this;omega
 refine Ko (a:=bN) (bb:=bN) (λ(sum i:Int) w=>w=σ/\∃k:Nat,i=k/\k<=kn.length/\sum=GV (kn.take k)) (λ_ i _=>kn.length-i.toNat) ⟨rfl,0,rfl,O,by simp[GV]⟩ ?_;rintro(sum:Int) (i:Int) w ⟨rfl,k,rfl,hk,rfl⟩;refine aG (hb.rS rfl (cI (λj=>?_) λe=>?_))
 ·have p:k<kn.length:=by simp only at j;omega
  have d:kn[k]?=some kn[k]:=cM _;generalize kn[k]=r at d;have B:=ha r (zE d);have y:=VG (l:=kn.take k) (f:=λk:Kn=>k.2.1) (c:=16384) λb h=>ha b (mK h);have z:(kn.take k).length=k:=by rw[zO];omega
  have u:GV (kn.take (k+1))=GV (kn.take k)+r.2.1:=by unfold GV;rw[zg,d];simp
  have A:GV (kn.take k)=((kn.take k).map λk:Kn=>k.2.1).sum:=rfl;refine aG (hb.rS rfl (By hs d λbb o s=>dP (s 1 _ rfl) (ar O O (cA (m:=k+1) O O ⟨⟨rfl,k+1,rfl,O,u.symm⟩,O⟩))))
 ·have g:k=kn.length:=by simp only at e;omega
  subst g;rw[zn];exact hR
end Go.Ar
namespace Go.Ar
open Go Go.Vc Go.Proofs
open Go.Vc (bV dF cT)
variable {H H':Hw}{x y:Me}{kn:List Kn}{a size align e:Int}{D:Nat}
theorem UH {α β:Type}(l:List (Int×α))(f:Int×α->Int×β)(hf:∀z∈l,(f z).1=z.1)(n:Int):(cT l n).map f=cT (l.map f) n:=by
 unfold cT
 induction l with
 | nil=>rfl
 | cons z l ih=>
  have d:=hf z lf;have b:=ih λz a=>hf z (kM _ a);simp only[zJ,qU,d];by_cases a:z.1=n
  ·simp[a,b]
  ·simp[a,b]
theorem KI.fresh (k:KI H x kn)(h:bV H.live a=none):bV x.asked a=none:=by
 rw[k.asked];refine(Ea ?_ a).1 h;rw[k.addr,zm];rfl
theorem KI.gK (k:KI H x kn)(ht:H'.tb=H.tb)(me:sO H size align H' a e):(e=0->KI H' (x.gK a size e D) (kn++[(a,size,align)]))/\(e≠0->KI H' (x.gK a size e D) kn):=by
 refine⟨λb=>?_,λb=>?_⟩
 ·rcases me with⟨h1,_⟩|⟨_,hm,hok,cl,m,hcl⟩
  ·exact absurd b h1
  ·have g:=k.fresh hm;have p:x.forget a=x:=by unfold Me.forget;rw[Ho g,g];simp
   have d:(x.gK a size e D).asked=x.asked++[(a,size)]/\(x.gK a size e D).cS=x.cS+1/\(x.gK a size e D).fT=x.fT:=by
    unfold Me.gK;rw[zB b,p];unfold Me.count Me.add Me.eN;rw[zB b,zB rfl];exact⟨A5 g _,rfl,rfl⟩
   refine⟨?_,?_,λq i=>?_,?_⟩
   ·rw[d.1,k.asked];simp
   ·rw[m,A5 hm,zr,zr,k.live,ht]
    congr 1
    simp only[zJ,oY,wQ]
    congr 3
    unfold mH;rcases hcl with⟨j,rfl,hj⟩|⟨rfl,hj⟩<;>rw[hj]
   ·rcases zR.1 i with i|i
    ·exact k.arg q i
    ·rw[zV]at i;subst i;exact⟨hok.1,hok.2.1,hok.2.2⟩
   ·rw[d.2.1,d.2.2,k.iR,zK,uw];omega
 ·have m:H'.live=H.live:=by
   rcases me with⟨_,_,h⟩|⟨h,_⟩
   ·exact h
   ·exact absurd h b
  have d:(x.gK a size e D).asked=x.asked/\(x.gK a size e D).cS=x.cS/\(x.gK a size e D).fT=x.fT:=by
   unfold Me.gK;rw[zA b];unfold Me.count Me.eN;rw[zA b];exact⟨rfl,rfl,rfl⟩
  exact⟨d.1.trans k.asked,by rw[m,ht];exact k.live,k.arg,by rw[d.2.1,d.2.2];exact k.iR⟩
theorem Jg {l:List (Int×Int)}{n v:Int}(hn:(l.map (·.1)).Nodup)(h:bV l n=some v):(l.map (·.2)).sum=v+((cT l n).map (·.2)).sum/\l.length=(cT l n).length+1:=by
 have b:=KA h;refine⟨BZ hn b,?_⟩;clear h;unfold cT
 induction l with
 | nil=>simp at b
 | cons z l ih=>
  simp only[zJ,zq]at hn;rcases zQ.1 b with h1|h1
  ·subst h1;have:l.filter (λy=>!(y.1==n))=l:=by
    rw[nT];intro y hy;have:y.1≠n:=λe=>hn.1 (zC.2 ⟨y,hy,e⟩);simpa using this
   rw[uo aA,this];rfl
  ·have a:z.1≠n:=λe=>hn.1 (zC.2 ⟨_,h1,e.symm⟩);rw[tj (by simpa using a),zP,zP,ih hn.2 h1]
theorem Ε (k:KI H x kn)(ht:H'.tb=H.tb)(he:e=0)(hl:H'.live=cT H.live a){b:Bk}(hm:bV H.live a=some b)(hn:(H.live.map (·.1)).Nodup):KI H' (x.jb a e D) (kn.filter λq=>!(q.1==a))/\(∃v,bV x.asked a=some v)/\kn.length=(kn.filter λq=>!(q.1==a)).length+1:=by
 have m:(x.jb a e D).asked=cT x.asked a/\(x.jb a e D).cS=x.cS/\(x.jb a e D).fT=x.fT+1:=by
  unfold Me.jb;rw[zB he];unfold Me.count Me.forget Me.eN;rw[zB he,zA aB];exact⟨rfl,rfl,rfl⟩
 have i:x.asked.map (·.1)=H.live.map (·.1):=by rw[k.asked,k.addr,zm];rfl
 obtain⟨v,p⟩:∃v,bV x.asked a=some v:=by
  cases h:bV x.asked a with
  | none=>rw[(Ea i a).1 h]at hm;cases hm
  | some v=>exact⟨v,rfl⟩
 have d:=(Jg (by rw[i];exact hn) p).2;have g:cT x.asked a=(kn.filter λq=>!(q.1==a)).map λq=>(q.1,q.2.1):=by
  rw[k.asked];exact(UH kn (λq=>(q.1,q.2.1)) (λ_ _=>rfl) a).symm
 have j:kn.length=(kn.filter λq=>!(q.1==a)).length+1:=by
  rw[g,za]at d;rw[←d,k.asked,za]
 refine⟨⟨m.1.trans g,?_,λq r=>k.arg q (zH.1 r).1,?_⟩,⟨v,p⟩,j⟩
 ·rw[hl,ht,UH H.live (λe=>(e.1,e.2.2.1,e.2.2.2.1)) (λ_ _=>rfl) a,k.live];exact(UH kn (wQ H.tb) (λ_ _=>rfl) a).symm
 ·rw[m.2.1,m.2.2,k.iR,j];omega
theorem KI.ry (k:KI H x kn)(ht:H'.tb=H.tb)(he:e≠0)(hl:H'.live=H.live):KI H' (x.jb a e D) kn:=by
 have b:(x.jb a e D).asked=x.asked/\(x.jb a e D).cS=x.cS/\(x.jb a e D).fT=x.fT:=by
  unfold Me.jb;rw[zA he];unfold Me.count Me.eN;rw[zA he];exact⟨rfl,rfl,rfl⟩
 exact⟨b.1.trans k.asked,by rw[hl,ht];exact k.live,k.arg,by rw[b.2.1,b.2.2];exact k.iR⟩
theorem lq.jb (mi:lq x)(hn:(x.asked.map (·.1)).Nodup)(hv:e=0->∃v,bV x.asked a=some v)(hc:x.calls<=899)(hD:D<=128):lq (x.jb a e D):=by
 unfold Me.calls at hc;refine lq.eN ?_ hD;by_cases he:e=0
 ·rw[zB he];obtain⟨v,hv⟩:=hv he;have g:=Jg hn hv;unfold Me.count Me.forget;rw[zB he,zA aB];refine⟨λy b=>mi.v y (zH.1 b).1,?_,?_,mi.p,mi.d,?_⟩
  ·have:=mi.l;simp only;omega
  ·have:=mi.s;simp only[hv,pN];omega
  ·unfold Me.calls;simp only;omega
 ·rw[zA he];unfold Me.count;rw[zA he];exact⟨mi.v,mi.l,mi.s,mi.p,mi.d,by unfold Me.calls;simp only;omega⟩
end Go.Ar
namespace Go.Ar
open Go Go.Vc Go.Proofs
open Go.Vc (bV dF cT)
variable {σ σ0 v w w':Hp}{F G P Q X T:Rg}{L:dS}{H H':Hw}{held:List Pc}{s0:Sp}{t n:Nat}{g:Th}{mb am m xb:Nat}{x y:Me}{Qa Qk:Rg}{addrs kns:Sl}{ad:List Int}{kn:List Kn}{most:Int}
theorem Au {S:aP}{b i:Nat}{cs:List Value}{c:CK}{y:c.T}(hS:∀m,S m->bX m b cs)(hc:cs[i]?=some (c.v y)){K:c.T->Prop}(hK:K y):gP S c (Addr.add ⟨b,0,none⟩ i) K:=
 ⟨y,λm a=>by rw[add_lit,(hS m a).cell,zG];exact hc,hK⟩
theorem MV {S:aP}(hr:bR kns 3 (kv kn) σ Q)(hl:kn.length<=1000)(k:Kn)(hS0:∀u,bO σ u->S u){e t:Nat}{K:Sl->Hp->Prop}
 (hK:∀s' w,Ext Q σ w->bR s' 3 (kv (kn++[k])) w (λb=>Q b\/σ.size<=b/\b<w.size)->S w/\K s' w) :
 Nw (.cells #[.int .i64 k.1,.int .i64 k.2.1,.int .i64 k.2.2] t (0,0)) σ λn v=>And (S v)<|App kns 3 24 e [.int .i64 0,.int .i64 0,.int .i64 0] ⟨some n,1,1⟩ v λs' w=>And (S w)<|K s' w:=by
 have z:kns.len=kn.length:=by have:=hr.1;rw[Uz]at this;omega
 refine nw (cs:=v3 k) λv m i g=>⟨hS0 v i,?_⟩;have d:=aI.bK hr i;refine d.app (ys:=v3 k) rfl (by simp[v3]) ?_ (by simp[v3,dN]) ?_ ?_ nA λs' h' s p a=>?_
 ·intro j u hu;rw[add_lit,zG,g.cell];exact hu
 ·simp only;omega
 ·simp only;omega
 ·have r:Ext Q σ h':=i.to.trans p;refine hK s' h' r ?_;rw[DZ];refine aI.mono (aI.cut a) λb x y=>?_;rcases y.1 with h1|h1
  ·exact .inl h1
  ·exact .inr ⟨O,x⟩
structure qF (d:fS) (x y:Me) (H':Hw):Prop where
 calls:y.calls=x.calls+(if d.kd=120\/d.kd=121 then 1 else 0)
 dO:x.dO<=y.dO
 dK:x.dK<=y.dK
 dd:d.kd=120\/d.kd=121->(H'.sp.st.count 2:Int)*256<=y.dK
theorem yv (x:Me)(D:Int):x.dO<=(x.eN D).dO/\x.sum<=(x.eN D).dO/\x.dK<=(x.eN D).dK/\D*256<=(x.eN D).dK/\(x.eN D).dO=(if x.sum>x.dO then x.sum else x.dO)/\(x.eN D).calls=x.calls/\(x.eN D).sum=x.sum:=by
 unfold Me.eN Me.calls;refine⟨?_,?_,?_,?_,rfl,rfl,rfl⟩<;>simp only<;>split<;>omega
theorem xL (x:Me)(e:Int)(gK:Bool):(x.count e gK).calls=x.calls+1/\(x.count e gK).dO=x.dO/\(x.count e gK).dK=x.dK/\(x.count e gK).sum=x.sum:=by
 unfold Me.count Me.calls;split
 ·split
  ·exact⟨by simp only;omega,rfl,rfl,rfl⟩
  ·exact⟨by simp only;omega,rfl,rfl,rfl⟩
 ·exact⟨by simp only;omega,rfl,rfl,rfl⟩
theorem Δ {d:fS}(hd:d.kd=120)(x:Me)(a size e:Int):qF d x (x.gK a size e (H'.sp.st.count 2)) H':=by
 have b:=yv ((if e=0 then(x.forget a).add a size else x).count e true) (H'.sp.st.count 2:Nat)
 have g:=xL (if e=0 then(x.forget a).add a size else x) e true
 have i:(if e=0 then(x.forget a).add a size else x).calls=x.calls/\(if e=0 then(x.forget a).add a size else x).dO=x.dO/\(if e=0 then(x.forget a).add a size else x).dK=x.dK:=by
  split<;>exact⟨rfl,rfl,rfl⟩
 refine⟨?_,?_,?_,λ_=>b.2.2.2.1⟩
 ·rw[zB (.inl hd)];show(Me.eN _ _).calls=_;omega
 ·show x.dO<=(Me.eN _ _).dO;omega
 ·show x.dK<=(Me.eN _ _).dK;omega
theorem Pt {d:fS}(hd:d.kd=121)(x:Me)(a e:Int):qF d x (x.jb a e (H'.sp.st.count 2)) H':=by
 have b:=yv ((if e=0 then x.forget a else x).count e false) (H'.sp.st.count 2:Nat)
 have g:=xL (if e=0 then x.forget a else x) e false
 have i:(if e=0 then x.forget a else x).calls=x.calls/\(if e=0 then x.forget a else x).dO=x.dO/\(if e=0 then x.forget a else x).dK=x.dK:=by
  split<;>exact⟨rfl,rfl,rfl⟩
 refine⟨?_,?_,?_,λ_=>b.2.2.2.1⟩
 ·rw[zB (.inr hd)];show(Me.eN _ _).calls=_;omega
 ·show x.dO<=(Me.eN _ _).dO;omega
 ·show x.dK<=(Me.eN _ _).dK;omega
theorem OP.fr (o:OP σ0 σ xb L H held s0 P mb am x Qa Qk addrs ad kns kn most)(e:bO σ w):OP σ0 w xb L H held s0 P mb am x Qa Qk addrs ad kns kn most:=⟨o.f.fr e,o.mi,o.k,o.al,o.pk⟩
theorem MP.xv (p:MP σ0 σ L H held s0 P mb am x):H.sp.st.count 2<=128:=by
 have d:=vq (a:=2) (l:=H.sp.st);have b:=p.hi.sl;have e:=p.pg;omega
def qW (P:Rg)(mb am xb:Nat)(Qa Qk:Rg):Rg:=λb=>Md P mb am b\/b=xb\/Qa b\/Qk b
theorem wX {P P' Qa Qa' Qk Qk':Rg}{n:Nat}(hP:∀b,P' b->P b\/n<=b)(hA:∀b,Qa' b->Qa b\/n<=b)(hK:∀b,Qk' b->Qk b\/n<=b):∀b,qW P' mb am xb Qa' Qk' b->qW P mb am xb Qa Qk b\/n<=b:=by
 rintro b ((h|h|h)|h|h|h)
 ·exact(hP b h).imp (λh=>.inl (.inl h)) id
 ·exact .inl (.inl (.inr (.inl h)))
 ·exact .inl (.inl (.inr (.inr h)))
 ·exact .inl (.inr (.inl h))
 ·exact(hA b h).imp (λh=>.inr (.inr (.inl h))) id
 ·exact(hK b h).imp (λh=>.inr (.inr (.inr h))) id
set_option maxRecDepth 16000 in
theorem Wlk (o:OP σ0 σ xb L H held s0 P mb am x Qa Qk addrs ad kns kn most)(gc:Gc σ0)(hc:x.calls<=899)(d:fS)(di:ln d){R:aN}
 (hR:∀e w L' H' held' s0' P' y Qa' Qk' addrs' ad' kns' kn' most',OP σ0 w xb L' H' held' s0' P' mb am y Qa' Qk' addrs' ad' kns' kn' most'->L'.p=L.p->Z8 H' H->qF d x y H'->Ext (qW P mb am xb Qa Qk) σ w/\(∀b,qW P' mb am xb Qa' Qk' b->qW P mb am xb Qa Qk b\/σ.size<=b)->R e w) :
 Xq.c (aW xb) d.kd d.th d.a d.b d.of d.pl d.va d.s σ R:=by
 refine Xq.o ?_;unfold Xq.v;have tM:∀{u u':Hp},Ext (Md P mb am) u u'->Ext (qW P mb am xb Qa Qk) u u':=λe=>e.sub λb z=>.inl z;have tX:∀{u u':Hp},Ext (· = xb) u u'->Ext (qW P mb am xb Qa Qk) u u':=λe=>e.sub λb z=>.inr (.inl z);have tA:∀{u u':Hp},Ext Qa u u'->Ext (qW P mb am xb Qa Qk) u u':=λe=>e.sub λb z=>.inr (.inr (.inl z));have tK:∀{u u':Hp},Ext Qk u u'->Ext (qW P mb am xb Qa Qk) u u':=λe=>e.sub λb z=>.inr (.inr (.inr z));have hxb:=o.f.b.lt;have hmb:=o.f.p.b.lt;have ham:=o.f.p.m.lt;have h00:=o.f.p.e.1;refine nw (cs:=qA d) λv hz e z=>aG ((o.f.fr e).b.rS rfl (z.rI rfl (z.rI rfl (z.rI rfl (z.rI rfl (z.rI rfl (z.rI rfl (z.rI rfl (z.rT rfl ?_)))))))));have o1:=o.f.fr e;refine FT (bR.gp o1.ra) d λv1 M=>?_;have o2:=o1.fr M;have Y:σ.size<=v1.size:=(e.trans M).1;have A:=M.bZ z id;have hat:=J6 (ad:=ad) di;generalize hx:uB ad d=ax at hat;have hkl:kn.length<=900:=by have U:=o.k.iR;have V:=o.mi.c;unfold Me.calls at V;omega
 have hal:ad.length<=900:=by have U:=o.al;have V:=o.mi.c;unfold Me.calls at V;omega
 have hnM:¬Md P mb am σ.size:=λG=>by
  rcases G with G|G|G
  ·have:=(o.f.p.pP _ G).2;omega
  ·omega
  ·omega
 refine A.rI rfl (cU (λhk=>?_) λhk0=>?_)
 ·have Q:d.kd=120:=by simpa using hk
  refine⟨λm=>bO v1 m,Ext.refl _ _,aG (bX.rH (c:=.p) (y:=some ⟨mb,0,none⟩) o2.b rfl (bX.rH (c:=bN) (y:=d.th) A rfl (bX.rH (c:=bN) (y:=d.a) A rfl (bX.rH (c:=bN) (y:=d.b) A rfl ?_))))⟩;refine ED o2.p o.mi hc d.th d.a d.b λa j w ts H' held' s0' P' E p3 K kp me hw=>?_;have o3:=o2.fO E p3 rfl K;have hb3:=E.bZ A hnM;have X:=Δ (H':=H') Q x a d.a j;obtain⟨km1,km2⟩:=o.k.gK (D:=H'.sp.st.count 2) kp.1 me;have N:=p3.xv;refine cU (λh0=>?_) λh0=>?_
  ·have g:j=0:=by simpa using h0
   have hfr:bV x.asked a=none/\1<=d.a/\d.a<=16384:=by
    rcases me with⟨B,_⟩|⟨_,B,U,_⟩
    ·exact absurd g B
    ·exact⟨o.k.fresh B,U.1,U.2.1⟩
   have C:=o.mi.gK (size:=d.a) (e:=j) hfr.1 hc O (λ_=>hfr.2.2) N;have hmc:(x.gK a d.a j (H'.sp.st.count 2)).cS=x.cS+1:=by
    unfold Me.gK Me.count Me.eN;rw[zB g,zB g,zB rfl];rfl
   refine aG (o3.b.rS rfl (Wpf o3.ra O a λs' u1 e4 hr4=>aG (o3.cB e4 hr4 λu2 e5 o5=>?_)));have hb5:bX u2 σ.size (qA d):=e5.bZ (e4.bZ hb3 λhq=>by have:=(o.f.qa _ hq).2.1;omega) λ(hx:σ.size=xb)=>by omega
   refine⟨λm=>bX m xb (m7 _ mb s' kns most)/\bX m σ.size (qA d),⟨o5.b,hb5⟩,aG (Au (c:=.s) (y:=kns) (λm G=>G.1) rfl (Au (c:=bN) (y:=d.a) (λm G=>G.2) rfl (Au (c:=bN) (y:=d.b) (λm G=>G.2) rfl ?_)))⟩;refine MV o5.rk O (a,d.a,d.b) (λu W=>⟨W.bZ o5.b id,W.bZ hb5 id⟩) λs2 u3 e6 hr6=>⟨⟨e6.bZ o5.b o5.uv.2.2.2.2.2,e6.bZ hb5 λhq=>?_⟩,aG (o5.wU e6 hr6 λu4 e7 o7=>?_)⟩
   ·have:=(o.f.qk _ hq).2.1;omega
   have kk:=km1 g;have hsum:(x.gK a d.a j (H'.sp.st.count 2)).sum=GV (kn++[(a,d.a,d.b)]):=by
    rw[C.s,kk.asked];unfold GV;rw[zm];rfl
   refine⟨λm=>bO u4 m,Ext.refl _ _,aG (bX.rH (c:=bN) (y:=most) o7.b rfl (Tz o7.b (bR.gp o7.rk) (by rw[zK,uw];omega) (λq hq=>by have:=kk.arg q hq;omega) ⟨Ext.refl _ _,aG (o7.BX _ λu5 e8 o8=>?_)⟩))⟩;refine hR j u5 _ H' held' s0' P' _ _ _ _ _ _ _ _ ⟨o8,C,kk,?_,?_⟩ rfl kp X ⟨((((((bO.to (e.trans M)).trans (tM E)).trans (tA e4)).trans (tX e5)).trans (tK e6)).trans (tX e7) |>.trans (tX e8)),wX (λb h=>(K b h).imp id λh=>zI Y h) (λb h=>h.imp id λh=>zI (zI Y E.1) h.1) (λb h=>h.imp id λh=>zI (zI (zI (zI Y E.1) e4.1) e5.1) h.1)⟩
   ·rw[zK,uw,hmc];have:=o.al;omega
   ·have B:=yv ((if j=0 then(x.forget a).add a d.a else x).count j true) (H'.sp.st.count 2:Nat)
    have U:=xL (if j=0 then(x.forget a).add a d.a else x) j true
    have V:(if j=0 then(x.forget a).add a d.a else x).dO=x.dO:=by split<;>rfl
    have h4:=o.pk;have M:(x.gK a d.a j (H'.sp.st.count 2)).dO=(Me.eN ((if j=0 then(x.forget a).add a d.a else x).count j true) (H'.sp.st.count 2:Nat)).dO:=rfl
    have e2:(x.gK a d.a j (H'.sp.st.count 2)).sum=(Me.eN ((if j=0 then(x.forget a).add a d.a else x).count j true) (H'.sp.st.count 2:Nat)).sum:=rfl
    refine⟨O,?_⟩;rw[←hsum,M,B.2.2.2.2.1,U.2.1,V,h4.2,e2,B.2.2.2.2.2.2]
  ·have g:j≠0:=by simpa using h0
   have C:lq (x.gK a d.a j (H'.sp.st.count 2)):=by
    have B:x.gK a d.a j (H'.sp.st.count 2)=x.jb a j (H'.sp.st.count 2):=by
     unfold Me.gK Me.jb Me.count;rw[zA g,zA g,zA g,zA g]
    rw[B];exact o.mi.jb (o2.p.m.nodup) (λh=>absurd h g) hc N
   have hmc:(x.gK a d.a j (H'.sp.st.count 2)).cS=x.cS:=by
    unfold Me.gK Me.count Me.eN;rw[zA g,zA g]
   refine hR j w _ H' held' s0' P' _ _ _ _ _ _ _ _ ⟨o3,C,km2 g,by rw[hmc];exact o.al,?_⟩ rfl kp X ⟨(bO.to (e.trans M)).trans (tM E),wX (λb h=>(K b h).imp id λh=>zI Y h) (λ_=>.inl) (λ_=>.inl)⟩;have h4:=o.pk;have h5:(x.gK a d.a j (H'.sp.st.count 2)).sum=x.sum:=by unfold Me.gK Me.count Me.eN;rw[zA g,zA g]
   have h6:(x.gK a d.a j (H'.sp.st.count 2)).dO=x.dO:=by
    unfold Me.gK Me.count Me.eN;rw[zA g,zA g];exact zA aC
   exact⟨by rw[h5,h6];exact h4.1,by rw[h6];exact h4.2⟩
 have k0:d.kd≠120:=by simpa using hk0
 refine cU (λhk=>?_) λhk1=>?_
 ·have Q:d.kd=121:=by simpa using hk
  refine aG (o2.b.rP rfl (A.rI rfl (TQ o2.p o.mi hc d.th ax hat.2 λj w ts H' held' s0' P' E p3 K kp fe=>?_)));have o3:=o2.fO E p3 rfl K;have X:=Pt (H':=H') Q x ax j;have N:=p3.xv;refine cU (λh0=>?_) λh0=>?_
  ·have g:j=0:=by simpa using h0
   obtain⟨b0,G,aa⟩:∃b,bV H.live ax=some b/\H'.live=cT H.live ax:=by
    rcases fe with⟨B,_⟩|⟨_,_,B,_⟩|⟨_,b,G,_,hl⟩
    ·exact absurd g B
    ·exact absurd g B
    ·exact⟨b,G,hl⟩
   obtain⟨kk,hv,hlen⟩:=Ε (D:=H'.sp.st.count 2) o.k kp.1 g aa G o2.p.hi.lk;have C:=o.mi.jb (e:=j) (D:=H'.sp.st.count 2) o2.p.m.nodup (λ_=>hv) hc N;refine Ko (a:=.s) (bb:=bN) (λ(l:Sl) (i:Int) u=>∃k:Nat,i=k/\k<=kn.length/\Ext (λb=>w.size<=b) w u/\bR l 3 (kv ((kn.take k).filter λq=>!(q.1==ax))) u (λb=>w.size<=b)) (λ_ i _=>kn.length-i.toNat) ⟨0,rfl,O,Ext.refl _ _,⟨rfl,.inl ⟨rfl,rfl⟩⟩⟩ ?_;rintro(l:Sl) (i:Int) u ⟨k,rfl,hk,W,hl⟩;have eu0:bO w u:=⟨W.1,λb z _=>W.2 b z O⟩;have ou:=o3.fr eu0;have hknl:kns.len=kn.length:=by have:=ou.rk.1;rw[Uz]at this;omega
   have hll:l.len<=k:=by
    have B:((kn.take k).filter λq:Kn=>!(q.1==ax)).length*3=l.len*3:=by have:=hl.1;rw[Uz]at this;exact this
    have U:=nh (λq:Kn=>!(q.1==ax)) (kn.take k);rw[zO,qg hk]at U;omega
   refine aG (ou.b.rS rfl (cI (λhlt=>?_) λhge=>?_))
   ·have hk':k<kn.length:=by simp only at hlt;omega
    have hg:kn[k]?=some kn[k]:=cM _;generalize kn[k]=q at hg;have htk:kn.take (k+1)=kn.take k++[q]:=by rw[zg,hg];rfl
    refine aG (ou.b.rS rfl (By (bR.gp ou.rk) hg λbb o' S=>dP (S 0 _ rfl) (cU (λab=>?_) λZ=>?_)))
    ·have ab:¬q.1=ax:=by simpa using ab
     refine aG (ou.b.rS rfl (By (bR.gp ou.rk) hg λbb o' S=>dP (S 0 _ rfl) (dP (S 1 _ rfl) (dP (S 2 _ rfl) ?_))));refine bR.push (F:=λb=>w.size<=b) (vs:=v3 q) hl (λb z=>by have:=W.1;show w.size<=b;omega) rfl rfl (by simp[v3,dN]) O O λs' u' hsl eu' hrow'=>?_;refine cA (m:=k+1) O O ⟨⟨k+1,rfl,O,W.trans eu',?_⟩,O⟩;rw[htk,uI,tj (by simpa using ab),List.filter_nil,DZ];exact hrow'
    ·have Z:q.1=ax:=by simpa using Z
     refine cA (m:=k+1) O O ⟨⟨k+1,rfl,O,W,?_⟩,O⟩;rw[htk,uI,uo (by simp[Z]),List.filter_nil,j8];exact hl
   ·have hkk:k=kn.length:=by simp only at hge;omega
    subst hkk;rw[zn]at hl;refine aG (o3.wU (bO.to eu0) (aI.mono (aI.cut hl) λb _ z=>.inr ⟨z.1,z.2⟩) λu2 e9 o4=>?_);refine hR j u2 _ H' held' s0' P' _ _ _ _ _ _ _ _ ⟨o4,C,kk,?_,?_⟩ rfl kp X ⟨(((bO.to (e.trans M)).trans (tM E)).trans (bO.to eu0)).trans (tX e9),wX (λb h=>(K b h).imp id λh=>zI Y h) (λ_=>.inl) (λb h=>h.imp id λh=>zI (zI Y E.1) h.1)⟩
    ·have:(x.jb ax j (H'.sp.st.count 2)).cS=x.cS:=by
      unfold Me.jb Me.count Me.eN;rw[zB g,zB g,zA aB];rfl
     rw[this];exact o.al
    ·have h4:=o.pk;obtain⟨vv,hvv⟩:=hv;have hvr:=o.mi.v _ (KA hvv);have h5:(x.jb ax j (H'.sp.st.count 2)).sum=x.sum-vv:=by
      unfold Me.jb Me.count Me.eN;rw[zB g,zB g,zA aB];unfold Me.forget;rw[hvv];rfl
     have B:=yv ((if j=0 then x.forget ax else x).count j false) (H'.sp.st.count 2:Nat)
     have U:=xL (if j=0 then x.forget ax else x) j false
     have V:(if j=0 then x.forget ax else x).dO=x.dO:=by split<;>rfl
     have h6:(x.jb ax j (H'.sp.st.count 2)).dO=(Me.eN ((if j=0 then x.forget ax else x).count j false) (H'.sp.st.count 2:Nat)).dO:=rfl
     have h7:(x.jb ax j (H'.sp.st.count 2)).sum=(Me.eN ((if j=0 then x.forget ax else x).count j false) (H'.sp.st.count 2:Nat)).sum:=rfl
     have h8:(x.jb ax j (H'.sp.st.count 2)).dO=x.dO:=by
      rw[h6,B.2.2.2.2.1,U.2.1,V];have:((if j=0 then x.forget ax else x).count j false).sum=x.sum-vv:=by rw[←B.2.2.2.2.2.2,←h7];exact h5
      rw[this];exact zA (by simp only at hvr;omega)
     simp only at hvr;exact⟨by rw[h5,h8];omega,by rw[h8];exact h4.2⟩
  ·have g:j≠0:=by simpa using h0
   have aa:H'.live=H.live:=by
    rcases fe with⟨_,B,_⟩|⟨_,_,_,B⟩|⟨_,b,_,B,_⟩
    ·rw[B]
    ·exact B
    ·exact absurd B g
   have C:=o.mi.jb (a:=ax) (e:=j) (D:=H'.sp.st.count 2) o2.p.m.nodup (λh=>absurd h g) hc N;have hf:(x.jb ax j (H'.sp.st.count 2)).cS=x.cS/\(x.jb ax j (H'.sp.st.count 2)).sum=x.sum/\(x.jb ax j (H'.sp.st.count 2)).dO=x.dO:=by
    have h4:=o.pk;unfold Me.jb Me.count Me.eN;rw[zA g,zA g];exact⟨rfl,rfl,zA aC⟩
   exact hR j w _ H' held' s0' P' _ _ _ _ _ _ _ _ ⟨o3,C,o.k.ry kp.1 g aa,by rw[hf.1];exact o.al,by rw[hf.2.1,hf.2.2];exact o.pk⟩ rfl kp X ⟨(bO.to (e.trans M)).trans (tM E),wX (λb h=>(K b h).imp id λh=>zI Y h) (λ_=>.inl) (λ_=>.inl)⟩
 have k1:d.kd≠121:=by simpa using hk1
 have X:∀H',qF d x x H':=λH'=>⟨by rw[zA O];omega,ql _,ql _,λh=>O⟩;refine BM (λr w=>v1=w/\(r=true->d.kd=2\/d.kd=3\/d.kd=8\/d.kd=9\/d.kd=10)) (λr w ⟨hw,hr⟩=>?_) λJ hJ=>?_
 ·subst hw;refine cU (λht=>?_) λhf=>hR 0 v1 L H held s0 P x _ _ _ _ _ _ _ (o.fr (e.trans M)) rfl (Z8.refl _) (X H) ⟨bO.to (e.trans M),λ_=>.inl⟩;have Q:=hr ht;refine⟨λm=>bO v1 m,Ext.refl _ _,aG (bX.rH (c:=.p) (y:=some ⟨L.p,0,none⟩) o2.b rfl (aG (bX.rH (c:=.s) (y:=addrs) o2.b rfl (bX.rH (c:=bN) (y:=d.kd) A rfl (bX.rH (c:=bN) (y:=d.th) A rfl (bX.rH (c:=bN) (y:=d.a) A rfl (bX.rH (c:=bN) (y:=d.b) A rfl (bX.rH (c:=bN) (y:=d.of) A rfl (bX.rH (c:=bN) (y:=d.pl) A rfl (bX.rH (c:=bN) (y:=d.va) A rfl (bX.rH (c:=.str) (y:=d.s) A rfl ?_)))))))))))⟩;refine DQ o2.p.h (gc.bK o2.p.e) o2.p.hi o2.p.cf (by have:=o2.p.pg;omega) (bR.gp o2.ra) d di Q λa' e' n' w ts H' E V dq=>?_;obtain⟨held',s0',hi'⟩:=dq.hi;have p3:=o2.p.step E V hi' dq.kp (dq.ph o2.p.ph);have o3:=o2.fO (E.sub λb z=>.inl z) p3 rfl λb z=>z.1;exact hR e' w _ H' held' s0' _ x _ _ _ _ _ _ _ ⟨o3,o.mi,o.k.same dq.live dq.kp.1,o.al,o.pk⟩ rfl dq.kp (X H') ⟨(bO.to (e.trans M)).trans (tM (E.sub λb z=>.inl z)),wX (λb z=>z.1.imp id λh=>zI Y h) (λ_=>.inl) (λ_=>.inl)⟩
 ·exact cU (λh=>hJ _ _ ⟨rfl,λ_=>.inl (by simpa using h)⟩) λ_=>cU (λh=>hJ _ _ ⟨rfl,λ_=>.inr (.inl (by simpa using h))⟩) λ_=>cU (λh=>hJ _ _ ⟨rfl,λ_=>.inr (.inr (.inl (by simpa using h)))⟩) λ_=>cU (λh=>hJ _ _ ⟨rfl,λ_=>.inr (.inr (.inr (.inl (by simpa using h))))⟩) λ_=>hJ _ _ ⟨rfl,λh=>.inr (.inr (.inr (.inr (by simpa using h))))⟩
end Go.Ar
namespace Go.Ar
open Go Go.Vc Go.Proofs
open Go.Vc (bV dF cT)
variable {σ w w':Hp}{l:Sl}{ds:List fS}
def uY (d:fS):Bool:=d.kd==120||d.kd==121
theorem Pu (d:fS):(if uY d=true then 1 else 0)=if d.kd=120\/d.kd=121 then 1 else 0:=by
 unfold uY;by_cases h1:d.kd=120
 ·simp[h1]
 ·by_cases h2:d.kd=121
  ·simp[h2]
  ·simp[h1,h2]
set_option maxRecDepth 8000 in
theorem WiS (gl:Gl σ)(gc:Gc σ)(b b1 b2 b3 b4 b5:Int)(hd:jW σ l ds)(most:Int)(hmost:most<=60){R:Option Addr->Hp->Prop}(h0:∀σ',bO σ σ'->R none σ')
 (h1:∀σ' xb L H held s0 P mb am x Qa Qk addrs ad kns kn mo,OP σ σ' xb L H held s0 P mb am x Qa Qk addrs ad kns kn mo->x.calls=ds.countP uY->(H.cf.aF:Int)=b1->ds.length<=60->R (some ⟨xb,0,none⟩) σ'):X1.c b b1 b2 b3 b4 b5 l most σ R:=by
 refine X1.o ?_;unfold X1.v;have hl:=hd.len;have hbig:=hd.Ae;refine nw (cs:=[.int .i64 b,.int .i64 b1,.int .i64 b2,.int .i64 b3,.int .i64 b4,.int .i64 b5]) λv hz e g=>g.rI rfl (g.rI rfl (g.rI rfl (g.rI rfl (g.rI rfl (g.rI rfl (WQ.o ?_))))));unfold WQ.v;refine nw (cs:=[.int .i64 b,.int .i64 b1,.int .i64 b2,.int .i64 b3,.int .i64 b4,.int .i64 b5]) λv1 U e1 K=>K.gD rfl ?_;have s:=e.trans e1;have j:=e1.bZ g id;refine UC (λr w=>v1=w/\(r=false->b1<=128/\(ds.length:Int)<=most)) (λr w ⟨hw,hr⟩=>?_) λJ hJ=>cI (λh=>hJ _ _ ⟨rfl,λh=>by cases h⟩) λh=>Tj (hJ _ _ ⟨rfl,λh'=>by have:=rW h';exact⟨O,O⟩⟩);subst hw;refine cU (λht=>h0 v1 s) λhf=>?_;obtain⟨hpg,hlm⟩:=hr hf;refine j.rI rfl (j.rI rfl (j.rI rfl (j.rI rfl (j.rI rfl (j.rI rfl ?_)))));refine π (gl.bK s) (gc.bK s).gd b b1 b2 b3 b4 b5 (λv2 M=>cJ rfl (h0 v2 (s.trans M))) λv2 L0 N H0 M hsN hNv hh D=>cG rfl ?_;have X:=s.trans M;refine J7 X hh.cut D.hi D.cf D.ph (by have:=D.pg;omega) (λb g=>⟨by have:=s.1;have:N<=b:=g.1;omega,g.2⟩) (CT gl gc.gd) λw mb am e3 hm1 hm2 p=>bY.intro (cG rfl (cG rfl ?_));refine nw (cs:=m7 L0.p mb ⟨none,0,0⟩ ⟨none,0,0⟩ 0) λw1 U e4 W=>?_;have p4:=p.fr e4;have hmb:=p.b.lt;have ham:=p.m.lt;have Q:=p.e.1;have o4:OP σ w1 w.size L0 H0 [] (Vq H0.cf.aF) _ mb am oS (λ_=>False) (λ_=>False) ⟨none,0,0⟩ [] ⟨none,0,0⟩ [] 0:=
  ⟨⟨p4,W,⟨rfl,.inl ⟨rfl,rfl⟩⟩,⟨rfl,.inl ⟨rfl,rfl⟩⟩,⟨Q,λhP=>by have:=(p.pP _ hP).2;omega,O,O,id,id⟩,λb g=>g.elim,λb g=>g.elim,λb g=>g.elim⟩,Bw,⟨rfl,by rw[D.live];rfl,by simp,rfl⟩,by simp,by simp[oS]⟩
 refine ZU (a:=bN) (λ(z:Int) u=>∃(i:Nat) (L:dS) (H:Hw) (held:List Pc) (s0:Sp) (P:Rg) (x:Me) (Qa Qk:Rg) (addrs:Sl) (ad:List Int) (kns:Sl) (kn:List Kn) (mo:Int),z=i/\i<=ds.length/\OP σ u w.size L H held s0 P mb am x Qa Qk addrs ad kns kn mo/\x.calls=(ds.take i).countP uY/\(H.cf.aF:Int)=b1) (λz _=>ds.length-z.toNat)
  ⟨0,L0,H0,_,_,_,_,_,_,_,_,_,_,_,rfl,O,o4,by simp[oS,Me.calls],D.pg⟩ ?_
 rintro(z:Int) u ⟨i,L,H,held,s0,P,x,Qa,Qk,addrs,ad,kns,kn,mo,rfl,hi,o,hcl,hpp⟩;refine cI (λhlt=>?_) λhge=>?_
 ·have F:ds[i]?=some (ds[i]' O):=cM _;generalize (ds[i]' O)=d at F;have aa:=hd.i _ (zE F);have hle:(ds.take i).countP uY<=60:=by
   have h1:=vt (p:=uY) (l:=ds.take i);rw[zO]at h1;omega
  refine hd.rd o.f.p.e F λba oa B=>dP (B _ o.f.p.e 0 _ rfl) (dP (B _ o.f.p.e 1 _ rfl) (dP (B _ o.f.p.e 2 _ rfl) (dP (B _ o.f.p.e 3 _ rfl) (dP (B _ o.f.p.e 4 _ rfl) (dP (B _ o.f.p.e 5 _ rfl) (dP (B _ o.f.p.e 6 _ rfl) (DJ (B _ o.f.p.e 7 _ rfl) ?_)))))));refine Wlk o gc O d aa λer u2 L' H' C G P' y Qa' Qk' A Z E Y S o' hLp kp po _=>?_;refine cA (m:=i+1) O O ⟨⟨i+1,L',H',C,G,P',y,Qa',Qk',A,Z,E,Y,S,rfl,O,o',?_,by rw[kp.2.1];exact hpp⟩,O⟩;rw[po.calls,hcl,←Pu,zg,F,uV];simp[qR]
 ·have V:i=ds.length:=by omega
  subst V;rw[zn]at hcl;exact h1 u w.size L H held s0 P mb am x Qa Qk addrs ad kns kn mo o hcl hpp O
end Go.Ar
namespace Go.Proofs
open Go.Vc
set_option maxRecDepth 100000
end Go.Proofs
namespace Go.Ar
open Go Go.Vc Go.Proofs
open Go.Vc (bV dF cT)
variable {σ w w':Hp}{l:Sl}{ds:List fS}
end Go.Ar
namespace Go.Ar
open Go Go.Vc Go.Proofs
open Go.Vc (bV dF cT)
variable {σ v w w':Hp}{F:Rg}{tb:List bW}{asked:List (Int×Int)}{bs:List Bk}{H:Hw}{x:Me}{kn:List Kn}{held:List Pc}{s0:Sp}
theorem M6 {K:eP [.ad,.s]}{body:eP [.ad,.s]->Prop}(P:Addr->Sl->Hp->Prop)(h1:∀r s w,P r s w->K r s w)(h2:∀J:eP [.ad,.s],(∀r s w,P r s w->J r s w)->body J):Jn [.ad,.s] K body:=Jn.intro (h2 K h1)
theorem ta {b:Nat}(hb:bX v b VL)(a0 a1 a2 a3 a4 a5 a6 a7 a8 a9:Int){K:aP}(hK:∀w,Ext (· = b) v w->bX w b ([a0,a1,a2,a3,a4,a5,a6,a7,a8,a9].map (Value.int .i64))->K w) :
 dG (Addr.add ⟨b,0,none⟩ 0) (.int .i64 a0) v λv57=>dG (Addr.add ⟨b,0,none⟩ 1) (.int .i64 a1) v57 λv58=>dG (Addr.add ⟨b,0,none⟩ 2) (.int .i64 a2) v58 λv59=>dG (Addr.add ⟨b,0,none⟩ 3) (.int .i64 a3) v59 λv60=>
 dG (Addr.add ⟨b,0,none⟩ 4) (.int .i64 a4) v60 λv61=>dG (Addr.add ⟨b,0,none⟩ 5) (.int .i64 a5) v61 λv62=>dG (Addr.add ⟨b,0,none⟩ 6) (.int .i64 a6) v62 λv63=>dG (Addr.add ⟨b,0,none⟩ 7) (.int .i64 a7) v63 λv64=>
 dG (Addr.add ⟨b,0,none⟩ 8) (.int .i64 a8) v64 λv65=>dG (Addr.add ⟨b,0,none⟩ 9) (.int .i64 a9) v65 K:=by
 unfold VL at hb;refine hb.s1 aA λC o1 g=>g.s1 aA λB o2 j=>j.s1 aA λv3 o3 m=>m.s1 aA λD o4 s=>s.s1 aA λA o5 u=>u.s1 aA λz o6 p=>p.s1 aA λx o7 i=>i.s1 aA λy o8 r=>r.s1 aA λE o9 e=>e.s1 aA λd fV a=>?_;exact hK d (((((((((o1.ext.trans o2.ext).trans o3.ext).trans o4.ext).trans o5.ext).trans o6.ext).trans o7.ext).trans o8.ext).trans o9.ext).trans fV.ext) a
theorem E0 {l:List U6}{i:Nat}{r:U6}(h:l[i]?=some r){j:Nat}(hj:j<6):(lH l)[i*6+j]?=(mf r)[j]? := by
 unfold lH
 induction l generalizing i with
 | nil=>simp at h
 | cons a l ih=>
  rw[mS];have b:(mf a).length=6:=by simp[mf]
  cases i with
  | zero=>
   simp only[ve,Option.some.injEq]at h;subst h;rw[zd O,tC,zG]
  | succ i=>
   rw[Ap]at h;rw[zo O,b,show(i+1)*6+j-6=i*6+j by omega];exact ih h
theorem qu {s:Sl}{l:List U6}(hs:cR s 6 (lH l) σ F){i:Nat}{r:U6}(hb:l[i]?=some r){K:Addr->Prop}(hK:∀bb o,(∀(j:Nat) v,(mf r)[j]?=some v->cell σ ⟨bb,o+j,none⟩=some v)->K ⟨bb,o,none⟩):Ix s.a s.len (i:Int) 6 K:=by
 have p:=(cQ.1 hb).1;have w:s.len=l.length:=by have:=hs.1;rw[wV]at this;omega
 obtain⟨b,o,g,_⟩:=hs.cell (j:=i*6+0) (v:=.int .i64 r.1) ((E0 hb O).trans rfl);rw[g];refine ix O O ?_;rw[add_lit];refine hK b _ λj v e=>?_;have u:j<6:=(cQ.1 e).1;obtain⟨x,y,d,m⟩:=hs.cell ((E0 hb u).trans e);rw[g]at d;cases d;rw[show o+(i:Int).toNat*6+j=o+(i*6+j) by omega];exact m
theorem Af {j:Nat}{r:U6}(h:Ga tb asked bs j=some r):r=((j:Int)-1,kW tb j,uS one bs ((j:Int)-1),uS kQ bs ((j:Int)-1),uS (kK asked) bs ((j:Int)-1),kP tb j (uS one bs ((j:Int)-1)))/\uS one bs ((j:Int)-1)≠0:=by
 unfold Ga at h;split at h
 ·cases h
 ·rename_i h0;exact⟨(Option.some.inj h).symm,h0⟩
theorem N1 {m:Nat}{r:U6}(h:r∈l9 tb asked bs m):∃j,j<m/\Ga tb asked bs j=some r:=by
 unfold l9 at h;obtain⟨j,a,b⟩:=vF.1 h;exact⟨j,zU.1 a,b⟩
theorem OY (m:Nat):(l9 tb asked bs m).Pairwise λa b=>a.1<b.1:=by
 unfold l9;rw[List.pairwise_filterMap];refine List.pairwise_lt_range.imp λ{a b} g r e q d=>?_;rw[(Af e).1,(Af d).1];simp only;omega
structure Im (tb:List bW) (asked:List (Int×Int)) (bs:List Bk) (r:U6):Prop where
 live:r.2.2.1=uS one bs r.1
 bytes:r.2.2.2.1=uS kQ bs r.1
 ask:r.2.2.2.2.1=uS (kK asked) bs r.1
 ne:uS one bs r.1≠0
 cls : -1<=r.1/\r.1<tb.length
 cl:∀c:Nat,r.1=c->r.2.1=((tb.getD c ⟨8,1,1⟩).size:Int)/\r.2.2.2.2.2=(uS one bs r.1+((tb.getD c ⟨8,1,1⟩).n:Int)-1)/((tb.getD c ⟨8,1,1⟩).n:Int)
theorem S1 {r:U6}(h:r∈l9 tb asked bs (tb.length+1)):Im tb asked bs r:=by
 obtain⟨j,g,a⟩:=N1 h;obtain⟨rfl,b⟩:=Af a;refine⟨rfl,rfl,rfl,b,by simp only;omega,λc e=>?_⟩;simp only at e;have d:j-1=c:=by omega
 simp only;unfold kW kP;rw[zA O,zA O,d];exact⟨rfl,rfl⟩
theorem WlC {f:Bk->Int}{c:Int}(h:uS one bs c=0):uS f bs c=0:=xT h
theorem RX (f:Bk->Int)(m:Nat):((l9 tb asked bs m).map λr=>uS f bs r.1).sum=((List.range m).map λj:Nat=>uS f bs ((j:Int)-1)).sum:=by
 induction m with
 | zero=>rfl
 | succ m ih=>
  rw[F8,j7,zr,zr,pR,pR,ih]
  congr 1
  cases h:Ga tb asked bs m with
  | none=>
   have a:uS one bs ((m:Int)-1)=0:=by
    unfold Ga at h;split at h
    ·assumption
    ·cases h
   simp[WlC a]
  | some r=>rw[(Af h).1];simp
theorem Tc (c:Int)(y:Int)(m:Nat)(h : -1<=c):((List.range m).map λj:Nat=>if c=(j:Int)-1 then y else 0).sum=if c+1<(m:Int)then y else 0:=by
 induction m with
 | zero=>simp;omega
 | succ m ih=>
  rw[j7,zr,pR,ih];simp only[zJ,oY,zj,List.sum_nil,Int.add_zero];by_cases h1:c+1<(m:Int)
  ·rw[zB h1,zA O,zB O];omega
  ·by_cases h2:c=(m:Int)-1
   ·rw[zA h1,zB h2,zB O];omega
   ·rw[zA h1,zA h2,zA O];rfl
theorem PE {α:Type}(f g:α->Int)(l:List α):(l.map λa=>f a+g a).sum=(l.map f).sum+(l.map g).sum:=by
 induction l with
 | nil=>rfl
 | cons a l ih=>simp only[zJ,zj,ih];omega
theorem EL (f:Bk->Int)(m:Nat):∀{bs:List Bk},(∀b∈bs, -1<=b.2.2.1/\b.2.2.1+1<(m:Int))->((List.range m).map λj:Nat=>uS f bs ((j:Int)-1)).sum=(bs.map f).sum
 | [],_=>by
  have:(λj:Nat=>uS f [] ((j:Int)-1))=λ_=>0:=rfl;rw[this];generalize List.range m=l
  induction l with
  | nil=>rfl
  | cons a l ih=>simp only[zJ,zj];simpa using ih
 | b::bs,h=>by
  have g:(λj:Nat=>uS f (b::bs) ((j:Int)-1))=λj:Nat=>(if b.2.2.1=(j:Int)-1 then f b else 0)+uS f bs ((j:Int)-1):=rfl
  have d:=h b lf;rw[g,PE,Tc _ _ _ d.1,zB d.2,EL f m λb e=>h b (kM _ e)];rfl
theorem D5 (f:Bk->Int){m:Nat}(h:∀b∈bs, -1<=b.2.2.1/\b.2.2.1+1<(m:Int)):((l9 tb asked bs m).map λr=>uS f bs r.1).sum=(bs.map f).sum:=by rw[RX,EL f m h]
theorem Jj {f:Bk->Int}{c y:Int}:∀{bs:List Bk},(∀b∈bs,b.2.2.1=c->f b=y)->uS f bs c=uS one bs c*y
 | [],_=>by simp[uS]
 | b::bs,h=>by
  have h1:uS one (b::bs) c=(if b.2.2.1=c then 1 else 0)+uS one bs c:=rfl
  have a:uS f (b::bs) c=(if b.2.2.1=c then f b else 0)+uS f bs c:=rfl
  rw[h1,a,Jj λb d=>h b (kM _ d)];by_cases hc:b.2.2.1=c
  ·rw[zB hc,zB hc,h b lf hc,Int.add_mul,Int.one_mul]
  ·rw[zA hc,zA hc,Int.zero_add,Int.zero_add]
theorem KI.AE (k:KI H x kn)(hi:HI H held s0)(hl:iU H.live bs)(f:Int×Int×Int->Int):(bs.map λb=>f (b.1,b.2.1,b.2.2.1)).sum=(kn.map λq=>f (wQ H.tb q)).sum:=by
 have d:=Lt ((IM hi hl).map λe=>f (e.1,e.2.2.1,e.2.2.2.1));rw[zm]at d;have a:=congrArg (List.map f) k.live;rw[zm,zm]at a;have g:(bs.map λb=>f (b.1,b.2.1,b.2.2.1)).sum=(H.live.map λe=>f (e.1,e.2.2.1,e.2.2.2.1)).sum:=d;rw[g];exact congrArg List.sum a
theorem KI.ES (k:KI H x kn)(hl:iU H.live bs){b:Bk}(hb:b∈bs):∃q∈kn,wQ H.tb q=(b.1,b.2.1,b.2.2.1):=by
 have a:(b.1,b.2.1,b.2.2.1)∈H.live.map (λe=>(e.1,e.2.2.1,e.2.2.2.1)):=zC.2 ⟨_,(hl.mem b).1 hb,rfl⟩;rw[k.live]at a;obtain⟨q,d,g⟩:=zC.1 a;exact⟨q,d,g⟩
theorem SN (tb:List bW)(size align:Int) : -1<=mH tb size align/\mH tb size align+1<((tb.length+1:Nat):Int):=by
 unfold mH;cases h:gO tb size align with
 | none=>simp only;omega
 | some k=>
  have:=(x8.1 h).1;simp only;omega
theorem KI.cls (k:KI H x kn)(hl:iU H.live bs){b:Bk}(hb:b∈bs) : -1<=b.2.2.1/\b.2.2.1+1<((H.tb.length+1:Nat):Int):=by
 obtain⟨q,_,a⟩:=k.ES hl hb;have d:mH H.tb q.2.1 q.2.2=b.2.2.1:=congrArg (λe:Int×Int×Int=>e.2.2) a;rw[←d];exact SN _ _ _
theorem KI.size (k:KI H x kn)(hl:iU H.live bs){b:Bk}(hb:b∈bs){c:Nat}(hc:b.2.2.1=(c:Int)):b.2.1=((H.tb.getD c ⟨8,1,1⟩).size:Int):=by
 obtain⟨q,i,d⟩:=k.ES hl hb;have a:mH H.tb q.2.1 q.2.2=b.2.2.1:=congrArg (λe:Int×Int×Int=>e.2.2) d;have m:(td H.tb q.2.1 q.2.2).1=b.2.1:=congrArg (λe:Int×Int×Int=>e.2.1) d;have g:=k.arg q i;rw[←m];unfold td;rw[zB ⟨g.2.1,g.2.2⟩];unfold mH at a;cases h:gO H.tb q.2.1 q.2.2 with
 | none=>rw[h]at a;simp only at a;omega
 | some j=>
  rw[h]at a;simp only at a ⊢;have:j=c:=by omega
  rw[this]
theorem Ri {l:List (Int×Int)}(hn:(l.map (·.1)).Nodup):(l.map λz=>(bV l z.1).getD 0).sum=(l.map (·.2)).sum:=by
 refine congrArg List.sum (zw λz a=>?_);rw[Vf hn (show(z.1,z.2)∈l from a)];rfl
theorem KI.Cs (k:KI H x kn)(hi:HI H held s0)(hl:iU H.live bs):(bs.map (kK x.asked)).sum=GV kn:=by
 have i:=k.AE hi hl λe=>(bV x.asked e.1).getD 0;have d:(bs.map (kK x.asked)).sum=(kn.map λq=>(bV x.asked q.1).getD 0).sum:=i;have b:x.asked.map (·.1)=H.live.map (·.1):=by rw[k.asked,k.addr,zm];rfl
 have m:=Ri (l:=x.asked) (by rw[b];exact hi.lk);have j:(x.asked.map λz=>(bV x.asked z.1).getD 0)=kn.map λq=>(bV x.asked q.1).getD 0:=by
  have:∀g:Int->Int,(x.asked.map λz=>g z.1)=kn.map λq=>g q.1:=λg=>by rw[k.asked,zm];rfl
  exact this λa=>(bV x.asked a).getD 0
 rw[d,←j,m,k.asked,zm];rfl
theorem OM (bs:List Bk):(bs.map one).sum=bs.length:=by
 induction bs with
 | nil=>rfl
 | cons b bs ih=>simp only[zJ,zj,zP,ih];unfold one;omega
theorem UJ {α:Type}{f:α->Int}{l:List α}(h:∀a∈l,0<=f a)(n:Nat):0<=((l.take n).map f).sum/\((l.take n).map f).sum<=(l.map f).sum:=by
 have e:∀{l:List α},(∀a∈l,0<=f a)->0<=(l.map f).sum:=λ{l} h=>by
  induction l with
  | nil=>simp
  | cons a l ih=>
   have:=h a lf;have:=ih λb g=>h b (kM _ g);simp only[zJ,zj];omega
 refine⟨e λa d=>h a (mK d),?_⟩;have i:=e (l:=l.drop n) λa d=>h a (qi d);have j:(l.map f).sum=((l.take n).map f).sum+((l.drop n).map f).sum:=by rw[←pR,←zr,mZ]
 omega
theorem DW {α:Type}{f:α->Int}{l:List α}{k:Nat}{r:α}(h:l[k]?=some r):((l.take (k+1)).map f).sum=((l.take k).map f).sum+f r:=by
 rw[zg,h];simp
end Go.Ar
namespace Go.Proofs
open Go.Vc
set_option maxRecDepth 100000
def WV.h:Hn:=.q .o2 (.q .o4 (.q (.q .o2 .aJ) (.q (.cV (.hO true [] [(6,.one .ad),(7,.one .s)] (.tk [0,1,2,3,5,6,7,8] (.all [(4,.all [(9,.all [(10,.all [(11,.take 12 (.done))])]),(10,.all [(9,.all [(11,.take 12 (.done))])])]),(10,.all [(4,.all [(9,.all [(11,.take 12 (.done))])])])])))) (.q .o3 (.q (.q .o1 (.k (.loop [(8,.I),(9,.I),(10,.I),(11,.I)] (.q (.q .o4 (.c .l .l)) (.q (.k (.q (.oq 24) (.q (.cV (.quiet [.op,.op,.op,.op,.op,.op,.op,.dA false 16 [.op,.op,.op,.dA true 12 (RI.ops 12)],.op,.dA false 25 [.op,.op,.op,.op,.op,.op,.op,.dA true 17 (RI.ops 17)]])) .aK))) .o3))))) (.q (.cV (.seq [.op,.op,.op,.op,.op,.dA true 4 (RI.ops 4),.op,.dA true 8 (RI.ops 8),.op,.dA true 1 [.op],.op])) .l))))))
def WV.v (a b c d e f:Int)(g:Sl)(h:Hp)(i:aO):Prop:=aV #[.I a,.I b,.I c,.I d,.I e,.I f] 65 h λj k=>aQ j 0 k λl=>aQ j 1 k λm=>aQ j 2 k λn=>aQ j 3 k λo=>aQ j 4 k λp=>aQ j 5 k λq=>X1.c l m n o p q g 60 k λr s=>If r.isNone (Xp.c s λt u=>i t u) (Jn [.ad,.s] (λ(v:Addr) (w:Sl) x=>W7 [bN,bN,bN,bN] (λy=>y 0 0 0 0 x) λz (aa:Int) (ab:Int) (ac:Int) (ad:Int) ae=>If (ad<((w.len:Nat):Int)) (Ix w.a w.len ad 6 λaf=>aQ af 3 ae λag=>bL (aa+ag) λah=>Ix w.a w.len ad 6 λai=>aQ ai 4 ae λaj=>bL (ab+aj) λak=>Ix w.a w.len ad 6 λal=>aQ al 2 ae λam=>bL (ac+am) λan=>Ix w.a w.len ad 6 λao=>aQ ao 2 ae λap=>bY (λaq ar=>bY (λau av=>If au (i false av) (bL (ad+1) λaw=>z ah ak an aw av)) λax=>If aq (ax true ar) (Ix w.a w.len ad 6 λay=>aQ ay 0 ar λaz=>bY (λa0 a1=>ax a0 a1) λa2=>If (az≥0) (Ix w.a w.len ad 6 λa3=>aQ a3 3 ar λa4=>Ix w.a w.len ad 6 λa5=>aQ a5 2 ar λa6=>Ix w.a w.len ad 6 λa7=>aQ a7 1 ar λa8=>bL (a6*a8) λa9=>a2 (a4 != a9) ar) (a2 false ar))) λba=>If (ap<1) (ba true ae) (bY (λbb bc=>ba bb bc) λbd=>If (ad>0) (bL (ad-1) λbe=>Ix w.a w.len be 6 λbf=>aQ bf 0 ae λbg=>Ix w.a w.len ad 6 λbh=>aQ bh 0 ae λbi=>bd (decide (bg≥bi)) ae) (bd false ae))) (aQ v 1 ae λbj=>bY (λbk bl=>
 bY (λbm bn=>bY (λbo bp=>i bo bp) λbq=>If bm (Xp.c bn λbr bs=>bq br bs) (bq false bn)) λbt=>If bk (bF r 0 bl λbv=>Y7.c bv bl λbw bx=>bt (ac==((bw.len:Nat):Int)) bx) (bt false bl)) λbz=>If (aa==bj) (aQ v 0 ae λb0=>bz (ab==b0) ae) (bz false ae))) λb1=>dU s λb2=>bS r λb3=>aU b2 b3 1 λb4=>bS r λb5=>aU b2 b5 1 λb6=>(W6.c b4 s λb7 b8 b9 ca cb cc cd ce cf cg ch=>And (b2 ch) <| (Xe.c b6 ch λci cj=>And (b2 cj) <| aV #[.I 0,.I 0,.I 0,.I 0,.I 0,.I 0,.I 0,.I 0,.I 0,.I 0] 56 cj λck cl=>And (b2 cl) <| aR ck 0 (.I b7) cl λcm=>aR ck 1 (.I b8) cm λcn=>aR ck 2 (.I b9) cn λco=>aR ck 3 (.I ca) co λcp=>aR ck 4 (.I cb) cp λcq=>aR ck 5 (.I cc) cq λcr=>aR ck 6 (.I cd) cr λcs=>aR ck 7 (.I ce) cs λct=>aR ck 8 (.I cf) ct λcu=>aR ck 9 (.I cg) cu λcv=>And (b2 cv) <| b1 ck ci cv) ∧ (aV #[.I 0,.I 0,.I 0,.I 0,.I 0,.I 0,.I 0,.I 0,.I 0,.I 0] 56 ch λcw cx=>And (b2 cx) <| Xe.c b6 cx λcy cz=>And (b2 cz) <| aR cw 0 (.I b7) cz λc0=>aR cw 1 (.I b8) c0 λc1=>aR cw 2 (.I b9) c1 λc2=>aR cw 3 (.I ca) c2 λc3=>aR cw 4 (.I cb) c3 λc4=>aR cw 5 (.I cc) c4 λc5=>aR cw 6 (.I cd) c5 λc6=>aR cw 7 (.I ce) c6 λc7=>aR cw 8 (.I cf) c7 λc8=>aR cw 9 (.I cg) c8 λc9=>And (b2 c9) <| b1 cw cy c9)) ∧
 (aV #[.I 0,.I 0,.I 0,.I 0,.I 0,.I 0,.I 0,.I 0,.I 0,.I 0] 56 s λda db=>And (b2 db) <| W6.c b4 db λdc dd de df dg dh di dj dk dl dm=>And (b2 dm) <| Xe.c b6 dm λdn dp=>And (b2 dp) <| aR da 0 (.I dc) dp λdq=>aR da 1 (.I dd) dq λdr=>aR da 2 (.I de) dr λds=>aR da 3 (.I df) ds λdt=>aR da 4 (.I dg) dt λdu=>aR da 5 (.I dh) du λdv=>aR da 6 (.I di) dv λdw=>aR da 7 (.I dj) dw λdx=>aR da 8 (.I dk) dx λdy=>aR da 9 (.I dl) dy λdz=>And (b2 dz) <| b1 da dn dz))
theorem WV.o {a b c d e f g h i}(j:WV.v a b c d e f g h i):WV.c a b c d e f g h i:=Wa Tryz.func7 (x:=WV.h) (R0 j)
end Go.Proofs
namespace Go.Ar
open Go Go.Vc Go.Proofs
open Go.Vc (bV dF cT)
variable {σ w w':Hp}{l:Sl}{ds:List fS}
set_option maxRecDepth 16000 in
theorem TU (gl:Gl σ)(gc:Gc σ)(b b1 b2 b3 b4 b5:Int)(hd:jW σ l ds){R:aO}(hR:∀σ',bO σ σ'->R true σ'):WV.c b b1 b2 b3 b4 b5 l σ R:=by
 refine WV.o ?_;unfold WV.v;refine nw (cs:=[.int .i64 b,.int .i64 b1,.int .i64 b2,.int .i64 b3,.int .i64 b4,.int .i64 b5]) λv hz e A=>A.rI rfl (A.rI rfl (A.rI rfl (A.rI rfl (A.rI rfl (A.rI rfl ?_)))));refine WiS (gl.bK e) (gc.bK e) b b1 b2 b3 b4 b5 (hd.bK e) 60 aB (λv1 e1=>?_) λv1 xb L H held s0 P mb am x Qa Qk addrs ad kns kn mo o hcl hpp hlen=>cG rfl ?_
 ·exact cJ rfl (Jo (gl.bK (e.trans e1)) (gc.bK (e.trans e1)).gd λv2 e2=>hR v2 ((e.trans e1).trans e2))
 have E:=e.trans o.f.p.e;refine M6 (λa s w=>bO v1 w/\(∃nb rest,a=⟨nb,0,none⟩/\bX w nb (.int .i64 x.sum :: .int .i64 (xA H.live)::rest))/\∃(bs:List Bk) (F:Rg),iU H.live bs/\bR s 6 (lH (l9 H.tb x.asked bs (H.tb.length+1))) w F) (λa s w hP=>?_) λJ hJ=>?_
 ·obtain⟨ew,⟨nb,rest,rfl,hnb⟩,bs,F,M,g⟩:=hP;have ow:=o.fr ew;obtain⟨us,W⟩:∃us,l9 H.tb x.asked bs (H.tb.length+1)=us:=⟨_,rfl⟩;have G:∀r∈us,Im H.tb x.asked bs r:=λr D=>S1 (by rw[W];exact D);have hsrt:us.Pairwise λa b=>a.1<b.1:=by rw[←W];exact OY _
  have hul:=D8 H.tb x.asked bs (H.tb.length+1);have h40:=ow.f.p.h.mA;have s1:=D5 (tb:=H.tb) (asked:=x.asked) kQ (m:=H.tb.length+1) λb A=>o.k.cls M A;have s2:=D5 (tb:=H.tb) (asked:=x.asked) (kK x.asked) (m:=H.tb.length+1) λb A=>o.k.cls M A;have s3:=D5 (tb:=H.tb) (asked:=x.asked) one (m:=H.tb.length+1) λb A=>o.k.cls M A;rw[W]at g hul s1 s2 s3;have hsl:s.len=us.length:=by have:=g.1;rw[wV]at this;omega
  have hbl:bs.length<=1000000:=by rw[M.len];exact o.f.p.hi.iH
  have hb1:∀b∈bs,0<=kQ b/\kQ b<=270000:=λb A=>by
   have:=o.f.p.hi.jk ((M.mem b).1 A);unfold kQ;simp only at this;omega
  have hb2:∀b∈bs,0<=kK x.asked b/\kK x.asked b<=16384:=λb A=>by
   unfold kK;cases hm:bV x.asked b.1 with
   | none=>exact⟨ql _,by decide⟩
   | some z=>exact o.mi.v _ (KA hm)
  have hb0:∀b∈bs,0<=one b/\one b<=1:=λb A=>⟨by unfold one;omega,by unfold one;omega⟩;have t1:(us.map λr=>r.2.2.2.1).sum=(bs.map kQ).sum:=by rw[←s1];exact congrArg List.sum (zw λr D=>(G r D).bytes)
  have t2:(us.map λr=>r.2.2.2.2.1).sum=(bs.map (kK x.asked)).sum:=by rw[←s2];exact congrArg List.sum (zw λr D=>(G r D).ask)
  have t3:(us.map λr=>r.2.2.1).sum=(bs.map one).sum:=by rw[←s3];exact congrArg List.sum (zw λr D=>(G r D).live)
  have u1:=VG hb1;have u2:=VG hb2;have u3:=VG hb0;have p1:∀r∈us,0<=r.2.2.2.1:=λr D=>by rw[(G r D).bytes];exact(qT O hb1 _).1
  have p2:∀r∈us,0<=r.2.2.2.2.1:=λr D=>by rw[(G r D).ask];exact(qT O hb2 _).1
  have p3:∀r∈us,1<=r.2.2.1/\r.2.2.1<=1000000:=λr D=>by
   have h1:=(G r D).ne;have h2:=qT (bs:=bs) (k:=1) O hb0 r.1;rw[(G r D).live];omega
  have j:=bR.gp g;refine Ns (a:=bN) (bb:=bN) (c:=bN) (d:=bN) (λ(n m k i:Int) u=>u=w/\∃q:Nat,i=q/\q<=us.length/\n=((us.take q).map λr=>r.2.2.2.1).sum/\m=((us.take q).map λr=>r.2.2.2.2.1).sum/\k=((us.take q).map λr=>r.2.2.1).sum) (λ_ _ _ i _=>us.length-i.toNat) ⟨rfl,0,rfl,O,by simp,by simp,by simp⟩ ?_;rintro(n:Int) (m:Int) (k:Int) (i:Int) u ⟨rfl,q,rfl,hq,rfl,rfl,rfl⟩;refine cI (λhlt=>?_) λhge=>?_
  ·have hq':q<us.length:=by omega
   have N:us[q]?=some us[q]:=cM _;have hm:=zE N;generalize hrr:us[q]=r at N hm;have a1:=UJ p1 q;have a1':=UJ p1 (q+1);have b1:=DW (f:=λr:U6=>r.2.2.2.1) N;have a2:=UJ p2 q;have a2':=UJ p2 (q+1);have b2:=DW (f:=λr:U6=>r.2.2.2.2.1) N;have a3:=UJ (f:=λr:U6=>r.2.2.1) (λr D=>by have:=p3 r D;omega) q;have a3':=UJ (f:=λr:U6=>r.2.2.1) (λr D=>by have:=p3 r D;omega) (q+1);have b3:=DW (f:=λr:U6=>r.2.2.1) N;rw[b1]at a1';rw[b2]at a2';rw[b3]at a3';have pr:=p3 r hm;have ur:=G r hm;refine qu j N λbb U B=>dP (B 3 _ rfl) (ar O O (qu j N λbb U B=>dP (B 4 _ rfl) (ar O O (qu j N λbb U B=>dP (B 2 _ rfl) (ar O O (qu j N λbb U B=>dP (B 2 _ rfl) ?_))))));refine UC (λz w'=>u=w'/\z=false) (λz w' ⟨hw,hz⟩=>?_) λJ2 hJ2=>cI (λh=>absurd h O) λh=>bY.intro (cI (λh0=>?_) λh0=>hJ2 _ _ ⟨rfl,rfl⟩)
   ·subst hw;subst hz;refine UC (λz w'=>u=w'/\z=false) (λz w' ⟨hw,hz⟩=>?_) λJ3 hJ3=>cG rfl (qu j N λbb U B=>dP (B 0 _ rfl) (bY.intro (cI (λh0=>?_) λh0=>hJ3 _ _ ⟨rfl,rfl⟩)))
    ·subst hw;subst hz;exact cG rfl (cA (m:=q+1) O O ⟨⟨rfl,q+1,rfl,O,b1.symm,b2.symm,b3.symm⟩,O⟩)
    ·obtain⟨c,hcc⟩:=zk h0;have hsz:=(ur.cl c hcc).1;have hct:c<H.tb.length:=by have:=ur.cls.2;omega
     have hok:bW.ok H.tb[c]:=o.f.p.hi.ok _ (zc hct);have hgd:H.tb.getD c ⟨8,1,1⟩=H.tb[c]:=by rw[zL,cM hct];rfl
     have hs2:=hok.2.1;have hco:r.2.2.2.1=r.2.2.1*r.2.1:=by
      rw[ur.bytes,ur.live];refine Jj λb A hbc=>?_;unfold kQ;rw[hsz];exact o.k.size M A O
     have hmul:0<=r.2.2.1*r.2.1:=Int.mul_nonneg O (by rw[hsz];omega);refine qu j N λbb U B=>dP (B 3 _ rfl) (qu j N λbb U B=>dP (B 2 _ rfl) (qu j N λbb U B=>dP (B 1 _ rfl) (ar O O (hJ3 _ _ ⟨rfl,?_⟩))));rw[hco];simp
   ·have hg1:us[q-1]?=some us[q-1]:=cM _;have V:=kj.1 hsrt (q-1) q O hq' O;rw[hrr]at V;generalize us[q-1]=r1 at hg1 V;exact cA (m:=q-1) O O (qu j hg1 λbb U B=>dP (B 0 _ rfl) (qu j N λbb U B=>dP (B 0 _ rfl) (hJ2 _ _ ⟨rfl,zh O⟩)))
  ·have hqq:q=us.length:=by omega
   subst hqq;rw[zn];have g1:(us.map λr=>r.2.2.2.1).sum=xA H.live:=t1.trans (LC o.f.p.hi M);have g2:(us.map λr=>r.2.2.2.2.1).sum=x.sum:=by rw[t2,o.k.Cs o.f.p.hi M,o.sum]
   have g3:(us.map λr=>r.2.2.1).sum=bs.length:=t3.trans (OM bs);refine hnb.rI rfl (bY.intro (cJ (by rw[g1];simp) (hnb.rI rfl (bY.intro (cJ (by rw[g2];simp) (aG (ow.f.b.rP rfl (Dg ow.f.p.h ow.f.p.hi λs5 w5 bs5 Q hlv Z=>?_))))))));have hsl5:s5.len=bs5.length:=by have:=Z.1;rw[HC]at this;omega
   have E5:=(E.trans ew).trans Q;exact bY.intro (cJ (by rw[g3,hsl5,hlv.len,M.len];simp) (Jo (gl.bK E5) (gc.bK E5).gd λq eq=>hR q (E5.trans eq)))
 ·refine⟨λm=>bO v1 m,Ext.refl _ _,aG (bX.rH (c:=.p) (y:=some ⟨mb,0,none⟩) o.f.b rfl (aG (bX.rH (c:=.p) (y:=some ⟨mb,0,none⟩) o.f.b rfl ⟨HZ o.f.p λw3 C so=>⟨C,?_,?_⟩,?_⟩)))⟩
  ·refine xW (o.f.p.fr C) o.mi λs w4 bs K M g=>⟨C.trans K,nw (cs:=VL) λw5 hz5 Q b5=>?_⟩;have e35:=(C.trans K).trans Q;refine⟨e35,ta b5 _ _ _ _ _ _ _ _ _ _ λw6 X b6=>?_⟩;have Y:bO w4 w6:=Ext.fresh Q X λi (hi:i=w4.size)=>by omega
   exact⟨(C.trans K).trans Y,hJ _ _ _ ⟨(C.trans K).trans Y,⟨_,_,rfl,b6⟩,bs,_,M,aI.bK g Y⟩⟩
  ·refine nw (cs:=VL) λw4 hz4 K b4=>⟨C.trans K,xW ((o.f.p.fr C).fr K) o.mi λs w5 bs Q M g=>⟨(C.trans K).trans Q,ta (Q.bZ b4 id) _ _ _ _ _ _ _ _ _ _ λw6 X b6=>?_⟩⟩;have S:bO w3 w6:=Ext.fresh (K.trans Q) X λi (hi:i=w3.size)=>by omega
   exact⟨C.trans S,hJ _ _ _ ⟨C.trans S,⟨_,_,rfl,b6⟩,bs,_,M,aI.bU g X λb _ (A:w4.size<=b) (h:b=w3.size)=>O⟩⟩
  ·refine nw (cs:=VL) λw3 hz3 C b3=>⟨C,HZ (o.f.p.fr C) λw4 K so=>⟨C.trans K,xW ((o.f.p.fr C).fr K) o.mi λs w5 bs Q M g=>⟨(C.trans K).trans Q,ta ((K.trans Q).bZ b3 id) _ _ _ _ _ _ _ _ _ _ λw6 X b6=>?_⟩⟩⟩;have S:bO v1 w6:=Ext.fresh (C.trans (K.trans Q)) X λi (hi:i=v1.size)=>by omega
   have hz4:=K.1;exact⟨S,hJ _ _ _ ⟨S,⟨_,_,rfl,b6⟩,bs,_,M,aI.bU g X λb _ (A:w4.size<=b) (h:b=v1.size)=>O⟩⟩
end Go.Ar
namespace Go.Ar
open Go Go.Vc Go.Proofs Go.ChangeShapes Go.WideShapes Go.RowKit Go.Deep
theorem GJ {H:Type}{enc:TypeId×Value->H}{P:Program}{w:World}{base:Nat}{sp:Nat->Bool}{held:Bool}{fuel:Nat}{t:TypeId}{c:Value}{y:DataW H×List MemPlace}
 (ht:P.underlying t=some .bool) (h:DataW.trod enc P w base sp held fuel t [c]=some y):∃n,c=.bool n/\y=(.lit (.bool n),[]):=by
 cases fuel with
 | zero=>simp[DataW.trod]at h
 | succ fuel=>
  cases c<;>simp[DataW.trod,ht]at h
  rename_i n;exact⟨n,rfl,by simpa using h.symm⟩
theorem BK {P:Program}{w:World}{t:TypeId}{f0 f1:Field}{cs:Array Value}{fuel:Nat}{p:List MemPlace}{x y:Bool}(ht:P.underlying t=some (.struct #[f0,f1]))(hone:oneCellFields P #[f0,f1]=true)(hC:P.cellsOf t=2)
 (h0:P.underlying f0.type=some .bool) (h1:P.underlying f1.type=some .bool) (h:DataW.trod (λ_=>()) P w 0 (λ_=>true) false fuel t cs.toList=some (.agg [.lit (.bool x),.lit (.bool y)],p)):cs = #[.bool x,.bool y]:=by
 obtain⟨A,n,B,j,a,d,b⟩:=DataW.trod_struct ht h;obtain⟨l⟩:=cs;have e:l.length=2:=by rw[←hC];simpa using a
 match l,e with
 | [c0,c1],_=>
  have i:=b 0 f0 rfl;have g:=b 1 f1 rfl;obtain⟨s,u⟩:=hone_of hone 0 f0 rfl;obtain⟨o1,r⟩:=hone_of hone 1 f1 rfl;rw[s,u]at i;rw[o1,r]at g
  match A,d with
  | [y0,y1],_=>
   obtain⟨D,rfl,z⟩:=GJ h0 (c:=c0) (y:=y0) (by simpa using i);obtain⟨C,rfl,m⟩:=GJ h1 (c:=c1) (y:=y1) (by simpa using g);subst z;subst m;simp at j;obtain⟨⟨rfl,rfl⟩,_⟩:=j;rfl
theorem Gx {w:World}{a:Addr}{v:Value}(h:w.cell? a=some v):cell w.heap a=some v:=h
section
variable {H:Type}{enc:TypeId×Value->H}{P:Program}{w:World}
theorem TZ {x:Int}(h:(Lit.int .i64 x).wf=true):lS x:=by
 unfold lS;simp[Lit.wf,IntKind.min,IntKind.max,IntKind.bits,IntKind.signed]at h;omega
theorem S8 {t:TypeId}{f0 f1 f2 f3 f4 f5 f6 f7:Field}{fuel:Nat}{cs:List Value}{y:DataW H×List MemPlace}
 (ht:P.underlying t=some (.struct #[f0,f1,f2,f3,f4,f5,f6,f7])) (hone:oneCellFields P #[f0,f1,f2,f3,f4,f5,f6,f7]=true) (hC:P.cellsOf t=8)
 (h0:P.underlying f0.type=some (.int .i64)) (h1:P.underlying f1.type=some (.int .i64)) (h2:P.underlying f2.type=some (.int .i64)) (h3:P.underlying f3.type=some (.int .i64)) (h4:P.underlying f4.type=some (.int .i64)) (h5:P.underlying f5.type=some (.int .i64)) (h6:P.underlying f6.type=some (.int .i64)) (h7:P.underlying f7.type=some .string)
 (h:DataW.trod enc P w 0 (λ_=>true) true fuel t cs=some y):∃d:fS,cs=qA d/\ln d:=by
 obtain⟨u,n,V,W,a,g,m⟩:=DataW.trod_struct ht h;have i:cs.length=8:=by rw[←hC];exact a
 match cs,i with
 | [c0,c1,c2,c3,c4,c5,c6,c7],_=>
  have one:∀(j:Nat) (f:Field) (c:Value),(#[f0,f1,f2,f3,f4,f5,f6,f7]:Array Field)[j]?=some f->[c0,c1,c2,c3,c4,c5,c6,c7][j]?=some c->∃z,DataW.trod enc P w 0 (λ_=>true) true n f.type [c]=some z:=by
   intro j f c hj hc;obtain⟨C,N⟩:=hone_of hone j f hj;have h3:=m j f hj;rw[C,N]at h3;have e:=(cQ.1 hc).1;have F:([c0,c1,c2,c3,c4,c5,c6,c7].drop j).take 1=[c]:=by
    rw[qw e,sx,xR,(cQ.1 hc).2]
   rw[F]at h3;have r:u[j]?=some (u[j]'(by rw[g];simp at e ⊢;omega)):=cM _;rw[r]at h3;exact⟨_,h3⟩
  have int:∀(j:Nat) (f:Field) (c:Value),(#[f0,f1,f2,f3,f4,f5,f6,f7]:Array Field)[j]?=some f->[c0,c1,c2,c3,c4,c5,c6,c7][j]?=some c->P.underlying f.type=some (.int .i64)->∃x:Int,c=.int .i64 x/\lS x:=by
   intro j f c hj hc hu;obtain⟨z,p⟩:=one j f c hj hc;obtain⟨x,b,_,Q⟩:=DataW.trod_int hu p;simp only[List.cons.injEq,and_true]at b;exact⟨x,b,TZ Q⟩
  obtain⟨J,rfl,_⟩:=int 0 f0 c0 rfl rfl h0;obtain⟨K,rfl,_⟩:=int 1 f1 c1 rfl rfl h1;obtain⟨R,rfl,S⟩:=int 2 f2 c2 rfl rfl h2;obtain⟨G,rfl,B⟩:=int 3 f3 c3 rfl rfl h3;obtain⟨U,rfl,_⟩:=int 4 f4 c4 rfl rfl h4;obtain⟨D,rfl,L⟩:=int 5 f5 c5 rfl rfl h5;obtain⟨M,rfl,E⟩:=int 6 f6 c6 rfl rfl h6;obtain⟨z,p⟩:=one 7 f7 c7 rfl rfl;obtain⟨s,A,_⟩:=DataW.trod_string h7 p;simp only[List.cons.injEq,and_true]at A;subst A;exact⟨⟨J,K,R,G,U,D,M,s⟩,rfl,S,B,L,E⟩
theorem δ {t e:TypeId}{f0 f1 f2 f3 f4 f5 f6 f7:Field}{a:Option Addr}{len cap:Nat}{d:DataW H}{ps:List MemPlace}
 (htl:P.underlying t=some (.slice e)) (ht:P.underlying e=some (.struct #[f0,f1,f2,f3,f4,f5,f6,f7])) (hone:oneCellFields P #[f0,f1,f2,f3,f4,f5,f6,f7]=true) (hC:P.cellsOf e=8)
 (h0:P.underlying f0.type=some (.int .i64)) (h1:P.underlying f1.type=some (.int .i64)) (h2:P.underlying f2.type=some (.int .i64)) (h3:P.underlying f3.type=some (.int .i64)) (h4:P.underlying f4.type=some (.int .i64)) (h5:P.underlying f5.type=some (.int .i64)) (h6:P.underlying f6.type=some (.int .i64)) (h7:P.underlying f7.type=some .string)
 (h:DataW.Trod enc P w 0 (λ_=>true) true t (.slice a len cap) d ps):∃ds,jW w.heap ⟨a,len,cap⟩ ds:=by
 obtain⟨N,W⟩:=h;rcases open_slice htl W with⟨r,_⟩|⟨ad,len',cap',m,n,D,Pl,r,_,hl,hm,hmm,A,y⟩
 ·simp[Value.cells]at r;obtain⟨rfl,rfl,rfl⟩:=r;exact⟨[],rfl,λi x A=>by simp at A,by simp,by simp⟩
 ·simp[Value.cells]at r;obtain⟨rfl,rfl,rfl⟩:=r;have V:m=cap:=by simpa using hmm
  have key:∀i,i<len->∃u:fS,(∀j v,(qA u)[j]?=some v->cell w.heap ((ad.add (i*8)).add j)=some v)/\ln u:=by
   intro i p;obtain⟨S,F,J⟩:=y i O;rw[hC]at F;obtain⟨x,r,K⟩:=S8 ht hone hC h0 h1 h2 h3 h4 h5 h6 h7 J;obtain⟨_,U,M⟩:=World.cells?_some F;refine⟨x,λj v C=>?_,K⟩;have R:=(cQ.1 C).1;have:=M j (by simpa[qA]using R);rw[r]at this;rw[C]at this;exact this
  let g:Nat->fS:=λi=>if y:i<len then(key i y).choose else⟨0,0,0,0,0,0,0,ByteArray.empty⟩
  have Q:∀i,(y:i<len)->g i=(key i y).choose:=λi y=>by simp only[g,y,dif_pos]
  refine⟨(List.range len).map g,by simp,λi x A=>?_,λx A=>?_,?_⟩
  ·have p:i<len:=by
    have:=(cQ.1 A).1;simpa using this
   have B:g i=x:=by simpa[p]using A
   rw[Q i p]at B;have E:=(key i p).choose_spec;rw[B]at E;obtain⟨F,_⟩:=E;have G:=(key 0 O).choose_spec.1;have L:=G 0 _ rfl;have z:=EI L;simp only[tC,Addr.add_zero']at z;obtain⟨b,o,s⟩:=ad;have E:s=none:=z.2;subst E;refine⟨b,o,rfl,z.1,λj v C=>?_⟩;have:=F j v C;rw[add_lit,add_lit]at this;exact this
  ·obtain⟨i,y,rfl⟩:=zC.1 A;have p:=zU.1 y;rw[Q i p];exact(key i p).choose_spec.2
  ·have:maxLen=9223372036854775807:=rfl;simp;omega
theorem MT {b0:Nat}{t:TypeId}{f0 f1 g0 g1 g2 g3 g4:Field}{v:Value}{d:DataW H}{ps:List MemPlace}
 (ht:P.underlying t=some (.struct #[f0,f1])) (hC:P.cellsOf t=6) (ho:f0.offset=0/\P.cellsOf f0.type=1/\f1.offset=1/\P.cellsOf f1.type=5)
 (h0:P.underlying f0.type=some (.int .i64)) (h1:P.underlying f1.type=some (.struct #[g0,g1,g2,g3,g4])) (hone:oneCellFields P #[g0,g1,g2,g3,g4]=true)
 (k0:P.underlying g0.type=some (.int .i64)) (k1:P.underlying g1.type=some (.int .i64)) (k2:P.underlying g2.type=some (.int .i64)) (k3:P.underlying g3.type=some (.int .i64)) (k4:P.underlying g4.type=some (.int .i64))
 (hval:Value.okWide P w .any b0 t v) (h:DataW.Trod enc P w 0 (λ_=>true) true t v d ps):∃(x0 x1 x2 x3 x4 x5:Int),v=.agg #[.int .i64 x0,.int .i64 x1,.int .i64 x2,.int .i64 x3,.int .i64 x4,.int .i64 x5]:=by
 unfold Value.okWide at hval;rw[ht]at hval;obtain⟨N,rfl,u,_⟩:=hval;obtain⟨e,C⟩:=h;obtain⟨l⟩:=N;have r:l.length=6:=by rw[←hC];simpa using u
 obtain⟨A,D,E,s⟩:=ho
 match l,r with
 | [c0,c1,c2,c3,c4,c5],_=>
  have C:DataW.trod enc P w 0 (λ_=>true) true e t [c0,c1,c2,c3,c4,c5]=some (d,ps):=C;obtain⟨y0,y1,n,_,_,J,G⟩:=trod_struct2 ht C;rw[A,D]at J;rw[E,s]at G;have y:DataW.trod enc P w 0 (λ_=>true) true n f0.type [c0]=some y0:=J;have i:DataW.trod enc P w 0 (λ_=>true) true n f1.type [c1,c2,c3,c4,c5]=some y1:=G;obtain⟨x0,a,_,_⟩:=DataW.trod_int h0 y;simp only[List.cons.injEq,and_true]at a;subst a;obtain⟨K,n,R,Q,F,p,B⟩:=DataW.trod_struct h1 i;have int:∀(j:Nat) (f:Field) (c:Value),(#[g0,g1,g2,g3,g4]:Array Field)[j]?=some f->[c1,c2,c3,c4,c5][j]?=some c->P.underlying f.type=some (.int .i64)->∃x:Int,c=.int .i64 x:=by
   intro j f c hj hc hu;obtain⟨ho,M⟩:=hone_of hone j f hj;have g:=B j f hj;rw[ho,M]at g;have b:=(cQ.1 hc).1;have L:([c1,c2,c3,c4,c5].drop j).take 1=[c]:=by
    rw[qw b,sx,xR,(cQ.1 hc).2]
   rw[L]at g;have z:K[j]?=some (K[j]'(by rw[p];simp at b ⊢;omega)):=cM _;rw[z]at g;obtain⟨x,m,_,_⟩:=DataW.trod_int hu g;exact⟨x,by simpa using m⟩
  obtain⟨x1,rfl⟩:=int 0 g0 c1 rfl rfl k0;obtain⟨x2,rfl⟩:=int 1 g1 c2 rfl rfl k1;obtain⟨x3,rfl⟩:=int 2 g2 c3 rfl rfl k2;obtain⟨x4,rfl⟩:=int 3 g3 c4 rfl rfl k3;obtain⟨x5,rfl⟩:=int 4 g4 c5 rfl rfl k4;exact⟨x0,x1,x2,x3,x4,x5,rfl⟩
end
end Go.Ar