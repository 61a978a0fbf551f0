/- Texts joined. -/
import Derived.Test.YtkabjcanamcbeaaGreatDoorRows
import Derived.ChangeVars
import Derived.JoinedOf
import Derived.RowKit
import Derived.WalkKit
import Derived.ProofKit
import Derived.OpenShut
import Derived.ChangeOld
import Derived.Carry
import Derived.Test.YtkabjcanamcbeaaGreatDoorP7
set_option linter.unusedVariables false
set_option linter.unusedSimpArgs false
namespace Go.Ar
open Go Go.Vc Go.Proofs
variable {σ v w:Hp}{s:Sl}{xs:List (Int×Int×Int)}
def WlZ (c:Cls)(size:Int):Int:=(c.size:Int)-size+(((c.tail+c.n-1)/c.n:Nat):Int)
def WbA (xs:List (Int×Int×Int))(size align:Int):Int×Int:=if Qi xs then(if size<=16384/\KO size align=true then(match clsV (xs.map ZV) size align with
 | some k=>WlZ ((xs.map ZV).getD k ⟨8,1,1⟩) size
 | none=>Wdg size-size,0)else(0,1))else(0,2)
theorem WkU (ha:Acts σ s xs){i:Nat}{x y z:Int}(hx:xs[i]?=some (x,y,z)){K:Int->Prop}(hK:K x):Ix s.a s.len (i:Int) 3 λa=>LdI .i64 (a.add 0) σ K:=by
 have g:=(gSi.1 hx).1;obtain⟨j,h⟩:=ha;obtain⟨b,o,e,_,d,_⟩:=h i x y z hx;rw[e];refine ix O O (ldI ?_ hK);rw[add_lit,add_lit];simpa using d
theorem WgA {c:Cls}(hc:c.ok):c.tail<=1024/\1<=c.n/\c.n<=128/\(c.tail+c.n-1)/c.n<=1200:=by
 have a:=hc.n_pos;have d:=hc.n_le;have b:c.tail<=1024:=by unfold Cls.tail;have:=hc.2.2.2.2.1;omega
 exact⟨b,a,d,zI (Nat.div_le_self _ _) O⟩
set_option maxRecDepth 8000 in
theorem Wln (ha:Acts σ s xs)(size align:Int){R:Int->Int->Hp->Prop}(hR:∀σ',Ext0 σ σ'->R (WbA xs size align).1 (WbA xs size align).2 σ'):Qe.c s size align σ R:=by
 refine Qe.o ?_;unfold Qe.v;refine HJ ha λv e=>?_;have x:=YO ha e;cases hv:Qi xs with
 | false=>
  have:=hR v e;unfold WbA at this;rw[hv]at this;exact ifT rfl this
 | true=>
  refine ifF rfl ?_;have fin:∀r,r = !decide (size<=16384/\KO size align=true)->(r=true->R 0 1 v)/\(r=false->size<=16384/\KO size align=true):=by
   intro r b;refine⟨λh=>?_,λh=>?_⟩
   ·have Z:¬(size<=16384/\KO size align=true):=by rw[b,zAW,decide_eq_false_iff_not]at h;exact h
    have:=hR v e;unfold WbA at this;rw[hv,zB rfl,zA Z]at this;exact this
   ·rw[b]at h;simpa using h
  refine UP (λr w=>v=w/\r=decide (size<1\/16384<size)) (λr w ⟨z,b⟩=>?_) λJ d=>ifD (λh=>d _ _ ⟨rfl,(zW (.inl h)).symm⟩) λh=>d _ _ ⟨rfl,by rw[decide_eq_decide];omega⟩;subst z;refine UP (λr p=>v=p/\r=decide (size<1\/16384<size\/align<1)) (λr p ⟨z,b⟩=>?_) λJ d=>iff_ (λh=>d _ _ ⟨rfl,by rw[b]at h;have:=zBZ h;exact(zW O).symm⟩) λh=>d _ _ ⟨rfl,by rw[b]at h;have:=zCR h;rw[decide_eq_decide];omega⟩;subst z;refine UP (λr p=>v=p/\r=decide (size<1\/16384<size\/align<1\/256<align)) (λr p ⟨z,b⟩=>?_) λJ d=>iff_ (λh=>d _ _ ⟨rfl,by rw[b]at h;have:=zBZ h;exact(zW O).symm⟩) λh=>d _ _ ⟨rfl,by rw[b]at h;have:=zCR h;rw[decide_eq_decide];omega⟩;subst z;refine UP (λr p=>v=p/\r = !decide (size<=16384/\KO size align=true)) (λr p ⟨z,b⟩=>?_) λJ d=>iff_ (λh=>d _ _ ⟨rfl,?_⟩) λh=>?_
  ·subst z;obtain⟨X,f2⟩:=fin r b;refine iff_ X λV=>?_;obtain⟨hs,i⟩:=f2 V;have Y:1<=size:=by simp only[KO,zF,zT]at i;exact i.1
   refine Wfv x hv size align λP Q=>?_;have a:=λD (C:Ext0 P D)=>hR D ((e.trans Q).trans C);unfold WbA at a;rw[hv,zB rfl,zB ⟨hs,i⟩]at a;rw[i];cases hcl:clsV (xs.map ZV) size align with
   | none=>
    rw[hcl]at a;refine ifT rfl (ar O O (ar O O (nz aB (ar (by rw[YM O];omega) (by rw[YM O];omega) ?_))));rw[YM O];refine ar O O (ar O O ?_);have K:=a P (Ext.refl _ _);simp only[Wdg]at K;rw[show size+256-1=size+255 by omega];exact K
   | some k=>
    rw[hcl]at a;have hk:k<(xs.map ZV).length:=(zFU.1 hcl).1;have y:(xs.map ZV)[k]?=some (xs.map ZV)[k]:=gGe hk;generalize (xs.map ZV)[k]=c at y;have E:(xs.map ZV).getD k ⟨8,1,1⟩=c:=by rw[zM,y];rfl
    simp only[E]at a;obtain⟨F,j⟩:=UI x hv y;obtain⟨b1,b2,b3,W⟩:=WgA j;have B:=YO x Q;have S:=j.2.1;refine ifF rfl ?_;simp only[zS,zBU];refine UV B F (UB _ _ _ (λg hc' N U L D C=>?_) λu=>?_)
    ·have H:g=c:=by
      cases g;cases c;simp only[Cls.mk.injEq]at *;omega
     subst H;obtain⟨q,G⟩:∃q,(g.tail+g.n-1)/g.n=q:=⟨_,rfl⟩;rw[G]at W;unfold WlZ at a;rw[G]at a;have A:=YO B C;refine UV A F (WiD j λv8 M=>?_);refine WkU (YO A M) F (ar O O (arN (m:=g.tail+g.n) O O (arN (m:=g.tail+g.n-1) O O (nz O (arN (m:=q) ?_ O (ar O O ?_))))))
     ·rw[YM O,←G];exact(Int.natCast_ediv _ _).symm
     ·exact a v8 (C.trans M)
    ·rw[(Uh c).2 j]at u;cases u
  ·rw[b]at h;have N:=zBZ h;have:¬(size<=16384/\KO size align=true):=λ⟨U,L⟩=>by
    simp only[KO,zF,zT]at L;omega
   rw[zd this];rfl
  ·rw[b]at h;have N:=zCR h;refine ar O O (d _ _ ⟨rfl,?_⟩);rw[WkR O O]
   congr 1
   rw[zBD,zT];simp only[KO,zF,zT];exact⟨λh=>⟨O,O,O,O,h⟩,λh=>h.2.2.2.2⟩
end Go.Ar
namespace Go.Ar
open Go Go.Vc Go.Proofs
open Go.Vc (mget mset mdel)
variable {σ σ0 v w w':Hp}{F P Q X T:Rg}{L:LayH}{H H':Hw}{held:List Pc}{s0:Sp}{t n:Nat}{g:Th}{mb am m:Nat}{x y:Me}{s:Sl}{xs:List (Int×Int×Int)}{bs:List Bk}
abbrev U6:=Int×Int×Int×Int×Int×Int
def uS (f:Bk->Int)(bs:List Bk)(c:Int):Int:=(bs.map λb=>if b.2.2.1=c then f b else 0).sum
def one (_:Bk):Int:=1
def bsz (b:Bk):Int:=b.2.1
def bas (asked:List (Int×Int))(b:Bk):Int:=(mget asked b.1).getD 0
theorem Wep {f:Bk->Int}{i:Nat}{b:Bk}(h:bs[i]?=some b)(c:Int):uS f (bs.take (i+1)) c=uS f (bs.take i) c+(if b.2.2.1=c then f b else 0):=by
 unfold uS;rw[zh,h];simp
theorem WgW {f:Bk->Int}{k:Int}(hk:0<=k)(h:∀b∈bs,0<=f b/\f b<=k)(c:Int):0<=uS f bs c/\uS f bs c<=bs.length*k:=by
 refine U9 (f:=λb:Bk=>if b.2.2.1=c then f b else 0) λb a=>?_
 have:=h b a;split<;>omega
theorem Weu {f:Bk->Int}{c:Int}:∀{bs:List Bk},uS one bs c=0->uS f bs c=0
 | [],_=>rfl
 | b::bs,h=>by
  have hp:=(WgW (f:=one) (bs:=bs) (k:=1) O (λb _=>⟨by unfold one;omega,by unfold one;omega⟩) c).1;have d:uS one (b::bs) c=(if b.2.2.1=c then 1 else 0)+uS one bs c:=rfl
  have a:uS f (b::bs) c=(if b.2.2.1=c then f b else 0)+uS f bs c:=rfl
  rw[d]at h;by_cases hc:b.2.2.1=c
  ·rw[zB hc]at h;omega
  ·rw[zA hc]at h a;rw[a,Weu O];omega
def uEnt (asked:List (Int×Int))(bs:List Bk)(c:Int):U6:=(c,0,uS one bs c,uS bsz bs c,uS (bas asked) bs c,0)
def UOk (U:List (Int×U6))(asked:List (Int×Int))(bs:List Bk):Prop:=∀c,mget U c=if uS one bs c=0 then none else some (uEnt asked bs c)
theorem UOk.q {U:List (Int×U6)}{asked:List (Int×Int)}(h:UOk U asked bs)(c:Int):∃a,(mget U c).getD (0,0,0,0,0,0)=(a,0,uS one bs c,uS bsz bs c,uS (bas asked) bs c,0):=by
 rw[h c];split
 ·rename_i h0;exact⟨0,by rw[h0,Weu h0,Weu h0];rfl⟩
 ·exact⟨c,rfl⟩
def usSz (tb:List Cls)(j:Nat):Int:=if j=0 then 0 else((tb.getD (j-1) ⟨8,1,1⟩).size:Int)
def usSp (tb:List Cls)(j:Nat)(l:Int):Int:=if j=0 then 0 else(l+((tb.getD (j-1) ⟨8,1,1⟩).n:Int)-1)/((tb.getD (j-1) ⟨8,1,1⟩).n:Int)
def Wdm (tb:List Cls)(asked:List (Int×Int))(bs:List Bk)(j:Nat):Option U6:=if uS one bs ((j:Int)-1)=0 then none else
 some ((j:Int)-1,usSz tb j,uS one bs ((j:Int)-1),uS bsz bs ((j:Int)-1),uS (bas asked) bs ((j:Int)-1),usSp tb j (uS one bs ((j:Int)-1)))
def usL (tb:List Cls)(asked:List (Int×Int))(bs:List Bk)(m:Nat):List U6:=(List.range m).filterMap (Wdm tb asked bs)
def u6V (r:U6):List Value:=[.int .i64 r.1,.int .i64 r.2.1,.int .i64 r.2.2.1,.int .i64 r.2.2.2.1,.int .i64 r.2.2.2.2.1,.int .i64 r.2.2.2.2.2]
def usV (l:List U6):List Value:=l.flatMap u6V
theorem Wkr (tb:List Cls)(asked:List (Int×Int))(bs:List Bk)(m:Nat):usL tb asked bs (m+1)=usL tb asked bs m++(Wdm tb asked bs m).toList:=by
 unfold usL;rw[zAB,zDZ];cases h:Wdm tb asked bs m<;>simp[h]
theorem Wnd (tb:List Cls)(asked:List (Int×Int))(bs:List Bk)(m:Nat):(usL tb asked bs m).length<=m:=by
 have:=List.length_filterMap_le (Wdm tb asked bs) (List.range m);rw[zBS]at this;exact this
theorem We5 (l:List U6):(usV l).length=l.length*6:=by
 unfold usV
 induction l with
 | nil=>rfl
 | cons b bs ih=>rw[zBB,zK,ih];simp[u6V];omega
theorem Whv (ha:Acts σ s xs){i:Nat}{x y z:Int}(hx:xs[i]?=some (x,y,z)){K:Int->Prop}(hK:K x):Ix s.a s.len (i:Int) 3 λa=>LdH (λm=>Ext0 σ m) bN (a.add 0) K:=by
 have p:=(gSi.1 hx).1;obtain⟨r,h⟩:=ha;obtain⟨b,o,g,_,e,_⟩:=h i x y z hx;rw[g];refine ix O O ⟨x,λm j=>?_,hK⟩;have d:cell σ ⟨b,o+(i:Int).toNat*3+0,none⟩=some (.int .i64 x):=by simpa using e
 rw[add_lit,add_lit,QR j (QF d) id];exact d
theorem lkE {k:IntKind}{c:CK}{r:Nat}{l:List (Int×c.T)}{n:Int}{o:Option c.T}{K:Option c.T->Prop}(hm:MapL σ r k c l)(h:mget l n=o)(hK:K o):Lk k c (some r) n σ K:=⟨l,hm,by rw[h];exact hK⟩
def WbR:List Value:=[.int .i64 0,.int .i64 0,.int .i64 0,.int .i64 0,.int .i64 0,.int .i64 0]
set_option maxRecDepth 16000 in
theorem WkW (p:MP σ0 σ L H held s0 P mb am x)(mi:MeI x){R:Sl->Hp->Prop}
 (hR:∀s w bs,Ext0 σ w->LiveL H.live bs->RowR s 6 (usV (usL H.tb x.asked bs (H.tb.length+1))) w (λb=>σ.size<=b)->R s w):YE.c (aW mb) σ R:=by
 refine YE.o ?_;unfold YE.v;refine Wae p (ifF rfl (nilP (p.b.rP rfl (Wdd p.h p.h.tb40 λtab G e1 E=>WeU λY hz2 e2 m2=>nilP ?_))));have e12:=e1.trans e2;have p2:=p.fr e12;refine p2.b.rP rfl (WfS p2.h p.hi λs v3 bs e3 hl hrow=>?_);have e03:=e12.trans e3;have p3:=p.fr e03;have m3:MapL v3 G.size .i64 (.ag 6) []:=e3.mapL (m2 _ _) id;have hub:σ.size<=G.size:=e1.1;have hsl:s.len=bs.length:=by have:=hrow.1;rw[G7]at this;omega
 have hbl:bs.length<=1000000:=by rw[hl.len];exact p.hi.live_len
 have hb1:∀b∈bs,0<=bsz b/\bsz b<=270000:=λb hb=>by
  have:=p.hi.size8 ((hl.mem b).1 hb);unfold bsz;simp only at this;omega
 have hb2:∀b∈bs,0<=bas x.asked b/\bas x.asked b<=16384:=λb hb=>by
  unfold bas;cases hm:mget x.asked b.1 with
  | none=>exact⟨zCH _,by decide⟩
  | some z=>exact mi.v _ (KU hm)
 have ah:∀b∈bs,0<=one b/\one b<=1:=λb hb=>⟨by unfold one;omega,by unfold one;omega⟩;have hacts:Acts v3 tab (H.tb.map clsT):=YO (GV E) (e2.trans e3);have htl:tab.len=H.tb.length:=by have:=E.1;rw[KA]at this;omega
 refine ZS (a:=bN) (λ(i:Int) w=>∃(k:Nat) (U:List (Int×U6)),i=k/\k<=bs.length/\Ext (· = G.size) v3 w/\MapL w G.size .i64 (.ag 6) U/\UOk U x.asked (bs.take k)) (λi _=>bs.length-i.toNat) ⟨0,[],rfl,O,Ext.refl _ _,m3,λc=>rfl⟩ ?_;rintro(i:Int) w ⟨k,U,rfl,hk,e,hm,hU⟩;have pw:MP σ0 w L H held s0 P mb am x:=p3.out e λq _ (hq:q=G.size)=>by
  have h1:=p.b.lt;have h2:=p.m.lt;have h3:=p.e.1;exact⟨λhP=>by have:=(p.pP q hP).2;omega,O,O,O⟩
 refine ifD (λhlt=>?_) λhge=>?_
 ·have hk':k<bs.length:=by omega
  have hg:bs[k]?=some bs[k]:=gGe _;generalize bs[k]=b at hg;have hbm:=zE hg;have q0:=ah b hbm;have q1:=hb1 b hbm;have q2:=hb2 b hbm;have hlk:(bs.take k).length=k:=by rw[zO];omega
  have l0:=WgW (bs:=bs.take k) O (λb h=>ah b (zAY h)) b.2.2.1;have l1:=WgW (bs:=bs.take k) O (λb h=>hb1 b (zAY h)) b.2.2.1;have l2:=WgW (bs:=bs.take k) O (λb h=>hb2 b (zAY h)) b.2.2.1;rw[hlk]at l0 l1 l2;have n0:=λc=>Wep (f:=one) hg c;have n1:=λc=>Wep (f:=bsz) hg c;have n2:=λc=>Wep (f:=bas x.asked) hg c;obtain⟨a0,hq⟩:=hU.q b.2.2.1;have hrw:SlR s 4 (bksV bs) w (λq=>Y.size<=q):=RowR.slR (aI.keep hrow e λq _ (h1:Y.size<=q) (h2:q=G.size)=>O);refine WoA hrw hg λbb o hc=>ldI0 (hc 0 _ rfl) (ldI0 (hc 1 _ rfl) (ldI0 (hc 2 _ rfl) (ldI0 (hc 3 _ rfl) ?_)));refine nw (cs:=[.int .i64 0,.int .i64 0,.int .i64 0,.int .i64 0]) λu2 hz2 f2 c2=>c2.s1 aA λu3 o3 c3=>c3.s1 aA λu4 o4 c4=>c4.s1 aA λu5 o5 c5=>c5.s1 aA λu6 o6 c6=>?_;have f6:Ext0 w u6:=Ext.fresh (Ext.fresh (Ext.fresh (Ext.fresh f2 o3.ext λi hi=>O) o4.ext λi hi=>O) o5.ext λi hi=>O) o6.ext λi hi=>by omega
  have hm6:=f6.mapL hm id;obtain⟨mu,K⟩:∃mu,mget U b.2.2.1=mu:=⟨_,rfl⟩;rw[K]at hq;refine c6.rI rfl (lkE hm6 K ?_);rw[hq];refine nw (cs:=WbR) λu7 hz7 f7 d7=>?_;unfold WbR at d7;refine d7.s1 aA λu8 o8 d8=>d8.s1 aA λu9 o9 d9=>d9.s1 aA λu10 o10 S=>S.s1 aA λu11 N W=>W.s1 aA λu12 X Q=>Q.s1 aA λu13 M A=>?_;have g:Ext0 u6 u13:=Ext.fresh (Ext.fresh (Ext.fresh (Ext.fresh (Ext.fresh (Ext.fresh f7 o8.ext λi hi=>O) o9.ext λi hi=>O) o10.ext λi hi=>O) N.ext λi hi=>O) X.ext λi hi=>O) M.ext λi hi=>by omega
  have c13:=g.blk c6 id;have ab:∀{u u':Hp},QD u u' u6.size->Blk u w.size (bkV b)->Blk u' w.size (bkV b):=λo h=>o.ext.blk h λ(hx:w.size=u6.size)=>by have:=c6.lt;omega
  refine c13.rI rfl (A.s1 aA λu14 af D=>D.rI rfl (ar aC aC (D.s1 aA λu15 ae ad=>ad.rI rfl ?_)));have c15:Blk u15 w.size (bkV b):=ab ae (ab af c13);refine c15.rI rfl (ar (by show _<=uS bsz (bs.take k) b.2.2.1+bsz b;omega) (by show uS bsz (bs.take k) b.2.2.1+bsz b<=_;omega) (ad.s1 aA λu16 o16 ac=>ac.rI rfl (nilP ?_)));have c16:=ab o16 c15;have f16:Ext0 w u16:=Ext.fresh (Ext.fresh (Ext.fresh (f6.trans g) af.ext λi hi=>by have:=f6.1;omega) ae.ext λi hi=>by have:=f6.1;omega) o16.ext λi hi=>by have:=f6.1;omega
  have p16:=pw.fr f16;refine p16.b.rM rfl (c16.rI rfl ⟨x.asked,p16.m,ar (by show _<=uS (bas x.asked) (bs.take k) b.2.2.1+bas x.asked b;omega) (by show uS (bas x.asked) (bs.take k) b.2.2.1+bas x.asked b<=_;omega) (ac.s1 aA λu17 o17 B=>?_)⟩);have c17:=ab o17 c16;have f17:Ext0 w u17:=Ext.fresh f16 o17.ext λi hi=>by have:=f6.1;omega
  refine c17.rI rfl (B.rI rfl (B.rI rfl (B.rI rfl (B.rI rfl (B.rI rfl (B.rI rfl ⟨G.size,U,rfl,f17.mapL hm id,λu18 o18 m18=>?_⟩))))));refine arN (m:=k+1) O O ⟨⟨k+1,_,rfl,O,?_,m18,?_⟩,O⟩
  ·exact(e.trans (Ext0.to f17)).trans o18.ext
  ·intro c;have hp0:=(WgW (bs:=bs.take k) O (λb h=>ah b (zAY h)) c).1;rw[Waq];by_cases V:c=b.2.2.1
   ·subst V;have e0:=n0 b.2.2.1;have e1:=n1 b.2.2.1;have e2:=n2 b.2.2.1;rw[zB rfl]at e0 e1 e2;have:¬uS one (bs.take (k+1)) b.2.2.1=0:=by rw[e0];unfold one at *;omega
    rw[zB rfl,zA this];unfold uEnt;rw[e0,e1,e2];rfl
   ·have hne':¬b.2.2.1=c:=λh=>V h.symm;have e0:=n0 c;have e1:=n1 c;have e2:=n2 c;rw[zA hne',Int.add_zero]at e0 e1 e2;rw[zA V,hU c];unfold uEnt;rw[e0,e1,e2]
 ·have hkk:k=bs.length:=by omega
  subst hkk;rw[zl]at hU;have r:=GV E;have hactw:Acts w tab (H.tb.map clsT):=Wau hacts e λq (hq:q=G.size) o ha=>by
   obtain⟨_,hc⟩:=r;cases htb0:H.tb with
   | nil=>have:=p.cf.2.2;unfold TbOk at this;rw[htb0]at this;exact absurd this aB
   | cons c0 r0=>
    obtain⟨b',o',h1,h2,_⟩:=hc 0 c0.size c0.pages c0.batch (by rw[htb0];rfl);rw[ha]at h1;simp only[Option.some.injEq,Addr.mk.injEq]at h1;omega
  refine Ko (a:=.s) (bb:=bN) (λ(out:Sl) (c:Int) u=>∃j:Nat,c=(j:Int)-1/\j<=H.tb.length+1/\Ext (λq=>Y.size<=q) w u/\RowR out 6 (usV (usL H.tb x.asked bs j)) u (λq=>Y.size<=q)) (λ_ c _=>(H.tb.length+1)-(c+1).toNat) ⟨0,rfl,O,Ext.refl _ _,⟨rfl,.inl ⟨rfl,rfl⟩⟩⟩ ?_;rintro(out:Sl) (c:Int) u ⟨j,rfl,hj,eu,hout⟩;have ht40:=p.h.tb40;have hwz:=e.1;have h3z:=e3.1;have huz:=eu.1;have hlen:=Wnd H.tb x.asked bs j;have hol:out.len<=j:=by have:=hout.1;rw[We5]at this;omega
  refine ifD (λhlt=>?_) λhge=>?_
  ·have K:MapL u G.size .i64 (.ag 6) U:=eu.mapL hm λ(hx:Y.size<=G.size)=>by omega
   have d:=Wkr H.tb x.asked bs j;by_cases h0:uS one bs ((j:Int)-1)=0
   ·have hU0:mget U ((j:Int)-1)=none:=by rw[hU,zB h0]
    have hrow0:Wdm H.tb x.asked bs j=none:=by unfold Wdm;rw[zB h0]
    rw[hrow0]at d;refine lkE K hU0 ?_;refine nw (cs:=WbR) λu7 hz7 f7 d7=>?_;unfold WbR at d7;refine d7.s1 aA λu8 o8 d8=>d8.s1 aA λu9 o9 d9=>d9.s1 aA λu10 o10 S=>S.s1 aA λu11 N W=>W.s1 aA λu12 X Q=>Q.s1 aA λu13 M A=>?_;have g:Ext0 u u13:=Ext.fresh (Ext.fresh (Ext.fresh (Ext.fresh (Ext.fresh (Ext.fresh f7 o8.ext λi hi=>O) o9.ext λi hi=>O) o10.ext λi hi=>O) N.ext λi hi=>O) X.ext λi hi=>O) M.ext λi hi=>by omega
    refine ifT rfl (ar O O ⟨⟨j+1,O,O,eu.trans (Ext0.to g),?_⟩,O⟩);rw[d];simp only[Option.toList,zy];exact aI.keep0 hout g
   ·have hU1:mget U ((j:Int)-1)=some (uEnt x.asked bs ((j:Int)-1)):=by rw[hU,zA h0]
    have hrow1:Wdm H.tb x.asked bs j=some ((j:Int)-1,usSz H.tb j,uS one bs ((j:Int)-1),uS bsz bs ((j:Int)-1),uS (bas x.asked) bs ((j:Int)-1),usSp H.tb j (uS one bs ((j:Int)-1))):=by unfold Wdm;rw[zA h0]
    rw[hrow1]at d;have l0:=WgW (bs:=bs) O ah ((j:Int)-1);unfold uEnt at hU1;generalize uS one bs ((j:Int)-1)=ul at *;generalize uS bsz bs ((j:Int)-1)=ub at *;generalize uS (bas x.asked) bs ((j:Int)-1)=ua at *;refine lkE K hU1 ?_;refine nw (cs:=WbR) λu7 hz7 f7 d7=>?_;unfold WbR at d7;refine d7.s1 aA λu8 o8 d8=>d8.s1 aA λu9 o9 d9=>d9.s1 aA λu10 o10 S=>S.s1 aA λu11 N W=>W.s1 aA λu12 X Q=>Q.s1 aA λu13 M A=>?_;have g:Ext0 u u13:=Ext.fresh (Ext.fresh (Ext.fresh (Ext.fresh (Ext.fresh (Ext.fresh f7 o8.ext λi hi=>O) o9.ext λi hi=>O) o10.ext λi hi=>O) N.ext λi hi=>O) X.ext λi hi=>O) M.ext λi hi=>by omega
    refine ifF rfl (Wbo (λq=>Ext0 u q/\Blk q u.size (u6V ((j:Int)-1,usSz H.tb j,ul,ub,ua,usSp H.tb j ul))) (λq ⟨eq,bq⟩=>?_) λJ hJ=>?_)
    ·refine bq.rI rfl (bq.rI rfl (bq.rI rfl (bq.rI rfl (bq.rI rfl (bq.rI rfl ?_)))));refine RowR.push (F:=λq=>Y.size<=q) (vs:=u6V ((j:Int)-1,usSz H.tb j,ul,ub,ua,usSp H.tb j ul)) (aI.keep0 hout eq) (λb hb=>by have:=eq.1;show Y.size<=b;omega) rfl rfl (by simp[u6V,one1]) O O λs' u' hsl eu' hrow'=>?_;refine ar O O ⟨⟨j+1,O,O,(eu.trans (Ext0.to eq)).trans eu',?_⟩,O⟩;rw[d];have:usV (usL H.tb x.asked bs j++(some ((j:Int)-1,usSz H.tb j,ul,ub,ua,usSp H.tb j ul)).toList)=usV (usL H.tb x.asked bs j)++u6V ((j:Int)-1,usSz H.tb j,ul,ub,ua,usSp H.tb j ul):=by simp[usV]
     rw[this];exact hrow'
    ·refine ifD (λhc0=>?_) λhc0=>?_
     ·obtain⟨k,rfl⟩:∃k,j=k+1:=⟨j-1,O⟩;have hck:(((k+1:Nat):Int)-1)=(k:Int):=by omega
      rw[hck]at A hJ ⊢;have hkt:k<H.tb.length:=by omega
      have hcl:H.tb[k]?=some H.tb[k]:=gGe _;have aa:Cls.ok H.tb[k]:=p.hi.ok _ (zc hkt);have hgd:H.tb.getD (k+1-1) ⟨8,1,1⟩=H.tb[k]:=by rw[zGU,zM,hcl];rfl
      have hsz:usSz H.tb (k+1)=(H.tb[k].size:Int):=by unfold usSz;rw[zA O,hgd]
      have hsp:usSp H.tb (k+1) ul=(ul+(H.tb[k].n:Int)-1)/(H.tb[k].n:Int):=by unfold usSp;rw[zA O,hgd]
      rw[hsz,hsp]at hJ;generalize H.tb[k]=cl at hcl aa hJ;have hx:(H.tb.map clsT)[k]?=some ((cl.size:Int),(cl.pages:Int),(cl.batch:Int)):=by rw[zf,hcl];rfl
      have C:Acts u13 tab (H.tb.map clsT):=YO (Wau hactw eu λq (hq:Y.size<=q) o ha=>by
       obtain⟨_,hc⟩:=r;obtain⟨b',o',h1,h2,_⟩:=hc k _ _ _ hx;rw[ha]at h1;simp only[Option.some.injEq,Addr.mk.injEq]at h1;omega) g
      have n1:=aa.n_pos;have n2:=aa.n_le;refine UV C hx (UB _ _ _ (λZ hc' h1 h2 h3 v7 e7=>?_) λai=>?_)
      ·have V:Z=cl:=by
        cases Z;cases cl;simp only[Cls.mk.injEq]at *;omega
       subst V;have D:=e7.blk A id;refine⟨λm=>Ext0 v7 m,Ext.refl _ _,Whv (YO C e7) hx (Blk.rH (c:=bN) (y:=ul) D rfl (ar O O (ar O O (nz O ?_))))⟩;have hq0:0<=(ul+(Z.n:Int)-1)/(Z.n:Int):=Int.ediv_nonneg O O;have hq1:(ul+(Z.n:Int)-1)/(Z.n:Int)<=ul+(Z.n:Int)-1:=Int.ediv_le_self _ O;rw[YM O];generalize (ul+(Z.n:Int)-1)/(Z.n:Int)=qq at hq0 hq1 hJ ⊢;refine ar O O (D.s1 aA λu14 af ad=>ad.s1 aA λu15 ae ac=>hJ u15 ⟨?_,ac⟩);exact Ext.fresh (Ext.fresh (g.trans e7) af.ext λi hi=>O) ae.ext λi hi=>by omega
      ·rw[(Uh cl).2 aa]at ai;cases ai
     ·have hj0:j=0:=by omega
      subst hj0;exact hJ u13 ⟨g,A⟩
  ·have hjj:j=H.tb.length+1:=by omega
   subst hjj;refine hR out u bs (Ext.fresh (Ext.fresh e03 e λi (hi:i=G.size)=>O) eu λi (hi:Y.size<=i)=>O) hl (aI.mono hout λq _ (hq:Y.size<=q)=>by show σ.size<=q;omega)
end Go.Ar
namespace Go.Proofs
open Go.Vc
set_option maxRecDepth 100000
def W7.h:Hn:=.q .o1 (.q .o2 (.q (.q .o2 .aK) (.q .o7 (.q (.q (.reg (.seq [.op,.op,.op,.grd false 2 [.op,.op]])) .aK) (.q .o7 (.q .o4 (.q .o8 (.q (.reg (.seq [.op,.op,.op,.grd true 3 (RI.ops 3),.op,.grd true 3 (RI.ops 3),.op,.grd true 3 (RI.ops 3),.op,.grd true 5 (RI.ops 5),.op,.grd true 2 [.op,.op],.op,.grd true 2 [.op,.op],.op])) .l))))))))
def W7.v (a:Hp)(b:aO):Prop:=XJ.c a λc d=>If c.isNone (b false d) (QJ.c c d λe f g=>JnB (λh i=>If h (b false i) (Xx.c e 0 20 8 i λj k l=>W6.c e l λm n o p q r s t u v w=>aV #[.I 0,.I 0,.I 0,.I 0,.I 0,.I 0,.I 0,.I 0,.I 0,.I 0] 56 w λx y=>aR x 0 (.I m) y λz=>aR x 1 (.I n) z λaa=>aR x 2 (.I o) aa λab=>aR x 3 (.I p) ab λac=>aR x 4 (.I q) ac λad=>aR x 5 (.I r) ad λae=>aR x 6 (.I s) ae λaf=>aR x 7 (.I t) af λag=>aR x 8 (.I u) ag λah=>aR x 9 (.I v) ah λai=>YT.c c ai λaj ak=>Qe.c aj 20 8 ak λal am an=>JnB (λao ap=>JnB (λaq ar=>JnB (λau av=>JnB (λaw ax=>JnB (λay az=>JnB (λa0 a1=>b a0 a1) λa2=>If ay (a2 (am==0) az) (a2 false az)) λa3=>If aw (a3 (al==6) ax) (a3 false ax)) λa4=>If au (YE.c e av λa5 a6=>aV #[.I 2,.I 24,.I 1,.I 24,.I 20,.I 1] 80 a6 λa7 a8=>X4.c a5 ⟨some a7,1,1⟩ a8 λa9 ba=>a4 a9 ba) (a4 false av)) λbb=>If aq (aQ x 7 ar λbc=>bb (bc==1) ar) (bb false ar)) λbd=>If ao (aQ x 1 ap λbe=>bd (be==24) ap) (bd false ap)) λbf=>If (k==0) (aQ x 0 an λbg=>bf (bg==20) an) (bf false an))) λbh=>If (f != 0) (bh true g) (bh e.isNone g))
theorem W7.o {a b}(c:W7.v a b):W7.c a b:=Wa Tryz.func13 (x:=W7.h) (R0 c)
def X7.h:Hn:=.q .o2 (.q (.q (.reg (.seq [.op,.op,.op,.grd false 3 (RI.ops 3)])) .aK) (.q .o3 (.q (.q .o2 .aK) (.q .o7 (.q (.q (.reg (.seq [.op,.op,.op,.grd false 2 [.op,.op]])) .aK) (.q .o5 (.q (.q .o1 (.k (.loop [(11,.I)] (.q (.q .o4 (.c .l .l)) (.q (.k .o6) .o3))))) .aL)))))))
def X7.v (a b c d e f:Int)(g:Sl)(h:Int)(i:Hp)(j:Option Addr->Hp->Prop):Prop:=aV #[.I a,.I b,.I c,.I d,.I e,.I f] 65 i λk l=>aQ k 0 l λm=>aQ k 1 l λn=>aQ k 2 l λo=>aQ k 3 l λp=>aQ k 4 l λq=>aQ k 5 l λr=>WQ.c m n o p q r l λs t=>JnB (λu v=>If u (j none v) (aQ k 0 v λw=>aQ k 1 v λx=>aQ k 2 v λy=>aQ k 3 v λz=>aQ k 4 v λaa=>aQ k 5 v λab=>Wu.c w x y z aa ab v λac ad=>If ac.isNone (j none ad) (QJ.c ac ad λae af ag=>JnB (λah ai=>If ah (j none ai) (aV #[.pointer ac,.pointer ae,.slice none 0 0,.slice none 0 0,.I 0] 72 ai λaj ak=>W8 [bN] (λal=>al 0 ak) λam (an:Int) ao=>If (an<((g.len:Nat):Int)) (Ix g.a g.len an 8 λap=>aQ ap 0 ao λaq=>aQ ap 1 ao λar=>aQ ap 2 ao λau=>aQ ap 3 ao λav=>aQ ap 4 ao λaw=>aQ ap 5 ao λax=>aQ ap 6 ao λay=>bC ap 7 ao λaz=>Xa.c (some aj) aq ar au av aw ax ay az ao λa0 a1=>bL (an+1) λa2=>am a2 a1) (j (some aj) ao))) λa3=>If (af != 0) (a3 true ag) (a3 ae.isNone ag)))) λa4=>If s (a4 true t) (Xz.c g h t λa5 a6=>a4 a5 a6)
theorem X7.o {a b c d e f g h i j}(k:X7.v a b c d e f g h i j):X7.c a b c d e f g h i j:=Wa Tryz.func30 (x:=X7.h) (R0 k)
def WN.h:Hn:=.q .o1 (.q .o1 (.q (.q .o1 (.k (.loop [(3,.I),(4,.I)] (.q (.q .o7 (.c .l .l)) (.q (.k (.o 11)) .o3))))) .aL))
def WN.v (a:R2)(b:Hp)(c:aN):Prop:=W8 [bN,bN] (λd=>d 0 0 b) λe (f:Int) (g:Int) h=>NilP a λi=>aX i 3 h λj=>If (g<((j.len:Nat):Int)) (bE a 3 h λl=>Ix l.a l.len g 3 λm=>aQ m 1 h λn=>bL (f+n) λo=>bL (g+1) λp=>e o p h) (c f h)
theorem WN.o {a b c}(d:WN.v a b c):WN.c a b c:=Wa Tryz.func32 (x:=WN.h) (R0 d)
def Xa.h:Hn:=.q .o2 (.q (.reg (.tail 5 (RI.ops 5) [.op,.op])) (.q (.q .o2 (.k (.q .o2 (.c (.q (.reg (.held true [10] (.tk [0,1,2,3,4,5,6,7,8,9] (.all [(10,.tk [11,12,13,14,15] (.done))])))) (.q (.q .o2 (.c (.q (.o 11) (.q (.reg (.held true [15] (.tk [0,1,2,3,4,5,6,7,8,9,10] (.all [(11,.all [(12,.take 13 (.take 14 (.all [(15,.done)])))])])))) (.reg (.held true [10] (.take 0 (.take 1 (.take 2 (.take 3 (.take 4 (.take 5 (.all [(6,.take 7 (.take 8 (.take 9 (.all [(10,.done)]))))]))))))))))) .l)) .aL)) (.q .o2 (.c (.q (.reg (.tail 7 (RI.ops 7) [.op,.op])) (.q (.q .o2 (.c (.q .o1 (.q (.q .o1 (.k (.loop [(9,.one .s),(10,.I)] (.q (.q .o7 (.c .l .l)) (.q (.k (.q .o10 (.c (.o 11) .l))) .o3))))) .o5)) .l)) .aL)) (.sjn [(122,.one .b)] (.q .o2 (.c .l (.q .o2 (.c .l (.q .o2 (.c .l (.q .o2 (.c .l .o2)))))))) (.c (.q (.reg (.held true [9] (.take 0 (.take 1 (.take 2 (.take 3 (.take 4 (.take 5 (.take 6 (.take 7 (.take 8 (.all [(9,.take 10 (.take 11 (.take 12 (.take 13 (.take 14 (.take 15 (.take 16 (.done))))))))])))))))))))) .aL) .l)))))))) .aM))
def Xa.v (a:R2)(b c d e f g h:Int)(i:ByteArray)(j:Hp)(k:aN):Prop:=aV #[.I b,.I c,.I d,.I e,.I f,.I g,.I h,.string i] 87 j λl m=>bE a 2 m λo=>aQ l 0 m λp=>aQ l 1 m λq=>aQ l 2 m λr=>aQ l 3 m λs=>aQ l 4 m λt=>aQ l 5 m λu=>aQ l 6 m λv=>bC l 7 m λw=>Yr.c o p q r s t u v w m λx y=>aQ l 0 y λz=>If (z==120) (Held y λaa=>NilP a λab=>aU aa ab 1 λac=>aS aa l 1 λad=>aS aa l 2 λae=>aS aa l 3 λaf=>Xx.c ac ad ae af y λag ah ai=>If (ah==0) (bE a 2 ai λak=>aV #[.I ag] 3 ai λal am=>App ak 1 8 3 [.I 0] ⟨some al,1,1⟩ am λan ao=>NilP a λap=>aR ap 2 (.slice an.a an.len an.cap) ao λaq=>Held aq λar=>NilP a λau=>aT ar au 3 λav=>aS ar l 2 λaw=>aS ar l 3 λax=>aV #[.I ag,.I aw,.I ax] 83 aq λay az=>And (ar az) <| App av 3 24 83 [.I 0,.I 0,.I 0] ⟨some ay,1,1⟩ az λa0 a1=>And (ar a1) <| NilP a λa2=>aR a2 3 (.slice a0.a a0.len a0.cap) a1 λa3=>Held a3 λa4=>NilP a λa5=>aS a4 a5 4 λa6=>WN.c a a3 λa7 a8=>And (a4 a8) <| NilP a λa9=>aR a9 4 (.I (if a7>a6 then a7 else a6)) a8 λba=>k ah ba) (k ah ai)) (If (z==121) (bF a 1 y λbc=>aQ l 1 y λbd=>Y6.c bc bd x y λbe bf=>
 If (be==0) (W8 [.s,bN] (λbg=>bg ⟨none,0,0⟩ 0 bf) λbh (bi:Sl) (bj:Int) bk=>bE a 3 bk λbm=>If (bj<((bm.len:Nat):Int)) (bE a 3 bk λbo=>Ix bo.a bo.len bj 3 λbp=>aQ bp 0 bk λbq=>If (bq != x) (bE a 3 bk λbs=>Ix bs.a bs.len bj 3 λbt=>aQ bt 0 bk λbu=>aQ bt 1 bk λbv=>aQ bt 2 bk λbw=>aV #[.I bu,.I bv,.I bw] 83 bk λbx bz=>App bi 3 24 83 [.I 0,.I 0,.I 0] ⟨some bx,1,1⟩ bz λb0 b1=>bL (bj+1) λb2=>bh b0 b2 b1) (bL (bj+1) λb3=>bh bi b3 bk)) (NilP a λb4=>aR b4 3 (.slice bi.a bi.len bi.cap) bk λb5=>k be b5)) (k be bf)) (Jn [.b] (λ(b6:Bool) b7=>If b6 (Held b7 λb8=>NilP a λb9=>aU b8 b9 0 λca=>NilP a λcb=>aT b8 cb 2 λcc=>aS b8 l 0 λcd=>aS b8 l 1 λce=>aS b8 l 2 λcf=>aS b8 l 3 λcg=>aS b8 l 4 λch=>aS b8 l 5 λci=>aS b8 l 6 λcj=>LdH b8 .str (l.add 7) λ(ck:ByteArray)=>Y7.c ca cc cd ce cf cg ch ci cj ck b7 λcl cm cn co=>k cm co) (k 0 b7)) λcp=>If (z==2) (cp (z==2) y) (If (z==3) (cp (z==3) y) (If (z==8) (cp (z==8) y) (If (z==9) (cp (z==9) y) (cp (z==10) y))))))
theorem Xa.o {a b c d e f g h i j k}(l:Xa.v a b c d e f g h i j k):Xa.c a b c d e f g h i j k:=Wa Tryz.func35 (x:=Xa.h) (R0 l)
end Go.Proofs
namespace Go.Proofs
open Go.Vc
set_option maxRecDepth 100000
def X4.h:Hn:=.q .o1 (.q (.q .o5 .aK) (.q (.q .o1 (.k (.loop [(5,.I)] (.q (.q .o4 (.c .l .l)) (.q (.k (.q (.oq 9) .aK)) .o3))))) .aM))
def X4.v (a b:Sl)(c:Hp)(d:aO):Prop:=If (((a.len:Nat):Int) != ((b.len:Nat):Int)) (d false c) (W8 [bN] (λe=>e 0 c) λf (g:Int) h=>If (g<((a.len:Nat):Int)) (Ix a.a a.len g 6 λi=>aQ i 0 h λj=>aQ i 1 h λk=>aQ i 2 h λl=>aQ i 3 h λm=>aQ i 4 h λn=>aQ i 5 h λo=>Ix b.a b.len g 6 λp=>aQ p 0 h λq=>aQ p 1 h λr=>aQ p 2 h λs=>aQ p 3 h λt=>aQ p 4 h λu=>aQ p 5 h λv=>If (!((j==q)&&((k==r)&&((l==s)&&((m==t)&&((n==u)&&((o==v)&&true))))))) (d false h) (bL (g+1) λw=>f w h)) (d true h))
theorem X4.o {a b c d}(e:X4.v a b c d):X4.c a b c d:=Wa Tryz.func39 (x:=X4.h) (R0 e)
end Go.Proofs
namespace Go.Ar
open Go Go.Vc Go.Proofs
open Go.Vc (mget mset mdel)
variable {σ σ0 v w w':Hp}{F G P Q X T:Rg}{L:LayH}{H H':Hw}{held:List Pc}{s0:Sp}{t n:Nat}{g:Th}{mb am m:Nat}{x y:Me}
theorem Wcu {α:Type}{l:List (Int×α)}{n:Int}(h:mget l n=none)(v:α):mset l n v=l++[(n,v)]:=by
 unfold mset;rw[zA];intro hx;obtain⟨y,a,e⟩:=zw.1 hx;unfold mget at h;rw[zCO,zBM]at h;exact h y a e
theorem Hk {α:Type}{l:List (Int×α)}{n:Int}(h:mget l n=none):mdel l n=l:=by
 unfold mdel;rw[zBK];intro y hy;unfold mget at h;rw[zCO,zBM]at h;have:=h y hy;simpa using this
theorem MeI.tops (mi:MeI x){D:Nat}(hD:D<=128):MeI (x.tops (D:Int)):=by
 have b:=mi.sum_le;have a:=mi.p;have hd:=mi.d;refine⟨mi.v,mi.l,mi.s,?_,?_,mi.c⟩
 ·unfold Me.tops;simp only;split<;>omega
 ·unfold Me.tops;simp only;split<;>omega
theorem MeI.mal (mi:MeI x){a size e:Int}{D:Nat}(h:mget x.asked a=none)(hc:x.calls<=899)(h0:0<=size)(h1:e=0->size<=16384)(hD:D<=128):MeI (x.mal a size e D):=by
 unfold Me.calls at hc;refine MeI.tops ?_ hD;by_cases he:e=0
 ·have h1:=h1 he;rw[zB he];have g:x.forget a=x:=by unfold Me.forget;rw[Hk h,h];simp
  rw[g];unfold Me.count Me.add;rw[zB he,zB rfl,Wcu h];refine⟨λy b=>?_,?_,?_,mi.p,mi.d,?_⟩
  ·rcases zR.1 b with b|b
   ·exact mi.v y b
   ·rw[zV]at b;subst b;exact⟨h0,h1⟩
  ·have:=mi.l;simp only[zK,zDN];omega
  ·simp only[zAD,zDK];rw[mi.s];simp
  ·unfold Me.calls;simp only;omega
 ·rw[zA he];unfold Me.count;rw[zA he];exact⟨mi.v,mi.l,mi.s,mi.p,mi.d,by unfold Me.calls;simp only;omega⟩
theorem RunN.det {n m:Nat}{H H1 H2:Hw}{t:Nat}{p:Ph}{a1 e1 a2 e2:Int}(h:RunN n H t p H1 a1 e1)(h':RunN m H t p H2 a2 e2):H1=H2/\a1=a2/\e1=e2:=by
 induction h generalizing m with
 | done h1 h2=>
  cases h' with
  | done=>exact⟨rfl,rfl,rfl⟩
  | next _ h3 _=>rw[h2]at h3;cases h3
 | next h1 h2 _ ih=>
  cases h' with
  | done _ h3=>rw[h2]at h3;cases h3
  | next _ h3 h4=>rw[h2]at h3;cases h3;exact ih h4
theorem Hb.det {thread kind size align addr a1 e1 a2 e2:Int}{H1 H2:Hw}(h:Hb H thread kind size align addr H1 a1 e1)(h':Hb H thread kind size align addr H2 a2 e2):H1=H2/\a1=a2/\e1=e2:=by
 rcases h with⟨h1,_,rfl,rfl⟩|⟨t,p,n,h1,h2⟩
 ·rcases h' with⟨g1,_,rfl,rfl⟩|⟨_,_,_,g1,_⟩
  ·rw[h1]at g1;cases g1;exact⟨rfl,rfl,rfl⟩
  ·rw[h1]at g1;cases g1
 ·rcases h' with⟨g1,_⟩|⟨_,_,_,g1,g2⟩
  ·rw[h1]at g1;cases g1
  ·rw[h1]at g1;cases g1;exact h2.det g2
def wm:Hw×Int×Int:=nxt w0 0 20 0
theorem wm_2:wm.2=(4096,0):=by decide +kernel
theorem wm_w:Hb w0 0 0 20 8 0 wm.1 4096 0:=nxtW rfl wm_2 aB rfl
theorem wm_d:wm.1.sp.st.count 2<=128:=by decide +kernel
theorem WhU:wm.1.live=[(4096,4096,24,2,0)]:=by decide +kernel
theorem Wn7:wm.1.tb=tb8:=by decide +kernel
theorem wm_b:WbA (tb8.map clsT) 20 8=(6,0):=by decide +kernel
theorem wm_u:usL tb8 [(4096,20)] [(4096,24,2,0)] (tb8.length+1)=[(2,24,1,24,20,1)]:=by decide +kernel
theorem Wor:NewH w0 64:=by
 have h:=Wi1 (xs:=WcL 8) (p:=64) (a:=1) (t:=1) (b:=1024) (r:=2) (HP 8 aB aB) aB;rw[w0_e]at h;exact h
theorem Wjo:∀{l:List U6} {i:Nat} {r:U6},l[i]?=some r->∀{j:Nat} {v:Value},(u6V r)[j]?=some v->(usV l)[6*i+j]?=some v
 | [],i,b,h,_,_,_=>by simp at h
 | a::bs,0,b,h,j,v,hv=>by
  simp only[zEX,Option.some.injEq]at h;subst h;have hj:=(gSi.1 hv).1;show(u6V a++usV bs)[6*0+j]?=_;rw[show 6*0+j=j by omega,ze hj];exact hv
 | a::bs,i+1,b,h,j,v,hv=>by
  have d:=Wjo (l:=bs) (i:=i) (r:=b) (by simpa using h) hv;show(u6V a++usV bs)[6*(i+1)+j]?=_;rw[zm (by simp[u6V];omega)];have:6*(i+1)+j-(u6V a).length=6*i+j:=by simp[u6V];omega
  rw[this];exact d
theorem Woa {s:Sl}{l:List U6}(hs:SlR s 6 (usV l) σ F){i:Nat}{r:U6}(hb:l[i]?=some r){K:Addr->Prop}(hK:∀bb o,(∀(j:Nat) v,(u6V r)[j]?=some v->cell σ ⟨bb,o+j,none⟩=some v)->K ⟨bb,o,none⟩):Ix s.a s.len (i:Int) 6 K:=by
 have p:=(gSi.1 hb).1;have w:s.len=l.length:=by have:=hs.1;rw[We5]at this;omega
 obtain⟨b,o,e,_⟩:=hs.cell (Wjo hb (j:=0) rfl);rw[e];refine ix O O ?_;rw[add_lit];refine hK b _ λj v m=>?_;obtain⟨x,u,d,g⟩:=hs.cell (Wjo hb m);rw[e]at d;cases d;rw[show o+(i:Int).toNat*6+j=o+(6*i+j) by omega];exact g
theorem Wl8 {a b:Sl}{l:List U6}(ha:SlR a 6 (usV l) σ F)(hb:SlR b 6 (usV l) σ G)(hl:l.length<=1000000){R:aO}(hR:R true σ):X4.c a b σ R:=by
 refine X4.o ?_;unfold X4.v;have x:=ha.1;have s:=hb.1;rw[We5]at x s;have j:a.len=l.length:=by omega
 have g:b.len=l.length:=by omega
 refine ifF (by rw[j,g];simp) (ZS (a:=bN) (λ(i:Int) w=>w=σ/\∃k:Nat,i=k/\k<=l.length) (λi _=>l.length-i.toNat) ⟨rfl,0,rfl,O⟩ ?_);rintro(i:Int) w ⟨rfl,k,rfl,hk⟩;refine ifD (λu=>?_) λy=>hR;have p:l[k]?=some (l[k]' O):=gGe _;generalize (l[k]' O)=r at p;refine Woa ha p λA o1 e=>ldI0 (e 0 _ rfl) (ldI0 (e 1 _ rfl) (ldI0 (e 2 _ rfl) (ldI0 (e 3 _ rfl) (ldI0 (e 4 _ rfl) (ldI0 (e 5 _ rfl) ?_)))));refine Woa hb p λz o2 d=>ldI0 (d 0 _ rfl) (ldI0 (d 1 _ rfl) (ldI0 (d 2 _ rfl) (ldI0 (d 3 _ rfl) (ldI0 (d 4 _ rfl) (ldI0 (d 5 _ rfl) ?_)))));exact ifF aA (arN (m:=k+1) O O ⟨⟨rfl,k+1,rfl,O⟩,O⟩)
attribute [local irreducible] w0 wm nxt tb8
set_option maxRecDepth 8000 in
theorem WgN (gl:Gl σ)(gd:Gd σ){R:aO}(hR:∀σ',Ext0 σ σ'->R true σ'):W7.c σ R:=by
 refine W7.o ?_;unfold W7.v;refine Wk2 gl gd λv L N e hsN hNv h0=>ifF rfl ?_;have E:=Wor;have hc0:w0.cf.pages=64:=by have:=E.pg;omega
 refine Whb e h0.cut E.hi E.cf E.ph O (λb hb=>⟨by have:N<=b:=hb.1;omega,hb.2⟩) (Wmv gl gd) λw mb am e1 _ _ p=>?_;refine JnB.intro (ifF rfl (ifF rfl ?_));refine WbO p WmM aB 0 20 8 λa er w2 ts H' K s0' P' e2 J hP2 k2 me hw=>?_;obtain⟨rfl,rfl,rfl⟩:=hw.det wm_w;generalize hy:me0.mal 4096 20 0 (wm.1.sp.st.count 2)=y at J;have F:y.sum=20/\y.mallocs=1/\y.asked=[(4096,20)]:=by subst hy;exact⟨rfl,rfl,rfl⟩
 obtain⟨y1,y2,y3⟩:=F;refine Gp J λP e3 so=>?_;have M:Wd5 wm.1.live=24:=by rw[WhU];rfl
 rw[y1,y2,M];have p3:=J.fr e3;refine nw (cs:=U5) λw4 hz4 e4 D=>?_;unfold U5 at D;refine D.s1 aA λv1 o1 b1=>b1.s1 aA λv2 o2 b2=>b2.s1 aA λv3 o3 b3=>b3.s1 aA λv4 o4 D=>D.s1 aA λv5 o5 b5=>b5.s1 aA λv6 o6 b6=>b6.s1 aA λv7 o7 b7=>b7.s1 aA λv8 o8 b8=>b8.s1 aA λv9 o9 b9=>b9.s1 aA λv10 o10 V=>?_;have eo:Ext (· = P.size) w4 v10:=((((((((o1.ext.trans o2.ext).trans o3.ext).trans o4.ext).trans o5.ext).trans o6.ext).trans o7.ext).trans o8.ext).trans o9.ext).trans o10.ext;have Q:Ext0 P v10:=Ext.fresh e4 eo λi (hi:i=P.size)=>by omega
 have m:=p3.fr Q;refine Wdd m.h m.h.tb40 λtab v11 B x=>Wln (GV x) 20 8 λW z=>?_;rw[Wn7,wm_b];have r:=(B.trans z).blk V id;refine JnB.intro (ifT rfl (r.rI rfl (JnB.intro (ifT rfl (r.rI rfl (JnB.intro (ifT rfl (r.rI rfl (JnB.intro (ifT rfl ?_))))))))));have C:=(m.fr B).fr z;refine WkW C ?_ λs A bs G H d=>?_
 ·subst hy;exact WmM.mal rfl aB aB (λ_=>by decide) wm_d
 rw[WhU]at H;have X:bs=[(4096,24,2,0)]:=by
  have h1:=H.len;obtain⟨b,rfl⟩:=List.length_eq_one_iff.1 (show bs.length=1 from h1);have Z:=(H.mem b).1 aA;simp only[zV,Prod.mk.injEq]at Z;rw[Z.2]
 rw[X,y3,Wn7,wm_u]at d;refine nw (cs:=[.int .i64 2,.int .i64 24,.int .i64 1,.int .i64 24,.int .i64 20,.int .i64 1]) λg hz14 u U=>?_;have S:SlR s 6 (usV [(2,24,1,24,20,1)]) g (λb=>W.size<=b):=RowR.slR (aI.keep0 d u);have Y:SlR ⟨some ⟨A.size,0,none⟩,1,1⟩ 6 (usV [(2,24,1,24,20,1)]) g (λb=>True):=⟨rfl,.inr ⟨A.size,0,_,trivial,rfl,U.q,λj _=>by rw[zG];rfl⟩⟩;refine Wl8 S Y aA (JnB.intro (ifT rfl (JnB.intro (ifT rfl ?_))));exact hR g ((C.fr G).fr u).e
end Go.Ar
namespace Go.Ar
open Go Go.Vc Go.Proofs
open Go.Vc (mget mset mdel)
variable {σ w w':Hp}{F P Q X:Rg}{L:LayH}{H H':Hw}{held:List Pc}{s0:Sp}{t n:Nat}{g:Th}{σ0:Hp}{addrs:Sl}{ad:List Int}{l:Sl}{ds:List Deed}
theorem PlayOk.push (p:PlayOk σ0 σ L H held s0 P Q addrs ad){s':Sl}{x:Int}(e:Ext Q σ w)(hr:RowR s' 1 (Wv (ad++[x])) w (λb=>Q b\/σ.size<=b/\b<w.size))(hl:(ad++[x]).length<=60):PlayOk σ0 w L H held s0 P (λb=>Q b\/σ.size<=b/\b<w.size) s' (ad++[x]):=by
 have j:=e.1;have i:=p.e.1;refine⟨Ext.newT p.e e λb a=>.inr (p.pQ b a).1,p.h.keep e (λb a d g=>(p.pQ b g).2.2 d) (λb a=>p.g0.1 b (p.pQ b a).1) (λa=>p.g0.2 (p.pQ _ a).1),p.hi,p.cf,p.pg,λb a=>⟨(p.pP b a).1,by have:=(p.pP b a).2;omega⟩,λb a=>?_,hr,hl,p.g0⟩;rcases a with a|a
 ·exact⟨(p.pQ b a).1,by have:=(p.pQ b a).2.1;omega,(p.pQ b a).2.2⟩
 ·exact⟨O,a.2,λd=>by have:=(p.pP b d).2;omega⟩
end Go.Ar
namespace Go.Ar
open Go Go.Vc Go.Proofs
open Go.Vc (mget mset mdel)
variable {σ σ0 v w w':Hp}{F G P Q X T:Rg}{L:LayH}{H H':Hw}{held:List Pc}{s0:Sp}{t n:Nat}{g:Th}{mb am m:Nat}{x y:Me}
structure DoQ (H H':Hw):Prop where
 hi:∃held s0,HI H' held s0
 kp:Z9 H' H
 live:H'.live=H.live
 ph:(∀g∈H.ths,g.ph=none)->∀g∈H'.ths,g.ph=none
set_option maxRecDepth 8000 in
theorem Do_q (h:HH σ F L H)(gc:Gc σ)(hi:HI H held s0)(hc:CfOk H)(h208:H.cf.pages<=208){addrs:Sl}{ad:List Int}(hs:SlR addrs 1 (Wv ad) σ X)(d:Deed)(di:DeedI d)
 (hkd:d.kd=2\/d.kd=3\/d.kd=8\/d.kd=9\/d.kd=10) {R:Int->Int->Int->Hp->Prop}
 (hR:∀a e n σ' ts' H',Ext F σ σ'->HH σ' (Grow F σ) {L with ts:=ts'} H'->DoQ H H'->R a e n σ') :
 Y7.c (aW L.p) addrs d.kd d.th d.a d.b d.of d.pl d.va d.s σ R:=by
 refine Y7.o ?_;unfold Y7.v;refine nw (cs:=Wbg d) λv hz e i=>i.rI rfl (i.rI rfl (i.rI rfl (i.rI rfl (i.rI rfl (i.rI rfl (i.rI rfl (i.rT rfl ?_)))))));refine Woj (aH.keep0 (aH.cut hs) e) d λv1 G=>?_;have K:=((HK.start h).box e hz).fr G;have w:=G.blk i id;have D:=Wok (ad:=ad) di;generalize hx:atV ad d=x at D;have m:∀{H'},ArOk H H'->DoQ H H':=λo=>⟨o.hi,o.kp,o.live,λh g hg=>h g (by rw[←o.ths];exact hg)⟩;refine w.rI rfl (iff_ (λj=>absurd (zBZ (by simpa using j):d.kd=0) O) λhk0=>?_);refine iff_ (λj=>absurd (show d.kd=1 by simpa using j) O) λhk1=>?_;refine iff_ (λj=>?_) λQ=>?_
 ·obtain⟨H',er,hw,o,le⟩:=Wev hi d.th;refine w.rI rfl (WiM Wm6 K.h hc.2.2 hw λy ts r u=>?_);have K2:=K.to r u λb _ i=>i;exact hR _ _ _ y ts H' K2.e (K2.fin h) ⟨o.hi,o.kp,le,o.rest⟩
 refine iff_ (λj=>?_) λN=>?_
 ·refine w.rI rfl (Wjg K.h (gc.keep0 (e.trans G)) x d.va D.2 λy r u=>?_);have K2:=K.to r u λb _ i=>i;exact hR _ _ _ y L.ts _ K2.e (K2.fin h) ⟨⟨_,_,hi.write x d.va⟩,⟨rfl,rfl,rfl,rfl⟩,rfl,id⟩
 have k2:d.kd≠2:=by simpa using Q
 have k3:d.kd≠3:=by simpa using N
 refine iff_ (λj=>absurd (show d.kd=4 by simpa using j) O) λhk4=>?_;refine iff_ (λj=>absurd (show d.kd=5 by simpa using j) O) λaa=>?_;refine iff_ (λj=>absurd (show d.kd=6 by simpa using j) O) λhk6=>?_;refine iff_ (λj=>absurd (show d.kd=7 by simpa using j) O) λhk7=>?_;refine iff_ (λj=>?_) λP=>?_
 ·have z:=Wli hi d.a;refine w.rI rfl (Wer K.h d.a di.a.2 (λn A M U=>?_) (λn M=>?_) (λW=>?_) λY y r u=>?_)
  ·obtain⟨B,E,S⟩:=(z n).1.hi;exact S.few (by rw[(z n).1.kp.2.1];exact h208) U
  ·have:=(z n).2;have:=h.s.a2;omega
  ·exact hR _ _ _ v1 L.ts _ K.e (K.fin h) ⟨⟨_,_,hi⟩,Z9.refl _,rfl,id⟩
  ·have K2:=K.to r u λb _ i=>i;exact hR _ _ _ y L.ts _ K2.e (K2.fin h) (m (z _).1)
 refine iff_ (λj=>?_) λJ=>?_
 ·have V:=Whw hi;refine Wj0 K.h (λn M=>?_) λy r u=>?_
  ·have:=(V n).2;have:=h.s.a2;omega
  ·have K2:=K.to r u λb _ i=>i;exact hR _ _ _ y L.ts _ K2.e (K2.fin h) (m (V _).1)
 refine iff_ (λj=>?_) λC=>?_
 ·have Z:=WhF hi;refine WkD K.h (λn A M U=>?_) λy r u=>?_
  ·obtain⟨B,E,S⟩:=(Z n).hi;exact(S.wi.ga n A U).traI
  ·have K2:=K.to r u λb _ i=>i;exact hR _ _ _ y L.ts _ K2.e (K2.fin h) (m (Z _))
 have k8:d.kd≠8:=by simpa using P
 have k9:d.kd≠9:=by simpa using J
 have k10:d.kd≠10:=by simpa using C
 omega
abbrev Kn:=Int×Int×Int
def clsI (tb:List Cls)(size align:Int):Int:=match clsV tb size align with
 | some k=>(k:Int)
 | none=>-1
def knE (tb:List Cls)(k:Kn):Int×Int×Int:=(k.1,(Wee tb k.2.1 k.2.2).1,clsI tb k.2.1 k.2.2)
structure KI (H:Hw) (x:Me) (kn:List Kn):Prop where
 asked:x.asked=kn.map λk=>(k.1,k.2.1)
 live:H.live.map (λe=>(e.1,e.2.2.1,e.2.2.2.1))=kn.map (knE H.tb)
 arg:∀k∈kn,1<=k.2.1/\k.2.1<=16384/\KO k.2.1 k.2.2=true
 cnt:x.mallocs=x.frees+kn.length
theorem KI.addr {kn:List Kn}(k:KI H x kn):H.live.map (·.1)=kn.map (·.1):=by
 have:=congrArg (List.map λe:Int×Int×Int=>e.1) k.live;rw[zAC,zAC]at this;exact this
theorem Wdr {α β:Type}{l:List (Int×α)}{l':List (Int×β)}(h:l.map (·.1)=l'.map (·.1))(n:Int):mget l n=none↔mget l' n=none:=by
 have key:∀{γ:Type} (l:List (Int×γ)),mget l n=none↔n∉l.map (·.1):=λl=>by
  unfold mget;rw[zCO,zBM];simp only[zC,not_exists,not_and,zZ]
 rw[key,key,h]
theorem KI.same {kn:List Kn}(k:KI H x kn)(hl:H'.live=H.live)(ht:H'.tb=H.tb):KI H' x kn:=⟨k.asked,by rw[hl,ht];exact k.live,k.arg,k.cnt⟩
end Go.Ar
namespace Go.Ar
open Go Go.Vc Go.Proofs
open Go.Vc (mget mset mdel)
variable {σ σ0 v w w':Hp}{F G P Q X T:Rg}{L:LayH}{H H':Hw}{held:List Pc}{s0:Sp}{t n:Nat}{g:Th}{mb am m xb:Nat}{x y:Me}
def oneV (hp mb:Nat)(addrs kns:Sl)(most:Int):List Value:=[.pointer (some ⟨hp,0,none⟩),.pointer (some ⟨mb,0,none⟩),.slice addrs.a addrs.len addrs.cap,.slice kns.a kns.len kns.cap,.int .i64 most]
structure OF (σ0 σ:Hp) (xb:Nat) (L:LayH) (H:Hw) (held:List Pc) (s0:Sp) (P:Rg) (mb am:Nat) (x:Me) (Qa Qk:Rg) (addrs:Sl) (ad:List Int) (kns:Sl) (kn:List Kn) (most:Int):Prop where
 p:MP σ0 σ L H held s0 P mb am x
 b:Blk σ xb (oneV L.p mb addrs kns most)
 ra:RowR addrs 1 (Wv ad) σ Qa
 rk:RowR kns 3 (v3s kn) σ Qk
 xb1:σ0.size<=xb/\¬P xb/\xb≠mb/\xb≠am/\¬Qa xb/\¬Qk xb
 qa:∀b,Qa b->σ0.size<=b/\b<σ.size/\¬P b/\b≠mb/\b≠am
 qk:∀b,Qk b->σ0.size<=b/\b<σ.size/\¬P b/\b≠mb/\b≠am
 qq:∀b,Qa b->¬Qk b
structure OP (σ0 σ:Hp) (xb:Nat) (L:LayH) (H:Hw) (held:List Pc) (s0:Sp) (P:Rg) (mb am:Nat) (x:Me) (Qa Qk:Rg) (addrs:Sl) (ad:List Int) (kns:Sl) (kn:List Kn) (most:Int):Prop where
 f:OF σ0 σ xb L H held s0 P mb am x Qa Qk addrs ad kns kn most
 mi:MeI x
 k:KI H x kn
 al:ad.length<=x.mallocs
 pk:x.sum<=x.peak/\x.peak=most
variable {Qa Qk:Rg}{addrs kns:Sl}{ad:List Int}{kn:List Kn}{most:Int}
theorem OF.fr (o:OF σ0 σ xb L H held s0 P mb am x Qa Qk addrs ad kns kn most)(e:Ext0 σ w):OF σ0 w xb L H held s0 P mb am x Qa Qk addrs ad kns kn most:=
 ⟨o.p.fr e,e.blk o.b id,aI.keep0 o.ra e,aI.keep0 o.rk e,o.xb1,λb a=>by have h:=o.qa b a;have:=e.1;exact⟨h.1,O,h.2.2⟩,λb a=>by have h:=o.qk b a;have:=e.1;exact⟨h.1,O,h.2.2⟩,o.qq⟩
theorem OF.upd (o:OF σ0 σ xb L H held s0 P mb am x Qa Qk addrs ad kns kn most){L':LayH}{held':List Pc}{s0':Sp}{P':Rg}(e:Ext (Md P mb am) σ w)(p':MP σ0 w L' H' held' s0' P' mb am y)(hL:L'.p=L.p)(hP:∀b,P' b->P b\/σ.size<=b) :
 OF σ0 w xb L' H' held' s0' P' mb am y Qa Qk addrs ad kns kn most:=by
 have D:=e.1;have j:=o.b.lt;obtain⟨B,m,s,r,C,A⟩:=o.xb1;have g:∀b,b<σ.size->¬P b->¬P' b:=λb E u z=>by
  rcases hP b z with h4|h4
  ·exact u h4
  ·omega
 refine⟨p',?_,aI.keep o.ra e λb _ d a=>?_,aI.keep o.rk e λb _ d a=>?_,⟨B,g _ j m,s,r,C,A⟩,λb i=>?_,λb i=>?_,o.qq⟩
 ·rw[hL];exact e.blk o.b λa=>by
   rcases a with a|a|a
   ·exact m a
   ·exact s a
   ·exact r a
 ·have h:=o.qa b d;rcases a with a|a|a
  ·exact h.2.2.1 a
  ·exact h.2.2.2.1 a
  ·exact h.2.2.2.2 a
 ·have h:=o.qk b d;rcases a with a|a|a
  ·exact h.2.2.1 a
  ·exact h.2.2.2.1 a
  ·exact h.2.2.2.2 a
 ·have h:=o.qa b i;exact⟨h.1,O,g b h.2.1 h.2.2.1,h.2.2.2⟩
 ·have h:=o.qk b i;exact⟨h.1,O,g b h.2.1 h.2.2.1,h.2.2.2⟩
theorem OF.setA (o:OF σ0 σ xb L H held s0 P mb am x Qa Qk addrs ad kns kn most){s':Sl}{ad':List Int}(e:Ext Qa σ w)(hr:RowR s' 1 (Wv ad') w λb=>Qa b\/σ.size<=b/\b<w.size){K:aP}
 (hK:∀u,Ext (· = xb) w u->OF σ0 u xb L H held s0 P mb am x (λb=>Qa b\/σ.size<=b/\b<w.size) Qk s' ad' kns kn most->K u):St1 (Addr.add ⟨xb,0,none⟩ 2) (.slice s'.a s'.len s'.cap) w K:=by
 have U:=e.1;have M:=o.b.lt;obtain⟨C,D,B,A,s,E⟩:=o.xb1;have r:=o.p.out e λb _ d=>by have h:=o.qa b d;exact⟨h.2.2.1,h.2.2.2.1,h.2.2.2.2,h.1⟩
 have y:=aI.keep o.rk e λb _ i G=>o.qq b G i;refine(e.blk o.b s).s1 (by simp[oneV]) λu z b=>?_;have j:=z.ext;have F:=z.1;have Q:=r.b.lt;have N:=r.m.lt;refine hK u j ⟨r.out j λb _ (d:b=xb)=>by subst d;exact⟨D,B,A,C⟩,b,aI.keep hr j λb _ g (d:b=xb)=>?_,aI.keep y j λb _ g (d:b=xb)=>E (d▸g),⟨C,D,B,A,?_,E⟩,λb d=>?_,λb d=>by have h:=o.qk b d;exact⟨h.1,O,h.2.2⟩,λb d i=>?_⟩
 ·subst d;rcases g with g|g
  ·exact s g
  ·omega
 ·rintro(g|g)
  ·exact s g
  ·omega
 ·rcases d with d|d
  ·have h:=o.qa b d;exact⟨h.1,O,h.2.2⟩
  ·have:=o.p.e.1;have S:=o.p.b.lt;have R:=o.p.m.lt;exact⟨O,O,λJ=>by have:=(o.p.pP b J).2;omega,O,O⟩
 ·rcases d with d|d
  ·exact o.qq b d i
  ·have:=(o.qk b i).2.1;omega
theorem OF.setK (o:OF σ0 σ xb L H held s0 P mb am x Qa Qk addrs ad kns kn most){s':Sl}{kn':List Kn}(e:Ext Qk σ w)(hr:RowR s' 3 (v3s kn') w λb=>Qk b\/σ.size<=b/\b<w.size){K:aP}
 (hK:∀u,Ext (· = xb) w u->OF σ0 u xb L H held s0 P mb am x Qa (λb=>Qk b\/σ.size<=b/\b<w.size) addrs ad s' kn' most->K u):St1 (Addr.add ⟨xb,0,none⟩ 3) (.slice s'.a s'.len s'.cap) w K:=by
 have R:=e.1;have J:=o.b.lt;obtain⟨B,C,A,z,D,s⟩:=o.xb1;have M:=o.p.out e λb _ d=>by have h:=o.qk b d;exact⟨h.2.2.1,h.2.2.2.1,h.2.2.2.2,h.1⟩
 have r:=aI.keep o.ra e λb _ F i=>o.qq b F i;refine(e.blk o.b s).s1 (by simp[oneV]) λu y b=>?_;have j:=y.ext;have E:=y.1;refine hK u j ⟨M.out j λb _ (d:b=xb)=>by subst d;exact⟨C,A,z,B⟩,b,aI.keep r j λb _ g (d:b=xb)=>D (d▸g),aI.keep hr j λb _ g (d:b=xb)=>?_,⟨B,C,A,z,D,?_⟩,λb d=>by have h:=o.qa b d;exact⟨h.1,O,h.2.2⟩,λb d=>?_,λb d i=>?_⟩
 ·subst d;rcases g with g|g
  ·exact s g
  ·omega
 ·rintro(g|g)
  ·exact s g
  ·omega
 ·rcases d with d|d
  ·have h:=o.qk b d;exact⟨h.1,O,h.2.2⟩
  ·have:=o.p.e.1;have Q:=o.p.b.lt;have N:=o.p.m.lt;exact⟨O,O,λG=>by have:=(o.p.pP b G).2;omega,O,O⟩
 ·rcases i with i|i
  ·exact o.qq b d i
  ·have:=(o.qa b d).2.1;omega
theorem OF.setM (o:OF σ0 σ xb L H held s0 P mb am x Qa Qk addrs ad kns kn most)(most':Int){K:aP}(hK:∀u,Ext (· = xb) σ u->OF σ0 u xb L H held s0 P mb am x Qa Qk addrs ad kns kn most'->K u):St1 (Addr.add ⟨xb,0,none⟩ 4) (.int .i64 most') σ K:=by
 obtain⟨w,j,s,r,y,m⟩:=o.xb1;refine o.b.s1 (by simp[oneV]) λu g b=>?_;have d:=g.ext;have i:=g.1;exact hK u d ⟨o.p.out d λb _ (a:b=xb)=>by subst a;exact⟨j,s,r,w⟩,b,aI.keep o.ra d λb _ e (a:b=xb)=>y (a▸e),aI.keep o.rk d λb _ e (a:b=xb)=>m (a▸e),o.xb1,λb a=>by have h:=o.qa b a;exact⟨h.1,O,h.2.2⟩,λb a=>by have h:=o.qk b a;exact⟨h.1,O,h.2.2⟩,o.qq⟩
def Wca (kn:List Kn):Int:=(kn.map λk=>k.2.1).sum
theorem WmH {s:Sl}{l:List T3}(hs:SlR s 3 (v3s l) σ F){i:Nat}{r:T3}(hb:l[i]?=some r){K:Addr->Prop}(hK:∀bb o,(∀(j:Nat) v,(v3 r)[j]?=some v->cell σ ⟨bb,o+j,none⟩=some v)->K ⟨bb,o,none⟩):Ix s.a s.len (i:Int) 3 K:=by
 have p:=(gSi.1 hb).1;have x:s.len=l.length:=by have:=hs.1;rw[Ug]at this;omega
 obtain⟨b,o,e,_⟩:=hs.cell (j:=i*3+0) (v:=.int .i64 r.1) ((Gm hb O).trans rfl);rw[e];refine ix O O ?_;rw[add_lit];refine hK b _ λj v g=>?_;have u:j<3:=(gSi.1 g).1;obtain⟨y,w,d,m⟩:=hs.cell ((Gm hb u).trans g);rw[e]at d;cases d;rw[show o+(i:Int).toNat*3+j=o+(i*3+j) by omega];exact m
theorem Wlk {hp:Nat}(hb:Blk σ xb (oneV hp mb addrs kns most))(hs:SlR kns 3 (v3s kn) σ F)(hl:kn.length<=1000)(ha:∀k∈kn,0<=k.2.1/\k.2.1<=16384){R:aN}(hR:R (Wca kn) σ):WN.c (aW xb) σ R:=by
 refine WN.o ?_;unfold WN.v;have s:kns.len=kn.length:=by have:=hs.1;rw[Ug]at this;omega
 refine Ko (a:=bN) (bb:=bN) (λ(sum i:Int) w=>w=σ/\∃k:Nat,i=k/\k<=kn.length/\sum=Wca (kn.take k)) (λ_ i _=>kn.length-i.toNat) ⟨rfl,0,rfl,O,by simp[Wca]⟩ ?_;rintro(sum:Int) (i:Int) w ⟨rfl,k,rfl,hk,rfl⟩;refine nilP (hb.rS rfl (ifD (λg=>?_) λj=>?_))
 ·have x:k<kn.length:=by simp only at g;omega
  have d:kn[k]?=some kn[k]:=gGe _;generalize kn[k]=r at d;have A:=ha r (zE d);have y:=U9 (l:=kn.take k) (f:=λk:Kn=>k.2.1) (c:=16384) λb h=>ha b (zAY h);have z:(kn.take k).length=k:=by rw[zO];omega
  have p:Wca (kn.take (k+1))=Wca (kn.take k)+r.2.1:=by unfold Wca;rw[zh,d];simp
  have B:Wca (kn.take k)=((kn.take k).map λk:Kn=>k.2.1).sum:=rfl;refine nilP (hb.rS rfl (WmH hs d λbb o u=>ldI0 (u 1 _ rfl) (ar O O (arN (m:=k+1) O O ⟨⟨rfl,k+1,rfl,O,p.symm⟩,O⟩))))
 ·have e:k=kn.length:=by simp only at j;omega
  subst e;rw[zl];exact hR
end Go.Ar
namespace Go.Ar
open Go Go.Vc Go.Proofs
open Go.Vc (mget mset mdel)
variable {H H':Hw}{x y:Me}{kn:List Kn}{a size align e:Int}{D:Nat}
theorem UH {α β:Type}(l:List (Int×α))(f:Int×α->Int×β)(hf:∀z∈l,(f z).1=z.1)(n:Int):(mdel l n).map f=mdel (l.map f) n:=by
 unfold mdel
 induction l with
 | nil=>rfl
 | cons z l ih=>
  have d:=hf z zAP;have b:=ih λz a=>hf z (zAM _ a);simp only[zJ,zCK,d];by_cases a:z.1=n
  ·simp[a,b]
  ·simp[a,b]
theorem KI.fresh (k:KI H x kn)(h:mget H.live a=none):mget x.asked a=none:=by
 rw[k.asked];refine(Wdr ?_ a).1 h;rw[k.addr,zAC];rfl
theorem KI.mal (k:KI H x kn)(ht:H'.tb=H.tb)(me:MalE H size align H' a e):(e=0->KI H' (x.mal a size e D) (kn++[(a,size,align)]))/\(e≠0->KI H' (x.mal a size e D) kn):=by
 refine⟨λd=>?_,λd=>?_⟩
 ·rcases me with⟨h1,_⟩|⟨_,hm,hok,cl,m,hcl⟩
  ·exact absurd d h1
  ·have b:=k.fresh hm;have p:x.forget a=x:=by unfold Me.forget;rw[Hk b,b];simp
   have g:(x.mal a size e D).asked=x.asked++[(a,size)]/\(x.mal a size e D).mallocs=x.mallocs+1/\(x.mal a size e D).frees=x.frees:=by
    unfold Me.mal;rw[zB d,p];unfold Me.count Me.add Me.tops;rw[zB d,zB rfl];exact⟨Wcu b _,rfl,rfl⟩
   refine⟨?_,?_,λq i=>?_,?_⟩
   ·rw[g.1,k.asked];simp
   ·rw[m,Wcu hm,zAD,zAD,k.live,ht]
    congr 1
    simp only[zJ,zCC,knE]
    congr 3
    unfold clsI;rcases hcl with⟨j,rfl,hj⟩|⟨rfl,hj⟩<;>rw[hj]
   ·rcases zR.1 i with i|i
    ·exact k.arg q i
    ·rw[zV]at i;subst i;exact⟨hok.1,hok.2.1,hok.2.2⟩
   ·rw[g.2.1,g.2.2,k.cnt,zK,zDN];omega
 ·have m:H'.live=H.live:=by
   rcases me with⟨_,_,h⟩|⟨h,_⟩
   ·exact h
   ·exact absurd h d
  have g:(x.mal a size e D).asked=x.asked/\(x.mal a size e D).mallocs=x.mallocs/\(x.mal a size e D).frees=x.frees:=by
   unfold Me.mal;rw[zA d];unfold Me.count Me.tops;rw[zA d];exact⟨rfl,rfl,rfl⟩
  exact⟨g.1.trans k.asked,by rw[m,ht];exact k.live,k.arg,by rw[g.2.1,g.2.2];exact k.cnt⟩
theorem WfH {l:List (Int×Int)}{n v:Int}(hn:(l.map (·.1)).Nodup)(h:mget l n=some v):(l.map (·.2)).sum=v+((mdel l n).map (·.2)).sum/\l.length=(mdel l n).length+1:=by
 have a:=KU h;refine⟨Wd6 hn a,?_⟩;clear h;unfold mdel
 induction l with
 | nil=>simp at a
 | cons z l ih=>
  simp only[zJ,zo]at hn;rcases zQ.1 a with h1|h1
  ·subst h1;have:l.filter (λy=>!(y.1==n))=l:=by
    rw[zBK];intro y hy;have:y.1≠n:=λe=>hn.1 (zC.2 ⟨y,hy,e⟩);simpa using this
   rw[zDL aA,this];rfl
  ·have b:z.1≠n:=λe=>hn.1 (zC.2 ⟨_,h1,e.symm⟩);rw[zDM (by simpa using b),zP,zP,ih hn.2 h1]
theorem WoC (k:KI H x kn)(ht:H'.tb=H.tb)(he:e=0)(hl:H'.live=mdel H.live a){b:Bk}(hm:mget H.live a=some b)(hn:(H.live.map (·.1)).Nodup):KI H' (x.fre a e D) (kn.filter λq=>!(q.1==a))/\(∃v,mget x.asked a=some v)/\kn.length=(kn.filter λq=>!(q.1==a)).length+1:=by
 have m:(x.fre a e D).asked=mdel x.asked a/\(x.fre a e D).mallocs=x.mallocs/\(x.fre a e D).frees=x.frees+1:=by
  unfold Me.fre;rw[zB he];unfold Me.count Me.forget Me.tops;rw[zB he,zA aB];exact⟨rfl,rfl,rfl⟩
 have g:x.asked.map (·.1)=H.live.map (·.1):=by rw[k.asked,k.addr,zAC];rfl
 obtain⟨v,p⟩:∃v,mget x.asked a=some v:=by
  cases h:mget x.asked a with
  | none=>rw[(Wdr g a).1 h]at hm;cases hm
  | some v=>exact⟨v,rfl⟩
 have d:=(WfH (by rw[g];exact hn) p).2;have i:mdel x.asked a=(kn.filter λq=>!(q.1==a)).map λq=>(q.1,q.2.1):=by
  rw[k.asked];exact(UH kn (λq=>(q.1,q.2.1)) (λ_ _=>rfl) a).symm
 have j:kn.length=(kn.filter λq=>!(q.1==a)).length+1:=by
  rw[i,za]at d;rw[←d,k.asked,za]
 refine⟨⟨m.1.trans i,?_,λq r=>k.arg q (zH.1 r).1,?_⟩,⟨v,p⟩,j⟩
 ·rw[hl,ht,UH H.live (λe=>(e.1,e.2.2.1,e.2.2.2.1)) (λ_ _=>rfl) a,k.live];exact(UH kn (knE H.tb) (λ_ _=>rfl) a).symm
 ·rw[m.2.1,m.2.2,k.cnt,j];omega
theorem KI.fre_bad (k:KI H x kn)(ht:H'.tb=H.tb)(he:e≠0)(hl:H'.live=H.live):KI H' (x.fre a e D) kn:=by
 have b:(x.fre a e D).asked=x.asked/\(x.fre a e D).mallocs=x.mallocs/\(x.fre a e D).frees=x.frees:=by
  unfold Me.fre;rw[zA he];unfold Me.count Me.tops;rw[zA he];exact⟨rfl,rfl,rfl⟩
 exact⟨b.1.trans k.asked,by rw[hl,ht];exact k.live,k.arg,by rw[b.2.1,b.2.2];exact k.cnt⟩
theorem MeI.fre (mi:MeI x)(hn:(x.asked.map (·.1)).Nodup)(hv:e=0->∃v,mget x.asked a=some v)(hc:x.calls<=899)(hD:D<=128):MeI (x.fre a e D):=by
 unfold Me.calls at hc;refine MeI.tops ?_ hD;by_cases he:e=0
 ·rw[zB he];obtain⟨v,hv⟩:=hv he;have g:=WfH hn hv;unfold Me.count Me.forget;rw[zB he,zA aB];refine⟨λy b=>mi.v y (zH.1 b).1,?_,?_,mi.p,mi.d,?_⟩
  ·have:=mi.l;simp only;omega
  ·have:=mi.s;simp only[hv,zBU];omega
  ·unfold Me.calls;simp only;omega
 ·rw[zA he];unfold Me.count;rw[zA he];exact⟨mi.v,mi.l,mi.s,mi.p,mi.d,by unfold Me.calls;simp only;omega⟩
end Go.Ar
namespace Go.Ar
open Go Go.Vc Go.Proofs
open Go.Vc (mget mset mdel)
variable {σ σ0 v w w':Hp}{F G P Q X T:Rg}{L:LayH}{H H':Hw}{held:List Pc}{s0:Sp}{t n:Nat}{g:Th}{mb am m xb:Nat}{x y:Me}{Qa Qk:Rg}{addrs kns:Sl}{ad:List Int}{kn:List Kn}{most:Int}
theorem rHS {S:aP}{b i:Nat}{cs:List Value}{c:CK}{y:c.T}(hS:∀m,S m->Blk m b cs)(hc:cs[i]?=some (c.v y)){K:c.T->Prop}(hK:K y):LdH S c (Addr.add ⟨b,0,none⟩ i) K:=
 ⟨y,λm a=>by rw[add_lit,(hS m a).cell,zG];exact hc,hK⟩
theorem Wo2 {S:aP}(hr:RowR kns 3 (v3s kn) σ Q)(hl:kn.length<=1000)(k:Kn)(hS0:∀u,Ext0 σ u->S u){e t:Nat}{K:Sl->Hp->Prop}
 (hK:∀s' w,Ext Q σ w->RowR s' 3 (v3s (kn++[k])) w (λb=>Q b\/σ.size<=b/\b<w.size)->S w/\K s' w) :
 Nw (.cells #[.int .i64 k.1,.int .i64 k.2.1,.int .i64 k.2.2] t (0,0)) σ λn v=>And (S v)<|App kns 3 24 e [.int .i64 0,.int .i64 0,.int .i64 0] ⟨some n,1,1⟩ v λs' w=>And (S w)<|K s' w:=by
 have p:kns.len=kn.length:=by have:=hr.1;rw[Ug]at this;omega
 refine nw (cs:=v3 k) λv x a i=>⟨hS0 v a,?_⟩;have d:=aI.keep0 hr a;refine d.app (ys:=v3 k) rfl (by simp[v3]) ?_ (by simp[v3,one1]) ?_ ?_ zBG λs' h' m z g=>?_
 ·intro j u hu;rw[add_lit,zG,i.cell];exact hu
 ·simp only;omega
 ·simp only;omega
 ·have y:Ext Q σ h':=a.to.trans z;refine hK s' h' y ?_;rw[Wcd];refine aI.mono (aI.cut g) λb s r=>?_;rcases r.1 with h1|h1
  ·exact .inl h1
  ·exact .inr ⟨O,s⟩
structure Post (d:Deed) (x y:Me) (H':Hw):Prop where
 calls:y.calls=x.calls+(if d.kd=120\/d.kd=121 then 1 else 0)
 peak:x.peak<=y.peak
 dirty:x.dirty<=y.dirty
 dd:d.kd=120\/d.kd=121->(H'.sp.st.count 2:Int)*256<=y.dirty
theorem WcO (x:Me)(D:Int):x.peak<=(x.tops D).peak/\x.sum<=(x.tops D).peak/\x.dirty<=(x.tops D).dirty/\D*256<=(x.tops D).dirty/\(x.tops D).peak=(if x.sum>x.peak then x.sum else x.peak)/\(x.tops D).calls=x.calls/\(x.tops D).sum=x.sum:=by
 unfold Me.tops Me.calls;refine⟨?_,?_,?_,?_,rfl,rfl,rfl⟩<;>simp only<;>split<;>omega
theorem Wad (x:Me)(e:Int)(mal:Bool):(x.count e mal).calls=x.calls+1/\(x.count e mal).peak=x.peak/\(x.count e mal).dirty=x.dirty/\(x.count e mal).sum=x.sum:=by
 unfold Me.count Me.calls;split
 ·split
  ·exact⟨by simp only;omega,rfl,rfl,rfl⟩
  ·exact⟨by simp only;omega,rfl,rfl,rfl⟩
 ·exact⟨by simp only;omega,rfl,rfl,rfl⟩
theorem Wkw {d:Deed}(hd:d.kd=120)(x:Me)(a size e:Int):Post d x (x.mal a size e (H'.sp.st.count 2)) H':=by
 have b:=WcO ((if e=0 then(x.forget a).add a size else x).count e true) (H'.sp.st.count 2:Nat)
 have i:=Wad (if e=0 then(x.forget a).add a size else x) e true
 have g:(if e=0 then(x.forget a).add a size else x).calls=x.calls/\(if e=0 then(x.forget a).add a size else x).peak=x.peak/\(if e=0 then(x.forget a).add a size else x).dirty=x.dirty:=by
  split<;>exact⟨rfl,rfl,rfl⟩
 refine⟨?_,?_,?_,λ_=>b.2.2.2.1⟩
 ·rw[zB (.inl hd)];show(Me.tops _ _).calls=_;omega
 ·show x.peak<=(Me.tops _ _).peak;omega
 ·show x.dirty<=(Me.tops _ _).dirty;omega
theorem Wlp {d:Deed}(hd:d.kd=121)(x:Me)(a e:Int):Post d x (x.fre a e (H'.sp.st.count 2)) H':=by
 have b:=WcO ((if e=0 then x.forget a else x).count e false) (H'.sp.st.count 2:Nat)
 have i:=Wad (if e=0 then x.forget a else x) e false
 have g:(if e=0 then x.forget a else x).calls=x.calls/\(if e=0 then x.forget a else x).peak=x.peak/\(if e=0 then x.forget a else x).dirty=x.dirty:=by
  split<;>exact⟨rfl,rfl,rfl⟩
 refine⟨?_,?_,?_,λ_=>b.2.2.2.1⟩
 ·rw[zB (.inr hd)];show(Me.tops _ _).calls=_;omega
 ·show x.peak<=(Me.tops _ _).peak;omega
 ·show x.dirty<=(Me.tops _ _).dirty;omega
theorem OP.fr (o:OP σ0 σ xb L H held s0 P mb am x Qa Qk addrs ad kns kn most)(e:Ext0 σ w):OP σ0 w xb L H held s0 P mb am x Qa Qk addrs ad kns kn most:=⟨o.f.fr e,o.mi,o.k,o.al,o.pk⟩
theorem MP.cnt2 (p:MP σ0 σ L H held s0 P mb am x):H.sp.st.count 2<=128:=by
 have b:=zEG (a:=2) (l:=H.sp.st);have e:=p.hi.sl;have d:=p.pg;omega
def Tch (P:Rg)(mb am xb:Nat)(Qa Qk:Rg):Rg:=λb=>Md P mb am b\/b=xb\/Qa b\/Qk b
theorem Wc5 {P P' Qa Qa' Qk Qk':Rg}{n:Nat}(hP:∀b,P' b->P b\/n<=b)(hA:∀b,Qa' b->Qa b\/n<=b)(hK:∀b,Qk' b->Qk b\/n<=b):∀b,Tch P' mb am xb Qa' Qk' b->Tch P mb am xb Qa Qk b\/n<=b:=by
 rintro b ((h|h|h)|h|h|h)
 ·exact(hP b h).imp (λh=>.inl (.inl h)) id
 ·exact .inl (.inl (.inr (.inl h)))
 ·exact .inl (.inl (.inr (.inr h)))
 ·exact .inl (.inr (.inl h))
 ·exact(hA b h).imp (λh=>.inr (.inr (.inl h))) id
 ·exact(hK b h).imp (λh=>.inr (.inr (.inr h))) id
set_option maxRecDepth 16000 in
theorem WfJ (o:OP σ0 σ xb L H held s0 P mb am x Qa Qk addrs ad kns kn most)(gc:Gc σ0)(hc:x.calls<=899)(d:Deed)(di:DeedI d){R:aN}
 (hR:∀e w L' H' held' s0' P' y Qa' Qk' addrs' ad' kns' kn' most',OP σ0 w xb L' H' held' s0' P' mb am y Qa' Qk' addrs' ad' kns' kn' most'->L'.p=L.p->Z9 H' H->Post d x y H'->Ext (Tch P mb am xb Qa Qk) σ w/\(∀b,Tch P' mb am xb Qa' Qk' b->Tch P mb am xb Qa Qk b\/σ.size<=b)->R e w) :
 Xa.c (aW xb) d.kd d.th d.a d.b d.of d.pl d.va d.s σ R:=by
 refine Xa.o ?_;unfold Xa.v;have tM:∀{u u':Hp},Ext (Md P mb am) u u'->Ext (Tch P mb am xb Qa Qk) u u':=λe=>e.sub λb z=>.inl z;have tX:∀{u u':Hp},Ext (· = xb) u u'->Ext (Tch P mb am xb Qa Qk) u u':=λe=>e.sub λb z=>.inr (.inl z);have tA:∀{u u':Hp},Ext Qa u u'->Ext (Tch P mb am xb Qa Qk) u u':=λe=>e.sub λb z=>.inr (.inr (.inl z));have tK:∀{u u':Hp},Ext Qk u u'->Ext (Tch P mb am xb Qa Qk) u u':=λe=>e.sub λb z=>.inr (.inr (.inr z));have hxb:=o.f.b.lt;have hmb:=o.f.p.b.lt;have ham:=o.f.p.m.lt;have h00:=o.f.p.e.1;refine nw (cs:=Wbg d) λv hz e z=>nilP ((o.f.fr e).b.rS rfl (z.rI rfl (z.rI rfl (z.rI rfl (z.rI rfl (z.rI rfl (z.rI rfl (z.rI rfl (z.rT rfl ?_)))))))));have o1:=o.f.fr e;refine Woj (RowR.slR o1.ra) d λv1 M=>?_;have o2:=o1.fr M;have X:σ.size<=v1.size:=(e.trans M).1;have A:=M.blk z id;have hat:=Wok (ad:=ad) di;generalize hx:atV ad d=ax at hat;have hkl:kn.length<=900:=by have U:=o.k.cnt;have V:=o.mi.c;unfold Me.calls at V;omega
 have hal:ad.length<=900:=by have U:=o.al;have V:=o.mi.c;unfold Me.calls at V;omega
 have hnM:¬Md P mb am σ.size:=λE=>by
  rcases E with E|E|E
  ·have:=(o.f.p.pP _ E).2;omega
  ·omega
  ·omega
 refine A.rI rfl (iff_ (λhk=>?_) λhk0=>?_)
 ·have N:d.kd=120:=by simpa using hk
  refine⟨λm=>Ext0 v1 m,Ext.refl _ _,nilP (Blk.rH (c:=.p) (y:=some ⟨mb,0,none⟩) o2.b rfl (Blk.rH (c:=bN) (y:=d.th) A rfl (Blk.rH (c:=bN) (y:=d.a) A rfl (Blk.rH (c:=bN) (y:=d.b) A rfl ?_))))⟩;refine WbO o2.p o.mi hc d.th d.a d.b λa j w ts H' held' s0' P' G p3 K kp me hw=>?_;have o3:=o2.upd G p3 rfl K;have hb3:=G.blk A hnM;have W:=Wkw (H':=H') N x a d.a j;obtain⟨km1,km2⟩:=o.k.mal (D:=H'.sp.st.count 2) kp.1 me;have Q:=p3.cnt2;refine iff_ (λh0=>?_) λh0=>?_
  ·have g:j=0:=by simpa using h0
   have hfr:mget x.asked a=none/\1<=d.a/\d.a<=16384:=by
    rcases me with⟨B,_⟩|⟨_,B,U,_⟩
    ·exact absurd g B
    ·exact⟨o.k.fresh B,U.1,U.2.1⟩
   have C:=o.mi.mal (size:=d.a) (e:=j) hfr.1 hc O (λ_=>hfr.2.2) Q;have hmc:(x.mal a d.a j (H'.sp.st.count 2)).mallocs=x.mallocs+1:=by
    unfold Me.mal Me.count Me.tops;rw[zB g,zB g,zB rfl];rfl
   refine nilP (o3.b.rS rfl (WoZ o3.ra O a λs' u1 e4 hr4=>nilP (o3.setA e4 hr4 λu2 e5 o5=>?_)));have hb5:Blk u2 σ.size (Wbg d):=e5.blk (e4.blk hb3 λhq=>by have:=(o.f.qa _ hq).2.1;omega) λ(hx:σ.size=xb)=>by omega
   refine⟨λm=>Blk m xb (oneV _ mb s' kns most)/\Blk m σ.size (Wbg d),⟨o5.b,hb5⟩,nilP (rHS (c:=.s) (y:=kns) (λm E=>E.1) rfl (rHS (c:=bN) (y:=d.a) (λm E=>E.2) rfl (rHS (c:=bN) (y:=d.b) (λm E=>E.2) rfl ?_)))⟩;refine Wo2 o5.rk O (a,d.a,d.b) (λu Y=>⟨Y.blk o5.b id,Y.blk hb5 id⟩) λs2 u3 e6 hr6=>⟨⟨e6.blk o5.b o5.xb1.2.2.2.2.2,e6.blk hb5 λhq=>?_⟩,nilP (o5.setK e6 hr6 λu4 e7 o7=>?_)⟩
   ·have:=(o.f.qk _ hq).2.1;omega
   have kk:=km1 g;have hsum:(x.mal a d.a j (H'.sp.st.count 2)).sum=Wca (kn++[(a,d.a,d.b)]):=by
    rw[C.s,kk.asked];unfold Wca;rw[zAC];rfl
   refine⟨λm=>Ext0 u4 m,Ext.refl _ _,nilP (Blk.rH (c:=bN) (y:=most) o7.b rfl (Wlk o7.b (RowR.slR o7.rk) (by rw[zK,zDN];omega) (λq hq=>by have:=kk.arg q hq;omega) ⟨Ext.refl _ _,nilP (o7.setM _ λu5 e8 o8=>?_)⟩))⟩;refine hR j u5 _ H' held' s0' P' _ _ _ _ _ _ _ _ ⟨o8,C,kk,?_,?_⟩ rfl kp W ⟨((((((Ext0.to (e.trans M)).trans (tM G)).trans (tA e4)).trans (tX e5)).trans (tK e6)).trans (tX e7) |>.trans (tX e8)),Wc5 (λb h=>(K b h).imp id λh=>zI X h) (λb h=>h.imp id λh=>zI (zI X G.1) h.1) (λb h=>h.imp id λh=>zI (zI (zI (zI X G.1) e4.1) e5.1) h.1)⟩
   ·rw[zK,zDN,hmc];have:=o.al;omega
   ·have B:=WcO ((if j=0 then(x.forget a).add a d.a else x).count j true) (H'.sp.st.count 2:Nat)
    have U:=Wad (if j=0 then(x.forget a).add a d.a else x) j true
    have V:(if j=0 then(x.forget a).add a d.a else x).peak=x.peak:=by split<;>rfl
    have h4:=o.pk;have M:(x.mal a d.a j (H'.sp.st.count 2)).peak=(Me.tops ((if j=0 then(x.forget a).add a d.a else x).count j true) (H'.sp.st.count 2:Nat)).peak:=rfl
    have e2:(x.mal a d.a j (H'.sp.st.count 2)).sum=(Me.tops ((if j=0 then(x.forget a).add a d.a else x).count j true) (H'.sp.st.count 2:Nat)).sum:=rfl
    refine⟨O,?_⟩;rw[←hsum,M,B.2.2.2.2.1,U.2.1,V,h4.2,e2,B.2.2.2.2.2.2]
  ·have g:j≠0:=by simpa using h0
   have C:MeI (x.mal a d.a j (H'.sp.st.count 2)):=by
    have B:x.mal a d.a j (H'.sp.st.count 2)=x.fre a j (H'.sp.st.count 2):=by
     unfold Me.mal Me.fre Me.count;rw[zA g,zA g,zA g,zA g]
    rw[B];exact o.mi.fre (o2.p.m.nodup) (λh=>absurd h g) hc Q
   have hmc:(x.mal a d.a j (H'.sp.st.count 2)).mallocs=x.mallocs:=by
    unfold Me.mal Me.count Me.tops;rw[zA g,zA g]
   refine hR j w _ H' held' s0' P' _ _ _ _ _ _ _ _ ⟨o3,C,km2 g,by rw[hmc];exact o.al,?_⟩ rfl kp W ⟨(Ext0.to (e.trans M)).trans (tM G),Wc5 (λb h=>(K b h).imp id λh=>zI X h) (λ_=>.inl) (λ_=>.inl)⟩;have h4:=o.pk;have h5:(x.mal a d.a j (H'.sp.st.count 2)).sum=x.sum:=by unfold Me.mal Me.count Me.tops;rw[zA g,zA g]
   have h6:(x.mal a d.a j (H'.sp.st.count 2)).peak=x.peak:=by
    unfold Me.mal Me.count Me.tops;rw[zA g,zA g];exact zA aC
   exact⟨by rw[h5,h6];exact h4.1,by rw[h6];exact h4.2⟩
 have k0:d.kd≠120:=by simpa using hk0
 refine iff_ (λhk=>?_) λhk1=>?_
 ·have N:d.kd=121:=by simpa using hk
  refine nilP (o2.b.rP rfl (A.rI rfl (Wk1 o2.p o.mi hc d.th ax hat.2 λj w ts H' held' s0' P' G p3 K kp fe=>?_)));have o3:=o2.upd G p3 rfl K;have W:=Wlp (H':=H') N x ax j;have Q:=p3.cnt2;refine iff_ (λh0=>?_) λh0=>?_
  ·have g:j=0:=by simpa using h0
   obtain⟨b0,E,hlv⟩:∃b,mget H.live ax=some b/\H'.live=mdel H.live ax:=by
    rcases fe with⟨B,_⟩|⟨_,_,B,_⟩|⟨_,b,E,_,hl⟩
    ·exact absurd g B
    ·exact absurd g B
    ·exact⟨b,E,hl⟩
   obtain⟨kk,hv,hlen⟩:=WoC (D:=H'.sp.st.count 2) o.k kp.1 g hlv E o2.p.hi.lk;have C:=o.mi.fre (e:=j) (D:=H'.sp.st.count 2) o2.p.m.nodup (λ_=>hv) hc Q;refine Ko (a:=.s) (bb:=bN) (λ(l:Sl) (i:Int) u=>∃k:Nat,i=k/\k<=kn.length/\Ext (λb=>w.size<=b) w u/\RowR l 3 (v3s ((kn.take k).filter λq=>!(q.1==ax))) u (λb=>w.size<=b)) (λ_ i _=>kn.length-i.toNat) ⟨0,rfl,O,Ext.refl _ _,⟨rfl,.inl ⟨rfl,rfl⟩⟩⟩ ?_;rintro(l:Sl) (i:Int) u ⟨k,rfl,hk,Y,hl⟩;have Z:Ext0 w u:=⟨Y.1,λb z _=>Y.2 b z O⟩;have ou:=o3.fr Z;have hknl:kns.len=kn.length:=by have:=ou.rk.1;rw[Ug]at this;omega
   have hll:l.len<=k:=by
    have B:((kn.take k).filter λq:Kn=>!(q.1==ax)).length*3=l.len*3:=by have:=hl.1;rw[Ug]at this;exact this
    have U:=zBA (λq:Kn=>!(q.1==ax)) (kn.take k);rw[zO,zCD hk]at U;omega
   refine nilP (ou.b.rS rfl (ifD (λhlt=>?_) λhge=>?_))
   ·have hk':k<kn.length:=by simp only at hlt;omega
    have hg:kn[k]?=some kn[k]:=gGe _;generalize kn[k]=q at hg;have htk:kn.take (k+1)=kn.take k++[q]:=by rw[zh,hg];rfl
    refine nilP (ou.b.rS rfl (WmH (RowR.slR ou.rk) hg λbb o' S=>ldI0 (S 0 _ rfl) (iff_ (λhne=>?_) λheq=>?_)))
    ·have hne:¬q.1=ax:=by simpa using hne
     refine nilP (ou.b.rS rfl (WmH (RowR.slR ou.rk) hg λbb o' S=>ldI0 (S 0 _ rfl) (ldI0 (S 1 _ rfl) (ldI0 (S 2 _ rfl) ?_))));refine RowR.push (F:=λb=>w.size<=b) (vs:=v3 q) hl (λb z=>by have:=Y.1;show w.size<=b;omega) rfl rfl (by simp[v3,one1]) O O λs' u' hsl eu' hrow'=>?_;refine arN (m:=k+1) O O ⟨⟨k+1,rfl,O,Y.trans eu',?_⟩,O⟩;rw[htk,zEH,zDM (by simpa using hne),List.filter_nil,Wcd];exact hrow'
    ·have heq:q.1=ax:=by simpa using heq
     refine arN (m:=k+1) O O ⟨⟨k+1,rfl,O,Y,?_⟩,O⟩;rw[htk,zEH,zDL (by simp[heq]),List.filter_nil,zy];exact hl
   ·have hkk:k=kn.length:=by simp only at hge;omega
    subst hkk;rw[zl]at hl;refine nilP (o3.setK (Ext0.to Z) (aI.mono (aI.cut hl) λb _ z=>.inr ⟨z.1,z.2⟩) λu2 e9 o4=>?_);refine hR j u2 _ H' held' s0' P' _ _ _ _ _ _ _ _ ⟨o4,C,kk,?_,?_⟩ rfl kp W ⟨(((Ext0.to (e.trans M)).trans (tM G)).trans (Ext0.to Z)).trans (tX e9),Wc5 (λb h=>(K b h).imp id λh=>zI X h) (λ_=>.inl) (λb h=>h.imp id λh=>zI (zI X G.1) h.1)⟩
    ·have:(x.fre ax j (H'.sp.st.count 2)).mallocs=x.mallocs:=by
      unfold Me.fre Me.count Me.tops;rw[zB g,zB g,zA aB];rfl
     rw[this];exact o.al
    ·have h4:=o.pk;obtain⟨vv,hvv⟩:=hv;have hvr:=o.mi.v _ (KU hvv);have h5:(x.fre ax j (H'.sp.st.count 2)).sum=x.sum-vv:=by
      unfold Me.fre Me.count Me.tops;rw[zB g,zB g,zA aB];unfold Me.forget;rw[hvv];rfl
     have B:=WcO ((if j=0 then x.forget ax else x).count j false) (H'.sp.st.count 2:Nat)
     have U:=Wad (if j=0 then x.forget ax else x) j false
     have V:(if j=0 then x.forget ax else x).peak=x.peak:=by split<;>rfl
     have h6:(x.fre ax j (H'.sp.st.count 2)).peak=(Me.tops ((if j=0 then x.forget ax else x).count j false) (H'.sp.st.count 2:Nat)).peak:=rfl
     have h7:(x.fre ax j (H'.sp.st.count 2)).sum=(Me.tops ((if j=0 then x.forget ax else x).count j false) (H'.sp.st.count 2:Nat)).sum:=rfl
     have h8:(x.fre ax j (H'.sp.st.count 2)).peak=x.peak:=by
      rw[h6,B.2.2.2.2.1,U.2.1,V];have:((if j=0 then x.forget ax else x).count j false).sum=x.sum-vv:=by rw[←B.2.2.2.2.2.2,←h7];exact h5
      rw[this];exact zA (by simp only at hvr;omega)
     simp only at hvr;exact⟨by rw[h5,h8];omega,by rw[h8];exact h4.2⟩
  ·have g:j≠0:=by simpa using h0
   have hlv:H'.live=H.live:=by
    rcases fe with⟨_,B,_⟩|⟨_,_,_,B⟩|⟨_,b,_,B,_⟩
    ·rw[B]
    ·exact B
    ·exact absurd B g
   have C:=o.mi.fre (a:=ax) (e:=j) (D:=H'.sp.st.count 2) o2.p.m.nodup (λh=>absurd h g) hc Q;have hf:(x.fre ax j (H'.sp.st.count 2)).mallocs=x.mallocs/\(x.fre ax j (H'.sp.st.count 2)).sum=x.sum/\(x.fre ax j (H'.sp.st.count 2)).peak=x.peak:=by
    have h4:=o.pk;unfold Me.fre Me.count Me.tops;rw[zA g,zA g];exact⟨rfl,rfl,zA aC⟩
   exact hR j w _ H' held' s0' P' _ _ _ _ _ _ _ _ ⟨o3,C,o.k.fre_bad kp.1 g hlv,by rw[hf.1];exact o.al,by rw[hf.2.1,hf.2.2];exact o.pk⟩ rfl kp W ⟨(Ext0.to (e.trans M)).trans (tM G),Wc5 (λb h=>(K b h).imp id λh=>zI X h) (λ_=>.inl) (λ_=>.inl)⟩
 have k1:d.kd≠121:=by simpa using hk1
 have W:∀H',Post d x x H':=λH'=>⟨by rw[zA O];omega,zCH _,zCH _,λh=>O⟩;refine WkQ (λr w=>v1=w/\(r=true->d.kd=2\/d.kd=3\/d.kd=8\/d.kd=9\/d.kd=10)) (λr w ⟨hw,hr⟩=>?_) λJ hJ=>?_
 ·subst hw;refine iff_ (λht=>?_) λhf=>hR 0 v1 L H held s0 P x _ _ _ _ _ _ _ (o.fr (e.trans M)) rfl (Z9.refl _) (W H) ⟨Ext0.to (e.trans M),λ_=>.inl⟩;have N:=hr ht;refine⟨λm=>Ext0 v1 m,Ext.refl _ _,nilP (Blk.rH (c:=.p) (y:=some ⟨L.p,0,none⟩) o2.b rfl (nilP (Blk.rH (c:=.s) (y:=addrs) o2.b rfl (Blk.rH (c:=bN) (y:=d.kd) A rfl (Blk.rH (c:=bN) (y:=d.th) A rfl (Blk.rH (c:=bN) (y:=d.a) A rfl (Blk.rH (c:=bN) (y:=d.b) A rfl (Blk.rH (c:=bN) (y:=d.of) A rfl (Blk.rH (c:=bN) (y:=d.pl) A rfl (Blk.rH (c:=bN) (y:=d.va) A rfl (Blk.rH (c:=.str) (y:=d.s) A rfl ?_)))))))))))⟩;refine Do_q o2.p.h (gc.keep0 o2.p.e) o2.p.hi o2.p.cf (by have:=o2.p.pg;omega) (RowR.slR o2.ra) d di N λa' e' n' w ts H' G V dq=>?_;obtain⟨held',s0',hi'⟩:=dq.hi;have p3:=o2.p.step G V hi' dq.kp (dq.ph o2.p.ph);have o3:=o2.upd (G.sub λb z=>.inl z) p3 rfl λb z=>z.1;exact hR e' w _ H' held' s0' _ x _ _ _ _ _ _ _ ⟨o3,o.mi,o.k.same dq.live dq.kp.1,o.al,o.pk⟩ rfl dq.kp (W H') ⟨(Ext0.to (e.trans M)).trans (tM (G.sub λb z=>.inl z)),Wc5 (λb z=>z.1.imp id λh=>zI X h) (λ_=>.inl) (λ_=>.inl)⟩
 ·exact iff_ (λh=>hJ _ _ ⟨rfl,λ_=>.inl (by simpa using h)⟩) λ_=>iff_ (λh=>hJ _ _ ⟨rfl,λ_=>.inr (.inl (by simpa using h))⟩) λ_=>iff_ (λh=>hJ _ _ ⟨rfl,λ_=>.inr (.inr (.inl (by simpa using h)))⟩) λ_=>iff_ (λh=>hJ _ _ ⟨rfl,λ_=>.inr (.inr (.inr (.inl (by simpa using h))))⟩) λ_=>hJ _ _ ⟨rfl,λh=>.inr (.inr (.inr (.inr (by simpa using h))))⟩
end Go.Ar
namespace Go.Ar
open Go Go.Vc Go.Proofs
open Go.Vc (mget mset mdel)
variable {σ w w':Hp}{l:Sl}{ds:List Deed}
def isM (d:Deed):Bool:=d.kd==120||d.kd==121
theorem WoX (d:Deed):(if isM d=true then 1 else 0)=if d.kd=120\/d.kd=121 then 1 else 0:=by
 unfold isM;by_cases h1:d.kd=120
 ·simp[h1]
 ·by_cases h2:d.kd=121
  ·simp[h2]
  ·simp[h1,h2]
set_option maxRecDepth 8000 in
theorem Wjm (gl:Gl σ)(gc:Gc σ)(b b1 b2 b3 b4 b5:Int)(hd:Deeds σ l ds)(most:Int)(hmost:most<=60){R:Option Addr->Hp->Prop}(h0:∀σ',Ext0 σ σ'->R none σ')
 (h1:∀σ' xb L H held s0 P mb am x Qa Qk addrs ad kns kn mo,OP σ σ' xb L H held s0 P mb am x Qa Qk addrs ad kns kn mo->x.calls=ds.countP isM->(H.cf.pages:Int)=b1->ds.length<=60->R (some ⟨xb,0,none⟩) σ'):X7.c b b1 b2 b3 b4 b5 l most σ R:=by
 refine X7.o ?_;unfold X7.v;have hl:=hd.len;have hbig:=hd.big;refine nw (cs:=[.int .i64 b,.int .i64 b1,.int .i64 b2,.int .i64 b3,.int .i64 b4,.int .i64 b5]) λv hz e g=>g.rI rfl (g.rI rfl (g.rI rfl (g.rI rfl (g.rI rfl (g.rI rfl (WQ.o ?_))))));unfold WQ.v;refine nw (cs:=[.int .i64 b,.int .i64 b1,.int .i64 b2,.int .i64 b3,.int .i64 b4,.int .i64 b5]) λv1 G e1 Q=>Q.rI2 rfl ?_;have s:=e.trans e1;have j:=e1.blk g id;refine UP (λr w=>v1=w/\(r=false->b1<=128/\(ds.length:Int)<=most)) (λr w ⟨hw,hr⟩=>?_) λJ hJ=>ifD (λh=>hJ _ _ ⟨rfl,λh=>by cases h⟩) λh=>Wiu (hJ _ _ ⟨rfl,λh'=>by have:=zCR h';exact⟨O,O⟩⟩);subst hw;refine iff_ (λht=>h0 v1 s) λhf=>?_;obtain⟨hpg,hlm⟩:=hr hf;refine j.rI rfl (j.rI rfl (j.rI rfl (j.rI rfl (j.rI rfl (j.rI rfl ?_)))));refine Woi (gl.keep0 s) (gc.keep0 s).gd b b1 b2 b3 b4 b5 (λv2 Y=>ifT rfl (h0 v2 (s.trans Y))) λv2 L0 N H0 Y hsN hNv hh D=>ifF rfl ?_;have aa:=s.trans Y;refine Whb aa hh.cut D.hi D.cf D.ph (by have:=D.pg;omega) (λb g=>⟨by have:=s.1;have:N<=b:=g.1;omega,g.2⟩) (Wmv gl gc.gd) λw mb am e3 hm1 hm2 p=>JnB.intro (ifF rfl (ifF rfl ?_));refine nw (cs:=oneV L0.p mb ⟨none,0,0⟩ ⟨none,0,0⟩ 0) λw1 G e4 U=>?_;have p4:=p.fr e4;have hmb:=p.b.lt;have ham:=p.m.lt;have V:=p.e.1;have o4:OP σ w1 w.size L0 H0 [] (Vp H0.cf.pages) _ mb am me0 (λ_=>False) (λ_=>False) ⟨none,0,0⟩ [] ⟨none,0,0⟩ [] 0:=
  ⟨⟨p4,U,⟨rfl,.inl ⟨rfl,rfl⟩⟩,⟨rfl,.inl ⟨rfl,rfl⟩⟩,⟨V,λhP=>by have:=(p.pP _ hP).2;omega,O,O,id,id⟩,λb g=>g.elim,λb g=>g.elim,λb g=>g.elim⟩,WmM,⟨rfl,by rw[D.live];rfl,by simp,rfl⟩,by simp,by simp[me0]⟩
 refine ZS (a:=bN) (λ(z:Int) u=>∃(i:Nat) (L:LayH) (H:Hw) (held:List Pc) (s0:Sp) (P:Rg) (x:Me) (Qa Qk:Rg) (addrs:Sl) (ad:List Int) (kns:Sl) (kn:List Kn) (mo:Int),z=i/\i<=ds.length/\OP σ u w.size L H held s0 P mb am x Qa Qk addrs ad kns kn mo/\x.calls=(ds.take i).countP isM/\(H.cf.pages:Int)=b1) (λz _=>ds.length-z.toNat)
  ⟨0,L0,H0,_,_,_,_,_,_,_,_,_,_,_,rfl,O,o4,by simp[me0,Me.calls],D.pg⟩ ?_
 rintro(z:Int) u ⟨i,L,H,held,s0,P,x,Qa,Qk,addrs,ad,kns,kn,mo,rfl,hi,o,hcl,hpp⟩;refine ifD (λhlt=>?_) λhge=>?_
 ·have F:ds[i]?=some (ds[i]' O):=gGe _;generalize (ds[i]' O)=d at F;have X:=hd.i _ (zE F);have hle:(ds.take i).countP isM<=60:=by
   have h1:=zEE (p:=isM) (l:=ds.take i);rw[zO]at h1;omega
  refine hd.rd o.f.p.e F λba oa B=>ldI0 (B _ o.f.p.e 0 _ rfl) (ldI0 (B _ o.f.p.e 1 _ rfl) (ldI0 (B _ o.f.p.e 2 _ rfl) (ldI0 (B _ o.f.p.e 3 _ rfl) (ldI0 (B _ o.f.p.e 4 _ rfl) (ldI0 (B _ o.f.p.e 5 _ rfl) (ldI0 (B _ o.f.p.e 6 _ rfl) (ldT0 (B _ o.f.p.e 7 _ rfl) ?_)))))));refine WfJ o gc O d X λer u2 L' H' C M P' y Qa' Qk' A S E Z K o' hLp kp po _=>?_;refine arN (m:=i+1) O O ⟨⟨i+1,L',H',C,M,P',y,Qa',Qk',A,S,E,Z,K,rfl,O,o',?_,by rw[kp.2.1];exact hpp⟩,O⟩;rw[po.calls,hcl,←WoX,zh,F,zDQ];simp[zCI]
 ·have W:i=ds.length:=by omega
  subst W;rw[zl]at hcl;exact h1 u w.size L H held s0 P mb am x Qa Qk addrs ad kns kn mo o hcl hpp O
end Go.Ar
namespace Go.Proofs
open Go.Vc
set_option maxRecDepth 100000
end Go.Proofs
namespace Go.Ar
open Go Go.Vc Go.Proofs
open Go.Vc (mget mset mdel)
variable {σ w w':Hp}{l:Sl}{ds:List Deed}
end Go.Ar
namespace Go.Ar
open Go Go.Vc Go.Proofs
open Go.Vc (mget mset mdel)
variable {σ v w w':Hp}{F:Rg}{tb:List Cls}{asked:List (Int×Int)}{bs:List Bk}{H:Hw}{x:Me}{kn:List Kn}{held:List Pc}{s0:Sp}
theorem KI.ofB (k:KI H x kn)(hl:LiveL H.live bs){b:Bk}(hb:b∈bs):∃q∈kn,knE H.tb q=(b.1,b.2.1,b.2.2.1):=by
 have a:(b.1,b.2.1,b.2.2.1)∈H.live.map (λe=>(e.1,e.2.2.1,e.2.2.2.1)):=zC.2 ⟨_,(hl.mem b).1 hb,rfl⟩;rw[k.live]at a;obtain⟨q,d,g⟩:=zC.1 a;exact⟨q,d,g⟩
theorem Wmi (tb:List Cls)(size align:Int) : -1<=clsI tb size align/\clsI tb size align+1<((tb.length+1:Nat):Int):=by
 unfold clsI;cases h:clsV tb size align with
 | none=>simp only;omega
 | some k=>
  have:=(zFU.1 h).1;simp only;omega
theorem KI.cls (k:KI H x kn)(hl:LiveL H.live bs){b:Bk}(hb:b∈bs) : -1<=b.2.2.1/\b.2.2.1+1<((H.tb.length+1:Nat):Int):=by
 obtain⟨q,_,d⟩:=k.ofB hl hb;have a:clsI H.tb q.2.1 q.2.2=b.2.2.1:=congrArg (λe:Int×Int×Int=>e.2.2) d;rw[←a];exact Wmi _ _ _
theorem KI.size (k:KI H x kn)(hl:LiveL H.live bs){b:Bk}(hb:b∈bs){c:Nat}(hc:b.2.2.1=(c:Int)):b.2.1=((H.tb.getD c ⟨8,1,1⟩).size:Int):=by
 obtain⟨q,i,d⟩:=k.ofB hl hb;have a:clsI H.tb q.2.1 q.2.2=b.2.2.1:=congrArg (λe:Int×Int×Int=>e.2.2) d;have m:(Wee H.tb q.2.1 q.2.2).1=b.2.1:=congrArg (λe:Int×Int×Int=>e.2.1) d;have g:=k.arg q i;rw[←m];unfold Wee;rw[zB ⟨g.2.1,g.2.2⟩];unfold clsI at a;cases h:clsV H.tb q.2.1 q.2.2 with
 | none=>rw[h]at a;simp only at a;omega
 | some j=>
  rw[h]at a;simp only at a ⊢;have:j=c:=by omega
  rw[this]
end Go.Ar
namespace Go.Proofs
open Go.Vc
set_option maxRecDepth 100000
end Go.Proofs
namespace Go.Ar
open Go Go.Vc Go.Proofs
open Go.Vc (mget mset mdel)
variable {σ w w':Hp}{l:Sl}{ds:List Deed}{tb:List Cls}{asked:List (Int×Int)}{bs:List Bk}{H:Hw}{x:Me}{kn:List Kn}{held:List Pc}{s0:Sp}
theorem ldH0 {bb o j:Nat}{x:Int}(h:cell σ ⟨bb,o+j,none⟩=some (.int .i64 x)){K:Int->Prop}(hK:K x):LdH (λm=>Ext0 σ m) bN (Addr.add ⟨bb,o,none⟩ j) K:=⟨x,λm a=>by rw[add_lit,QR a (QF h) id];exact h,hK⟩
end Go.Ar
namespace Go.Proofs
open Go.Vc
set_option maxRecDepth 100000
def WX.h:Hn:=.q .o2 (.q .o3 (.q (.q (.reg (.seq [.op,.op,.op,.grd false 2 [.op,.op]])) .aJ) (.q .o7 (.q (.q .o1 (.k (.loop [(7,.I)] (.q (.q .o4 (.c .l .l)) (.q (.k (.q .o6 (.q .o7 (.q (.q (.reg (.heldJ true [] [(88,.one .b)] (.tk [0,1,2,3,4,5] (.split 45 (.tk [6,7,8,9,10,11,12,13,14,15,16,17,18,19,20,21,22,23,24,25,26,27,28,29,30,31,32,33,34,35,36,37,38,39,40,41,42,43,44,45,46,47,48] (.done)) (.tk [6,7,8,9,10,11,12] (.split 52 (.tk [13,14,15,16,17,18,19,20,21,22,23,24,25,26,27,28,29,30,31,32,33,34,35,36,37,38,39,40,41,42,43,44,45,46,47,48] (.done)) (.tk [13,14,15,16,17,18,19,20,21] (.split 61 (.tk [22,23,24,25,26,27,28,29,30,31,32,33,34,35,36,37,38,39,40,41,42,43,44,45,46,47,48] (.done)) (.tk [22,23,24,25,26,27,28] (.split 68 (.tk [29,30,31,32,33,34,35,36,37,38,39,40,41,42] (.all [(43,.tk [44,45,46,47,48] (.done))])) (.tk [29,30,31,32,33,34,35,36] (.split 76 (.tk [37,38,39,40,41,42] (.all [(43,.tk [44,45,46,47,48] (.done))])) (.tk [37,38,39,40,41,42,43,44,45,46,47,48] (.done)))))))))))))) .aK) .o2)))) .o3))))) .aL))))
def WX.v (a b c d e f:Int)(g:Sl)(h:Hp)(i:aO):Prop:=aV #[.I a,.I b,.I c,.I d,.I e,.I f] 65 h λj k=>aQ j 0 k λl=>aQ j 1 k λm=>aQ j 2 k λn=>aQ j 3 k λo=>aQ j 4 k λp=>aQ j 5 k λq=>X7.c l m n o p q ⟨none,0,0⟩ 0 k λr s=>JnB (λt u=>If t (W7.c u λv w=>i v w) (bF r 1 u λy=>W6.c y u λz aa ab ac ad ae af ag ah ai aj=>aV #[.I 0,.I 0,.I 0,.I 0,.I 0,.I 0,.I 0,.I 0,.I 0,.I 0] 56 aj λak al=>aR ak 0 (.I z) al λam=>aR ak 1 (.I aa) am λan=>aR ak 2 (.I ab) an λao=>aR ak 3 (.I ac) ao λap=>aR ak 4 (.I ad) ap λaq=>aR ak 5 (.I ae) aq λar=>aR ak 6 (.I af) ar λau=>aR ak 7 (.I ag) au λav=>aR ak 8 (.I ah) av λaw=>aR ak 9 (.I ai) aw λax=>W8 [bN] (λay=>ay 0 ax) λaz (a0:Int) a1=>If (a0<((g.len:Nat):Int)) (Ix g.a g.len a0 8 λa2=>aQ a2 0 a1 λa3=>aQ a2 1 a1 λa4=>aQ a2 2 a1 λa5=>aQ a2 3 a1 λa6=>aQ a2 4 a1 λa7=>aQ a2 5 a1 λa8=>aQ a2 6 a1 λa9=>bC a2 7 a1 λba=>Xa.c r a3 a4 a5 a6 a7 a8 a9 ba a1 λbb bc=>bF r 1 bc λbe=>W6.c be bc λbf bg bh bi bj bk bl bm bn bo bp=>aV #[.I 0,.I 0,.I 0,.I 0,.I 0,.I 0,.I 0,.I 0,.I 0,.I 0] 56 bp λbq br=>aR bq 0 (.I bf) br λbs=>aR bq 1 (.I bg) bs λbt=>aR bq 2 (.I bh) bt λbu=>aR bq 3 (.I bi) bu λbv=>
 aR bq 4 (.I bj) bv λbw=>aR bq 5 (.I bk) bw λbx=>aR bq 6 (.I bl) bx λbz=>aR bq 7 (.I bm) bz λb0=>aR bq 8 (.I bn) b0 λb1=>aR bq 9 (.I bo) b1 λb2=>Jn [.b] (λ(b3:Bool) b4=>If b3 (i false b4) (aQ bq 0 b4 λb5=>aQ bq 1 b4 λb6=>aQ bq 2 b4 λb7=>aQ bq 3 b4 λb8=>aQ bq 4 b4 λb9=>aQ bq 5 b4 λca=>aQ bq 6 b4 λcb=>aQ bq 7 b4 λcc=>aQ bq 8 b4 λcd=>aQ bq 9 b4 λce=>aR ak 0 (.I b5) b4 λcf=>aR ak 1 (.I b6) cf λcg=>aR ak 2 (.I b7) cg λch=>aR ak 3 (.I b8) ch λci=>aR ak 4 (.I b9) ci λcj=>aR ak 5 (.I ca) cj λck=>aR ak 6 (.I cb) ck λcl=>aR ak 7 (.I cc) cl λcm=>aR ak 8 (.I cd) cm λcn=>aR ak 9 (.I ce) cn λco=>bL (a0+1) λcp=>az cp co)) λcq=>Held b2 λcr=>aS cr bq 5 λcs=>aS cr ak 5 λct=>If (cs<ct) (cq true b2) (aS cr bq 6 λcu=>aS cr ak 6 λcv=>If (cu<cv) (cq true b2) (aS cr bq 5 λcw=>NilP r λcx=>aS cr cx 4 λcy=>If (cw != cy) (cq true b2) (Ix g.a g.len a0 8 λcz=>aS cr cz 0 λc0=>If (c0==120) (aS cr bq 6 λc1=>NilP r λc2=>aU cr c2 0 λc3=>XB.c c3 b2 λc4 c5 c6 c7 c8 c9 da db dc dd de df=>And (cr df) <| bL (de*256) λdg=>cq (decide (c1<dg)) df)
 (Ix g.a g.len a0 8 λdh=>aS cr dh 0 λdi=>If (di==121) (aS cr bq 6 λdj=>NilP r λdk=>aU cr dk 0 λdl=>XB.c dl b2 λdm dn dp dq dr ds dt du dv dw dx dy=>And (cr dy) <| bL (dx*256) λdz=>cq (decide (dj<dz)) dy) (cq false b2)))))) (W7.c a1 λd0 d1=>i d0 d1))) λd2=>If r.isNone (d2 true s) (Xz.c g 50 s λd3 d4=>d2 d3 d4)
theorem WX.o {a b c d e f g h i}(j:WX.v a b c d e f g h i):WX.c a b c d e f g h i:=Wa Tryz.func9 (x:=WX.h) (R0 j)
end Go.Proofs
namespace Go.Ar
open Go Go.Vc Go.Proofs
open Go.Vc (mget mset mdel)
variable {σ σ0 v w w':Hp}{l:Sl}{ds:List Deed}{P Qa Qk:Rg}{L:LayH}{H:Hw}{held:List Pc}{s0:Sp}{mb am xb nb:Nat}{x:Me}{addrs kns:Sl}{ad:List Int}{kn:List Kn}{most:Int}
theorem OP.out (o:OP σ0 σ xb L H held s0 P mb am x Qa Qk addrs ad kns kn most)(e:Ext (· = nb) σ w)(h:¬Tch P mb am xb Qa Qk nb)(h0:σ0.size<=nb):OP σ0 w xb L H held s0 P mb am x Qa Qk addrs ad kns kn most:=by
 have u:=e.1;have m:¬P nb:=λk=>h (.inl (.inl k));have i:nb≠mb:=λk=>h (.inl (.inr (.inl k)));have r:nb≠am:=λk=>h (.inl (.inr (.inr k)));have s:xb≠nb:=λk=>h (.inr (.inl k.symm));have g:¬Qa nb:=λk=>h (.inr (.inr (.inl k)));have j:¬Qk nb:=λk=>h (.inr (.inr (.inr k)));refine⟨⟨o.f.p.out e λb _ (a:b=nb)=>by subst a;exact⟨m,i,r,h0⟩,e.blk o.f.b s,aI.keep o.f.ra e λb _ d (a:b=nb)=>g (a▸d),aI.keep o.f.rk e λb _ d (a:b=nb)=>j (a▸d),o.f.xb1,λb a=>?_,λb a=>?_,o.f.qq⟩,o.mi,o.k,o.al,o.pk⟩
 ·have h:=o.f.qa b a;exact⟨h.1,O,h.2.2⟩
 ·have h:=o.f.qk b a;exact⟨h.1,O,h.2.2⟩
theorem OP.tch (o:OP σ0 σ xb L H held s0 P mb am x Qa Qk addrs ad kns kn most){b:Nat}(h:σ.size<=b):¬Tch P mb am xb Qa Qk b:=by
 have a:=o.f.b.lt;have e:=o.f.p.b.lt;have d:=o.f.p.m.lt;rintro((k|k|k)|k|k|k)
 ·have:=(o.f.p.pP b k).2;omega
 ·omega
 ·omega
 ·omega
 ·have:=(o.f.qa b k).2.1;omega
 ·have:=(o.f.qk b k).2.1;omega
def v10 (a:Int×Int×Int×Int×Int×Int×Int×Int×Int×Int):List Value:=[.int .i64 a.1,.int .i64 a.2.1,.int .i64 a.2.2.1,.int .i64 a.2.2.2.1,.int .i64 a.2.2.2.2.1,.int .i64 a.2.2.2.2.2.1,.int .i64 a.2.2.2.2.2.2.1,.int .i64 a.2.2.2.2.2.2.2.1,.int .i64 a.2.2.2.2.2.2.2.2.1,.int .i64 a.2.2.2.2.2.2.2.2.2]
theorem Wnj {b:Nat}{z:Int×Int×Int×Int×Int×Int×Int×Int×Int×Int}(hb:Blk v b (v10 z))(a0 a1 a2 a3 a4 a5 a6 a7 a8 a9:Int){K:aP}(hK:∀w,Ext (· = b) v w->Blk w b (v10 (a0,a1,a2,a3,a4,a5,a6,a7,a8,a9))->K w) :
 St1 (Addr.add ⟨b,0,none⟩ 0) (.int .i64 a0) v λv57=>St1 (Addr.add ⟨b,0,none⟩ 1) (.int .i64 a1) v57 λv58=>St1 (Addr.add ⟨b,0,none⟩ 2) (.int .i64 a2) v58 λv59=>St1 (Addr.add ⟨b,0,none⟩ 3) (.int .i64 a3) v59 λv60=>
 St1 (Addr.add ⟨b,0,none⟩ 4) (.int .i64 a4) v60 λv61=>St1 (Addr.add ⟨b,0,none⟩ 5) (.int .i64 a5) v61 λv62=>St1 (Addr.add ⟨b,0,none⟩ 6) (.int .i64 a6) v62 λv63=>St1 (Addr.add ⟨b,0,none⟩ 7) (.int .i64 a7) v63 λv64=>
 St1 (Addr.add ⟨b,0,none⟩ 8) (.int .i64 a8) v64 λv65=>St1 (Addr.add ⟨b,0,none⟩ 9) (.int .i64 a9) v65 K:=by
 unfold v10 at hb;refine hb.s1 aA λy o1 g=>g.s1 aA λx o2 d=>d.s1 aA λv3 o3 i=>i.s1 aA λC o4 j=>j.s1 aA λA o5 s=>s.s1 aA λu o6 e=>e.s1 aA λE o7 m=>m.s1 aA λD o8 p=>p.s1 aA λB o9 r=>r.s1 aA λv10 o10 a=>?_;exact hK v10 (((((((((o1.ext.trans o2.ext).trans o3.ext).trans o4.ext).trans o5.ext).trans o6.ext).trans o7.ext).trans o8.ext).trans o9.ext).trans o10.ext) a
theorem Deeds.none:Deeds σ ⟨none,0,0⟩ []:=⟨rfl,λi d h=>by simp at h,λd h=>by simp at h,by decide⟩
set_option maxRecDepth 16000 in
theorem WgB (gl:Gl σ)(gc:Gc σ)(b b1 b2 b3 b4 b5:Int)(hd:Deeds σ l ds){R:aO}(hR:∀σ',Ext0 σ σ'->R true σ'):WX.c b b1 b2 b3 b4 b5 l σ R:=by
 refine WX.o ?_;unfold WX.v;have hdl:=hd.len;refine nw (cs:=[.int .i64 b,.int .i64 b1,.int .i64 b2,.int .i64 b3,.int .i64 b4,.int .i64 b5]) λv hz e X=>X.rI rfl (X.rI rfl (X.rI rfl (X.rI rfl (X.rI rfl (X.rI rfl ?_)))));have aw:∀{w:Hp},Ext0 σ w->∀{R':Bool->Hp->Prop},(∀q,Ext0 w q->R' true q)->W7.c w R':=λ{w} E {R'} h=>WgN (gl.keep0 E) (gc.keep0 E).gd h;refine Wjm (gl.keep0 e) (gc.keep0 e) b b1 b2 b3 b4 b5 Deeds.none 0 aB (λv1 e1=>JnB.intro (ifT rfl (ifT rfl (aw (e.trans e1) λv2 e2=>hR v2 ((e.trans e1).trans e2))))) λv1 Y L H j s0 P mb am x Qa Qk g ad D kn mo o W hpp hlen=>?_;refine UP (λr w=>v1=w/\(r=false->ds.length<=50)) (λr w ⟨hw,hr⟩=>?_) λJ hJ=>ifF rfl (Wiu (hJ _ _ ⟨rfl,λh=>by have:=zCR h;omega⟩));subst hw;have E:=e.trans o.f.p.e;refine iff_ (λht=>aw E λv2 e2=>hR v2 (E.trans e2)) λhf=>?_;have h50:=hr hf;have hx0:x.calls=0:=by rw[W];rfl
 refine nilP (o.f.b.rP rfl (Gp o.f.p λM e3 so=>nw (cs:=U5) λw4 hz4 e4 b4=>Wnj (z:=(0,0,0,0,0,0,0,0,0,0)) b4 _ _ _ _ _ _ _ _ _ _ λw5 e5 b5=>?_));have e45:Ext0 M w5:=Ext.fresh e4 e5 λi (hi:i=M.size)=>by omega
 have o5:=(o.fr e3).fr e45;have hz3:=e3.1;have hnb:v.size<=M.size:=by have:=o.f.p.e.1;omega
 have A:¬Tch P mb am Y Qa Qk M.size:=(o.fr e3).tch (zD _);refine ZS (a:=bN) (λ(z:Int) u=>∃(i:Nat) (L:LayH) (H:Hw) (j:List Pc) (s0:Sp) (P:Rg) (x:Me) (Qa Qk:Rg) (g:Sl) (ad:List Int) (D:Sl) (kn:List Kn) (mo:Int) (a0 a1 a2 a3 a4 a7 a8 a9:Int),z=i/\i<=ds.length/\OP v u Y L H j s0 P mb am x Qa Qk g ad D kn mo/\x.calls<=i/\¬Tch P mb am Y Qa Qk M.size/\Blk u M.size (v10 (a0,a1,a2,a3,a4,x.peak,x.dirty,a7,a8,a9))) (λz _=>ds.length-z.toNat)
  ⟨0,L,H,j,s0,P,x,Qa,Qk,g,ad,D,kn,mo,_,_,_,_,_,_,_,_,rfl,O,o5,O,A,b5⟩ ?_
 clear o5 A o hx0 W hpp so;rintro(z:Int) u ⟨i,L,H,j,s0,P,x,Qa,Qk,g,ad,D,kn,mo,a0,a1,a2,a3,a4,a7,a8,a9,rfl,hi,o,W,A,hbx⟩;have Eu:=e.trans o.f.p.e;refine ifD (λhlt=>?_) λhge=>aw Eu λq eq=>hR q (Eu.trans eq);have hx:ds[i]?=some (ds[i]' O):=gGe _;generalize (ds[i]' O)=d at hx;have hdi:=hd.i _ (zE hx);refine hd.rd Eu hx λba oa s=>ldI0 (s _ Eu 0 _ rfl) (ldI0 (s _ Eu 1 _ rfl) (ldI0 (s _ Eu 2 _ rfl) (ldI0 (s _ Eu 3 _ rfl) (ldI0 (s _ Eu 4 _ rfl) (ldI0 (s _ Eu 5 _ rfl) (ldI0 (s _ Eu 6 _ rfl) (ldT0 (s _ Eu 7 _ rfl) ?_)))))));refine WfJ o (gc.keep0 e) O d hdi λer u2 L2 H2 S s2 P2 y Qa2 Qk2 G ad2 aa kn2 Z o2 hLp kp po ⟨ex,htc⟩=>?_;have N:=ex.blk hbx A;have Q:¬Tch P2 mb am Y Qa2 Qk2 M.size:=λh=>(htc _ h).elim A λh=>by have:=hbx.lt;omega
 refine nilP (o2.f.b.rP rfl (Gp o2.f.p λw6 e6 so=>nw (cs:=U5) λw7 hz7 e7 b7=>Wnj (z:=(0,0,0,0,0,0,0,0,0,0)) b7 _ _ _ _ _ _ _ _ _ _ λw8 e8 b8=>?_));have e78:Ext0 w6 w8:=Ext.fresh e7 e8 λi (hi:i=w6.size)=>by omega
 have e68:=e6.trans e78;have o8:=o2.fr e68;have B:=e68.blk N id;have E8:=e.trans o8.f.p.e;have hne:M.size<w6.size:=by have:=N.lt;have:=e6.1;omega
 refine WkQ (λr w=>Ext0 w8 w/\r=false) (λr w9 ⟨e9,hr⟩=>?_) λJ hJ=>⟨λm=>Ext0 w8 m,Ext.refl _ _,?_⟩
 ·subst hr;have C:=e9.blk b8 id;have o9:=o8.fr e9;refine ifF rfl (C.rI rfl (C.rI rfl (C.rI rfl (C.rI rfl (C.rI rfl (C.rI rfl (C.rI rfl (C.rI rfl (C.rI rfl (C.rI rfl (Wnj (e9.blk B id) _ _ _ _ _ _ _ _ _ _ λw10 F b10=>?_)))))))))));refine arN (m:=i+1) O O ⟨⟨i+1,L2,H2,S,s2,P2,y,Qa2,Qk2,G,ad2,aa,kn2,Z,_,_,_,_,_,_,_,_,rfl,O,o9.out F Q hnb,?_,Q,b10⟩,O⟩;rw[po.calls];split<;>omega
 ·have hD:(H2.sp.st.count 2:Int)<=128:=by have:=o8.f.p.cnt2;omega
  have p1:=po.peak;have p2:=po.dirty;have p3:=po.dd;have pk:=o8.pk;have fin:∀{K:aO},(d.kd=120\/d.kd=121)->(∀w,Ext0 w8 w->K false w)->LdH (λm=>Ext0 w8 m) bN (Addr.add ⟨w6.size,0,none⟩ 6) (λ(t78:Int)=>NilP (some ⟨Y,0,none⟩) λa80=>LdH (λm=>Ext0 w8 m) .p (a80.add 0) λ(t82:Option Addr)=>XB.c t82 w8 λt83 t831 t832 t833 t834 t835 t836 t837 t838 t839 U v41=>And (Ext0 w8 v41)<|Ar .i64 (U*256) λt85=>K (decide (t78<t85)) v41):=by
   intro K V hK;have hdd:=p3 V;refine Blk.rH (c:=bN) (y:=y.dirty) b8 rfl (nilP (Blk.rH (c:=.p) (y:=some ⟨L2.p,0,none⟩) o8.f.b rfl (WaR o8.f.p.h o8.f.p.hi o8.f.p.hands λw10 F so=>⟨F,ar O O ?_⟩)));rw[zd O];exact hK w10 F
  refine Blk.rH (c:=bN) (y:=y.peak) b8 rfl (Blk.rH (c:=bN) (y:=x.peak) B rfl (ifF (zd O) (Blk.rH (c:=bN) (y:=y.dirty) b8 rfl (Blk.rH (c:=bN) (y:=x.dirty) B rfl (ifF (zd O) (Blk.rH (c:=bN) (y:=y.peak) b8 rfl (nilP (Blk.rH (c:=bN) (y:=Z) o8.f.b rfl (ifF (by rw[pk.2];simp) ?_)))))))));refine hd.rd E8 hx λba oa s=>ldH0 (s _ E8 0 _ rfl) (iff_ (λV=>fin (.inl (by simpa using V)) λw ew=>hJ _ _ ⟨ew,rfl⟩) λV=>hd.rd E8 hx λba oa s=>ldH0 (s _ E8 0 _ rfl) (iff_ (λV=>fin (.inr (by simpa using V)) λw ew=>hJ _ _ ⟨ew,rfl⟩) λV=>hJ _ _ ⟨Ext.refl _ _,rfl⟩))
end Go.Ar
namespace Go.Ar
open Go Go.Vc Go.Proofs Go.ChangeShapes Go.WideShapes Go.RowKit Go.Deep
theorem GJ {H:Type}{enc:TypeId×Value->H}{P:Program}{w:World}{base:Nat}{sp:Nat->Bool}{held:Bool}{fuel:Nat}{t:TypeId}{c:Value}{y:DataW H×List MemPlace}
 (ht:P.underlying t=some .bool) (h:DataW.trod enc P w base sp held fuel t [c]=some y):∃n,c=.bool n/\y=(.lit (.bool n),[]):=by
 cases fuel with
 | zero=>simp[DataW.trod]at h
 | succ fuel=>
  cases c<;>simp[DataW.trod,ht]at h
  rename_i n;exact⟨n,rfl,by simpa using h.symm⟩
theorem WaF {P:Program}{w:World}{t:TypeId}{f0 f1:Field}{cs:Array Value}{fuel:Nat}{p:List MemPlace}{x y:Bool}(ht:P.underlying t=some (.struct #[f0,f1]))(hone:oneCellFields P #[f0,f1]=true)(hC:P.cellsOf t=2)
 (h0:P.underlying f0.type=some .bool) (h1:P.underlying f1.type=some .bool) (h:DataW.trod (λ_=>()) P w 0 (λ_=>true) false fuel t cs.toList=some (.agg [.lit (.bool x),.lit (.bool y)],p)):cs = #[.bool x,.bool y]:=by
 obtain⟨z,n,D,i,a,d,b⟩:=DataW.trod_struct ht h;obtain⟨l⟩:=cs;have e:l.length=2:=by rw[←hC];simpa using a
 match l,e with
 | [c0,c1],_=>
  have j:=b 0 f0 rfl;have g:=b 1 f1 rfl;obtain⟨A,u⟩:=hone_of hone 0 f0 rfl;obtain⟨o1,r⟩:=hone_of hone 1 f1 rfl;rw[A,u]at j;rw[o1,r]at g
  match z,d with
  | [y0,y1],_=>
   obtain⟨B,rfl,m⟩:=GJ h0 (c:=c0) (y:=y0) (by simpa using j);obtain⟨C,rfl,s⟩:=GJ h1 (c:=c1) (y:=y1) (by simpa using g);subst m;subst s;simp at i;obtain⟨⟨rfl,rfl⟩,_⟩:=i;rfl
theorem H5 {w:World}{a:Addr}{v:Value}(h:w.cell? a=some v):cell w.heap a=some v:=h
section
variable {H:Type}{enc:TypeId×Value->H}{P:Program}{w:World}
theorem Woh {x:Int}(h:(Lit.int .i64 x).wf=true):I64 x:=by
 unfold I64;simp[Lit.wf,IntKind.min,IntKind.max,IntKind.bits,IntKind.signed]at h;omega
theorem WgF {t:TypeId}{f0 f1 f2 f3 f4 f5 f6 f7:Field}{fuel:Nat}{cs:List Value}{y:DataW H×List MemPlace}
 (ht:P.underlying t=some (.struct #[f0,f1,f2,f3,f4,f5,f6,f7])) (hone:oneCellFields P #[f0,f1,f2,f3,f4,f5,f6,f7]=true) (hC:P.cellsOf t=8)
 (h0:P.underlying f0.type=some (.int .i64)) (h1:P.underlying f1.type=some (.int .i64)) (h2:P.underlying f2.type=some (.int .i64)) (h3:P.underlying f3.type=some (.int .i64)) (h4:P.underlying f4.type=some (.int .i64)) (h5:P.underlying f5.type=some (.int .i64)) (h6:P.underlying f6.type=some (.int .i64)) (h7:P.underlying f7.type=some .string)
 (h:DataW.trod enc P w 0 (λ_=>true) true fuel t cs=some y):∃d:Deed,cs=Wbg d/\DeedI d:=by
 obtain⟨u,n,W,V,b,i,p⟩:=DataW.trod_struct ht h;have g:cs.length=8:=by rw[←hC];exact b
 match cs,g with
 | [c0,c1,c2,c3,c4,c5,c6,c7],_=>
  have one:∀(j:Nat) (f:Field) (c:Value),(#[f0,f1,f2,f3,f4,f5,f6,f7]:Array Field)[j]?=some f->[c0,c1,c2,c3,c4,c5,c6,c7][j]?=some c->∃z,DataW.trod enc P w 0 (λ_=>true) true n f.type [c]=some z:=by
   intro j f c hj hc;obtain⟨M,D⟩:=hone_of hone j f hj;have h3:=p j f hj;rw[M,D]at h3;have e:=(gSi.1 hc).1;have J:([c0,c1,c2,c3,c4,c5,c6,c7].drop j).take 1=[c]:=by
    rw[zCE e,zCZ,zFS,(gSi.1 hc).2]
   rw[J]at h3;have m:u[j]?=some (u[j]'(by rw[i];simp at e ⊢;omega)):=gGe _;rw[m]at h3;exact⟨_,h3⟩
  have int:∀(j:Nat) (f:Field) (c:Value),(#[f0,f1,f2,f3,f4,f5,f6,f7]:Array Field)[j]?=some f->[c0,c1,c2,c3,c4,c5,c6,c7][j]?=some c->P.underlying f.type=some (.int .i64)->∃x:Int,c=.int .i64 x/\I64 x:=by
   intro j f c hj hc hu;obtain⟨z,r⟩:=one j f c hj hc;obtain⟨x,a,_,R⟩:=DataW.trod_int hu r;simp only[List.cons.injEq,and_true]at a;exact⟨x,a,Woh R⟩
  obtain⟨N,rfl,_⟩:=int 0 f0 c0 rfl rfl h0;obtain⟨G,rfl,_⟩:=int 1 f1 c1 rfl rfl h1;obtain⟨K,rfl,S⟩:=int 2 f2 c2 rfl rfl h2;obtain⟨F,rfl,C⟩:=int 3 f3 c3 rfl rfl h3;obtain⟨E,rfl,_⟩:=int 4 f4 c4 rfl rfl h4;obtain⟨L,rfl,U⟩:=int 5 f5 c5 rfl rfl h5;obtain⟨Q,rfl,B⟩:=int 6 f6 c6 rfl rfl h6;obtain⟨z,r⟩:=one 7 f7 c7 rfl rfl;obtain⟨s,A,_⟩:=DataW.trod_string h7 r;simp only[List.cons.injEq,and_true]at A;subst A;exact⟨⟨N,G,K,F,E,L,Q,s⟩,rfl,S,C,U,B⟩
theorem Wgb {t e:TypeId}{f0 f1 f2 f3 f4 f5 f6 f7:Field}{a:Option Addr}{len cap:Nat}{d:DataW H}{ps:List MemPlace}
 (htl:P.underlying t=some (.slice e)) (ht:P.underlying e=some (.struct #[f0,f1,f2,f3,f4,f5,f6,f7])) (hone:oneCellFields P #[f0,f1,f2,f3,f4,f5,f6,f7]=true) (hC:P.cellsOf e=8)
 (h0:P.underlying f0.type=some (.int .i64)) (h1:P.underlying f1.type=some (.int .i64)) (h2:P.underlying f2.type=some (.int .i64)) (h3:P.underlying f3.type=some (.int .i64)) (h4:P.underlying f4.type=some (.int .i64)) (h5:P.underlying f5.type=some (.int .i64)) (h6:P.underlying f6.type=some (.int .i64)) (h7:P.underlying f7.type=some .string)
 (h:DataW.Trod enc P w 0 (λ_=>true) true t (.slice a len cap) d ps):∃ds,Deeds w.heap ⟨a,len,cap⟩ ds:=by
 obtain⟨Q,S⟩:=h;rcases open_slice htl S with⟨p,_⟩|⟨ad,len',cap',m,n,D,Pl,p,_,hl,hm,hmm,z,y⟩
 ·simp[Value.cells]at p;obtain⟨rfl,rfl,rfl⟩:=p;exact⟨[],rfl,λi x z=>by simp at z,by simp,by simp⟩
 ·simp[Value.cells]at p;obtain⟨rfl,rfl,rfl⟩:=p;have V:m=cap:=by simpa using hmm
  have key:∀i,i<len->∃u:Deed,(∀j v,(Wbg u)[j]?=some v->cell w.heap ((ad.add (i*8)).add j)=some v)/\DeedI u:=by
   intro i r;obtain⟨R,C,M⟩:=y i O;rw[hC]at C;obtain⟨x,p,L⟩:=WgF ht hone hC h0 h1 h2 h3 h4 h5 h6 h7 M;obtain⟨_,U,G⟩:=World.cells?_some C;refine⟨x,λj v E=>?_,L⟩;have W:=(gSi.1 E).1;have:=G j (by simpa[Wbg]using W);rw[p]at this;rw[E]at this;exact this
  let g:Nat->Deed:=λi=>if y:i<len then(key i y).choose else⟨0,0,0,0,0,0,0,ByteArray.empty⟩
  have N:∀i,(y:i<len)->g i=(key i y).choose:=λi y=>by simp only[g,y,dif_pos]
  refine⟨(List.range len).map g,by simp,λi x z=>?_,λx z=>?_,?_⟩
  ·have r:i<len:=by
    have:=(gSi.1 z).1;simpa using this
   have B:g i=x:=by simpa[r]using z
   rw[N i r]at B;have F:=(key i r).choose_spec;rw[B]at F;obtain⟨C,_⟩:=F;have K:=(key 0 O).choose_spec.1;have J:=K 0 _ rfl;have A:=WhH J;simp only[zDX,Addr.add_zero']at A;obtain⟨b,o,s⟩:=ad;have F:s=none:=A.2;subst F;refine⟨b,o,rfl,A.1,λj v E=>?_⟩;have:=C j v E;rw[add_lit,add_lit]at this;exact this
  ·obtain⟨i,y,rfl⟩:=zC.1 z;have r:=zU.1 y;rw[N i r];exact(key i r).choose_spec.2
  ·have:maxLen=9223372036854775807:=rfl;simp;omega
theorem WgH {b0:Nat}{t:TypeId}{f0 f1 g0 g1 g2 g3 g4:Field}{v:Value}{d:DataW H}{ps:List MemPlace}
 (ht:P.underlying t=some (.struct #[f0,f1])) (hC:P.cellsOf t=6) (ho:f0.offset=0/\P.cellsOf f0.type=1/\f1.offset=1/\P.cellsOf f1.type=5)
 (h0:P.underlying f0.type=some (.int .i64)) (h1:P.underlying f1.type=some (.struct #[g0,g1,g2,g3,g4])) (hone:oneCellFields P #[g0,g1,g2,g3,g4]=true)
 (k0:P.underlying g0.type=some (.int .i64)) (k1:P.underlying g1.type=some (.int .i64)) (k2:P.underlying g2.type=some (.int .i64)) (k3:P.underlying g3.type=some (.int .i64)) (k4:P.underlying g4.type=some (.int .i64))
 (hval:Value.okWide P w .any b0 t v) (h:DataW.Trod enc P w 0 (λ_=>true) true t v d ps):∃(x0 x1 x2 x3 x4 x5:Int),v=.agg #[.int .i64 x0,.int .i64 x1,.int .i64 x2,.int .i64 x3,.int .i64 x4,.int .i64 x5]:=by
 unfold Value.okWide at hval;rw[ht]at hval;obtain⟨M,rfl,u,_⟩:=hval;obtain⟨b,C⟩:=h;obtain⟨l⟩:=M;have s:l.length=6:=by rw[←hC];simpa using u
 obtain⟨p,z,B,D⟩:=ho
 match l,s with
 | [c0,c1,c2,c3,c4,c5],_=>
  have C:DataW.trod enc P w 0 (λ_=>true) true b t [c0,c1,c2,c3,c4,c5]=some (d,ps):=C;obtain⟨y0,y1,n,_,_,J,G⟩:=trod_struct2 ht C;rw[p,z]at J;rw[B,D]at G;have A:DataW.trod enc P w 0 (λ_=>true) true n f0.type [c0]=some y0:=J;have y:DataW.trod enc P w 0 (λ_=>true) true n f1.type [c1,c2,c3,c4,c5]=some y1:=G;obtain⟨x0,a,_,_⟩:=DataW.trod_int h0 A;simp only[List.cons.injEq,and_true]at a;subst a;obtain⟨K,n,R,Q,F,m,E⟩:=DataW.trod_struct h1 y;have int:∀(j:Nat) (f:Field) (c:Value),(#[g0,g1,g2,g3,g4]:Array Field)[j]?=some f->[c1,c2,c3,c4,c5][j]?=some c->P.underlying f.type=some (.int .i64)->∃x:Int,c=.int .i64 x:=by
   intro j f c hj hc hu;obtain⟨ho,N⟩:=hone_of hone j f hj;have g:=E j f hj;rw[ho,N]at g;have e:=(gSi.1 hc).1;have L:([c1,c2,c3,c4,c5].drop j).take 1=[c]:=by
    rw[zCE e,zCZ,zFS,(gSi.1 hc).2]
   rw[L]at g;have r:K[j]?=some (K[j]'(by rw[m];simp at e ⊢;omega)):=gGe _;rw[r]at g;obtain⟨x,i,_,_⟩:=DataW.trod_int hu g;exact⟨x,by simpa using i⟩
  obtain⟨x1,rfl⟩:=int 0 g0 c1 rfl rfl k0;obtain⟨x2,rfl⟩:=int 1 g1 c2 rfl rfl k1;obtain⟨x3,rfl⟩:=int 2 g2 c3 rfl rfl k2;obtain⟨x4,rfl⟩:=int 3 g3 c4 rfl rfl k3;obtain⟨x5,rfl⟩:=int 4 g4 c5 rfl rfl k4;exact⟨x0,x1,x2,x3,x4,x5,rfl⟩
end
end Go.Ar