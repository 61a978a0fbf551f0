/- Texts joined. -/
import Derived.Test.YtkabjcanamcbeaaGreatDoorW5
set_option linter.unusedVariables false
set_option linter.unusedSimpArgs false
namespace Go.Ar
open Go Go.Vc Go.Proofs
variable {σ u u':Hp}{F B P Q:Rg}{L:dR}{H H':Hw}{t k n pb:Nat}{A:AR}{Y:Lay}{x:eC}{g:Th}{c:bW}{l:Li}{cs:List Value}
set_option maxRecDepth 8000 in
theorem WlQ (hso:H6)(h:HH σ F L H)(ht:t<H.bQ.length)(p:Ph)(hp:uQ H t p)(hlen:∀g,H.bQ[t]?=some g->g.bP.length<=900){R:Value->Int->Int->Hp->Prop}(hR:P8 σ F L (Wt H t p) R) :
 ZA.c (aW L.p) (t:Int) (nv (some p)) σ R:=by
 refine ZA.o ?_;unfold ZA.v;have hlen':∀g,H.bQ[t]?=some g->g.bP.length<=1000:=λg hg=>by have:=hlen g hg;omega
 refine nw (cs:=[.int .i64 0,.int .i64 0]) λv hz e i=>?_;have K1:=(HK.start h).box e hz;obtain⟨x,g,E,hg⟩:=h.th ht;have hlen:=hlen g hg;have htg:=GJ hg;have hol:=kh h.s t;obtain⟨A,hA⟩:∃A,H.bT[H.own t]?=some A:=⟨_,cM hol⟩;have hAe:=AO hA;obtain⟨Y,hY,_,_⟩:=h.ar hA;refine aG (K1.h.hd.rS rfl ?_);refine DA K1.h.km K1.h.s.ts E hg (d:=0) O rfl λtb0 to0 ha _=>?_;have hS1:ny (λu=>u=v) L H.tb:=λm hm=>by cases hm;exact⟨_,L.ts,H,K1.h,rfl⟩
 refine⟨λu=>u=v,rfl,aG (hS1.fY (JY K1.h t ⟨rfl,K1.h.rA hY ⟨rfl,?_⟩⟩))⟩;refine qm (λw=>∃P ts',HK F σ (λb=>False\/b=σ.size) w P {L with ts:=ts'} (Wt H t p).1/\bX w σ.size [.int .i64 0,.int .i64 0]/\(Wt H t p).2=(none,0,0)) (λw ⟨P,ts',K,hbw,V⟩=>?_) λJ hJ=>?_
 ·refine gY (n:=σ.size) K (.inr rfl) hbw λZ K'=>?_;have:=hR Z ts' K'.e (K'.fin h);rw[V]at this;exact this
 cases p with
 | take k=>
  obtain⟨hk,hy9⟩:k<H.tb.length/\∀y l,Ka (H.cls k) ((H.kI t).li k)=(some y,l)->iO y:=hp;obtain⟨c,hc⟩:∃c,H.tb[k]?=some c:=⟨_,cM hk⟩;have hll:=h.Ca E hg;obtain⟨l,hl⟩:∃l,g.ls[k]?=some l:=⟨_,cM (by rw[hll];exact hk)⟩;have hce:=Ue hc;have hle:=y5 hl;rw[hce,htg,hle]at hy9;refine Bm (nw (cs:=[.int .i64 0]) λv5 M X N=>?_);have K5:=K1.box X M;refine N.s0 aA λv6 o6 hb6=>?_;have K6:=K5.own o6 (.inr rfl);have C:=Ws o6 (X.bZ i id) O;refine⟨λu=>u=v6,rfl,aG ⟨some ⟨x.c.p,0,none⟩,λu U=>by cases U;exact K6.h.tc E hg ha O rfl,⟨(k:Int),λu U=>by cases U;rw[add_lit,hb6.cell];rfl,?_⟩⟩⟩;refine SI K6.h E hg hc hl λv7 ts7 W h7=>?_;have K7:=K6.to W h7 λb _ i=>i;have hb7:=K6.cW W hb6 (.inr rfl);have B:=K6.cW W C (.inl (.inr rfl));cases htk:Ka c l with
  | mk o l'=>
  rw[htk]at h7 K7;cases o with
  | some y=>
   have V:Wt H t (.take k)=(VG (H.dY t g (g.ls.set k l')) y (c.size:Int) (k:Int),none,y,0):=by
    simp only[Wt,hce,htg,hle,htk,ZM hg];rfl
   rw[V]at hR;have hS2:ny (λu=>(∃P ts H',HH u P {L with ts:=ts} H'/\H'.tb=H.tb)/\bX u v.size [.int .i64 (k:Int)]) L H.tb:=λm hm=>hm.1;refine cK rfl ⟨λu=>(∃P ts H',HH u P {L with ts:=ts} H'/\H'.tb=H.tb)/\bX u v.size [.int .i64 (k:Int)],⟨⟨_,_,_,K7.h,rfl⟩,hb7⟩,aG (hS2.dB ⟨(k:Int),λu U=>by rw[add_lit,U.2.cell];rfl,?_⟩)⟩;refine ny.rC (L:={L with ts:=ts7}) (H:=H.dY t g (g.ls.set k l')) hS2 K7.h hc ⟨(k:Int),λu U=>by rw[add_lit,U.2.cell];rfl,?_⟩;refine CW K7.h y (c.size:Int) (k:Int) (hy9 y l' htk) λv8 e8 h8=>?_;have K8:=K7.to e8 h8 λb _ i=>.inl i;refine⟨⟨⟨_,_,_,h8,rfl⟩,K7.cW e8 hb7 (.inr rfl)⟩,?_⟩;exact gY (n:=σ.size) K8 (.inl (.inr rfl)) (K7.cW e8 B (.inl (.inr rfl))) λZ K'=>hR Z ts7 K'.e (K'.fin h)
  | none=>
   have V:Wt H t (.take k)=(H.dY t g (g.ls.set k l'),some (.cN k (qb c l')),0,0):=by
    simp only[Wt,hce,htg,hle,htk,ZM hg];rfl
   rw[V]at hR;have htlt:=(cQ.1 hg).1;have hklt:=(cQ.1 hl).1;have hg7:(H.dY t g (g.ls.set k l')).bQ[t]?=some {g with ls:=g.ls.set k l'}:=by simp[Hw.dY,htlt]
   obtain⟨x7,g7,hx7,_⟩:=K7.h.th (t:=t) (by simp[Hw.dY,htlt]);have hl7:({g with ls:=g.ls.set k l'}:Th).ls[k]?=some l':=by simp[hklt]
   refine cG rfl ⟨λu=>u=v7,rfl,aG ⟨some ⟨x7.c.p,0,none⟩,λu U=>by cases U;exact K7.h.tc hx7 hg7 ha O rfl,⟨(k:Int),λu U=>by cases U;rw[add_lit,hb7.cell];rfl,?_⟩⟩⟩;refine S1 K7.h hx7 hg7 hc hl7 λv8 ts8 e8 h8=>?_;have K8:=K7.to e8 h8 λb _ i=>i;refine(K7.cW e8 hb7 (.inr rfl)).rI rfl ?_;exact gY (n:=σ.size) K8 (.inl (.inr rfl)) (K7.cW e8 B (.inl (.inr rfl))) λZ K'=>hR Z ts8 K'.e (K'.fin h)
 | cN k w=>
  obtain⟨hk,hne0⟩:k<H.tb.length/\(Z7 (H.eN t) (k:Int)=0->YM (H.eN t) (k:Int)≠[]):=hp;rw[hAe]at hne0;obtain⟨c,hc⟩:∃c,H.tb[k]?=some c:=⟨_,cM hk⟩;have hce:=Ue hc;refine lX aB (wG (nw (cs:=[.int .i64 0,.int .i64 0]) λv5 M X N=>?_));have K5:=K1.box X M;refine N.s1 aA λv5b o5 b5=>b5.s1 aA λv6 o6 b6=>?_;have K6:=(K5.own o5 (.inr rfl)).own o6 (.inr rfl);have S:σ.size≠v.size:=by omega
  have C:=Ws o6 (Ws o5 (X.bZ i id) S) S;refine qm (λu=>(∃P',HK F σ (λb=>(False\/b=σ.size)\/b=v.size) u P' L H)/\bX u σ.size [.int .i64 0,.int .i64 0]/\bX u v.size [.int .i64 (k:Int),.int .i64 (w:Int)]/\Wt H t (.cN k w)=(H,some (.cP k w),0,0)) (λu ⟨⟨P',K⟩,hbw,hbx,V⟩=>?_) λJ1 hJ1=>?_
  ·rw[V]at hR;exact hbx.rI rfl (hbx.rI rfl (gY (n:=σ.size) K (.inl (.inr rfl)) hbw λZ K'=>hR Z L.ts K'.e (K'.fin h)))
  ·refine b6.rI rfl (aG (K6.h.hd.rS rfl (b6.rI rfl (uH K6.h.jQ hc (d:=2) O ?_))));simp only[zA (show ¬(2=0) by omega),zA (show ¬(2=1) by omega)];refine cU (λheq=>b6.rI rfl ?_) λhne'=>hJ1 v6 ⟨⟨_,K6⟩,C,b6,?_⟩
   ·have heq':w=c.batch:=by simp only[zX]at heq;omega
    refine GW K6.h hA hY (k:Int) λs v7 Q W hQ hs7 hcap h7=>?_;have K7:=K6.to W h7 λb _ i=>i.1;have b7:=K6.cW W b6 (.inr rfl);have B:=K6.cW W C (.inl (.inr rfl));refine cU (λh0=>b7.rI rfl ?_) λhn0=>?_
    ·have h0':Z7 A (k:Int)=0:=by simpa using h0
     have V:Wt H t (.cN k w)=(QR (H.cB (H.own t) (ZR A (k:Int))) t k (YM A (k:Int)),some .fill,0,0):=by
      simp only[Wt,hce,hAe,heq',h0',zT]
     rw[V]at hR;refine yv K7.h (t:=t) ht k hs7 hcap (hne0 h0') (λb _ z E=>E.1.2 z) (K6.h.o.sub hQ) (λz=>K6.h.o2 (hQ _ z)) hlen' λv8 ts8 e8 h8=>?_;have K8:=K7.sO e8 h8 λb i z=>by
      rcases z with z|z
      ·exact z.imp id .inl
      ·exact .inr (.inr ⟨(K6.p b (hQ b z)).1,(K6.p b (hQ b z)).2.1⟩)
     exact gY (n:=σ.size) K8 (.inl (.inr rfl)) (K7.cW e8 B (.inl (.inr rfl))) λZ K'=>hR Z ts8 K'.e (K'.fin h)
    ·have hn0':Z7 A (k:Int)≠0:=by simpa using hn0
     have hsame:ZR A (k:Int)=A:=by unfold ZR;rw[zA hn0']
     rw[hsame,Jp hA]at K7;refine hJ1 v7 ⟨⟨_,K7⟩,B,b7,?_⟩;simp only[Wt,hce,hAe,heq',zA hn0',zT]
   ·have hne2:w≠c.batch:=λe=>by rw[e]at hne';simp at hne'
    simp only[Wt,hce,zA hne2]
 | cP k w=>
  refine lX aB (jH aB (wG (nw (cs:=[.int .i64 0,.int .i64 0]) λv5 M X N=>?_)));have K5:=K1.box X M;refine N.s1 aA λv5b o5 b5=>b5.s1 aA λv6 o6 b6=>?_;have K6:=(K5.own o5 (.inr rfl)).own o6 (.inr rfl);have S:σ.size≠v.size:=by omega
  have C:=Ws o6 (Ws o5 (X.bZ i id) S) S;refine b6.rI rfl (b6.rI rfl (OQ K6.h hA hY (k:Int) (w:Int) λs v7 Q W hQ hs7 h7=>?_));have K7:=K6.to W h7 λb _ i=>i.1;have b7:=K6.cW W b6 (.inr rfl);have B:=K6.cW W C (.inl (.inr rfl));have hsl:s.len=(Yv A (k:Int) (w:Int)).length:=by have:=hs7.1;simp[ints]at this;omega
  by_cases hemp:Yv A (k:Int) (w:Int)=[]
  ·have V:Wt H t (.cP k w)=(H.cB (H.own t) (YQ A (k:Int) (w:Int)),some (.grow k w),0,0):=by
    simp only[Wt,hAe,zB hemp]
   rw[V]at hR;refine fH (by rw[hsl,hemp];simp) (b7.rI rfl (b7.rI rfl ?_));exact gY (n:=σ.size) K7 (.inl (.inr rfl)) B λZ K'=>hR Z L.ts K'.e (K'.fin h)
  ·have V:Wt H t (.cP k w)=(QR (H.cB (H.own t) (YQ A (k:Int) (w:Int))) t k ((Yv A (k:Int) (w:Int)).map λ(x:Nat)=>(x:Int)),some .fill,0,0):=by
    simp only[Wt,hAe,zA hemp]
   rw[V]at hR;have hpos:=qz.2 hemp;refine lV (by rw[hsl];omega) (b7.rI rfl ?_);have hs7':=bR.fX hs7;rw[PQ]at hs7';have hz6:=K6.e.1;refine yv K7.h (t:=t) ht k hs7' (bR.qG hs7) (by simpa using hemp) (λb _ z E=>E.1.2 z) (K6.o.1.sub λb i=>by have:=hQ b i;omega) (λz=>K6.o.2 (by have:=hQ _ z;omega)) hlen' λv8 ts8 e8 h8=>?_;have K8:=K7.sO e8 h8 λb i z=>by
    rcases z with z|z
    ·exact z.imp id .inl
    ·have:=hQ b z;exact .inr (.inr ⟨.inr O,λhB=>by have:=(K6.b b hB).2;omega⟩)
   exact gY (n:=σ.size) K8 (.inl (.inr rfl)) (K7.cW e8 B (.inl (.inr rfl))) λZ K'=>hR Z ts8 K'.e (K'.fin h)
 | grow k w=>
  refine lX aB (jH aB (jH aB (wG (nw (cs:=[.int .i64 0,.int .i64 0]) λv5 M X N=>?_))));have K5:=K1.box X M;refine N.s1 aA λv5b o5 b5=>b5.s1 aA λv6 o6 b6=>?_;have K6:=(K5.own o5 (.inr rfl)).own o6 (.inr rfl);have S:σ.size≠v.size:=by omega
  have C:=Ws o6 (Ws o5 (X.bZ i id) S) S;refine b6.rI rfl (PU K6.h hA hY (k:Int) λv7 W h7=>?_);have K7:=K6.to W h7 λb _ i=>i;have b7:=K6.cW W b6 (.inr rfl);have B:=K6.cW W C (.inl (.inr rfl));refine cU (λhn0=>?_) λh0=>?_
  ·have hn0':KN A H.sp (k:Int)≠0:=by simpa using hn0
   have V:Wt H t (.grow k w)=({H.cB (H.own t) (cO A H.sp (k:Int)).1 with sp:=(cO A H.sp (k:Int)).2},none,0,KN A H.sp (k:Int)):=by
    simp only[Wt,hAe,zA hn0']
   rw[V]at hR;exact gY (n:=σ.size) K7 (.inl (.inr rfl)) B λZ K'=>hR Z L.ts K'.e (K'.fin h)
  ·have h0':KN A H.sp (k:Int)=0:=by simpa using h0
   have V:Wt H t (.grow k w)=({H.cB (H.own t) (cO A H.sp (k:Int)).1 with sp:=(cO A H.sp (k:Int)).2},some (.cP k w),0,0):=by
    simp only[Wt,hAe,zB h0']
   rw[V]at hR;refine b7.rI rfl (b7.rI rfl ?_);exact gY (n:=σ.size) K7 (.inl (.inr rfl)) B λZ K'=>hR Z L.ts K'.e (K'.fin h)
 | fill=>
  obtain⟨k,y,ys,r,hh,hk,hy9,hfit⟩:∃k x xs r,(H.kI t).bP=(k,x::xs)::r/\k<H.tb.length/\iO x/\((H.kI t).li k).os.length+xs.length<=256:=hp;rw[htg]at hh hfit;obtain⟨c,hc⟩:∃c,H.tb[k]?=some c:=⟨_,cM hk⟩;have hll:=h.Ca E hg;obtain⟨l,hl⟩:∃l,g.ls[k]?=some l:=⟨_,cM (by rw[hll];exact hk)⟩;have hce:=Ue hc;have hle:=y5 hl;rw[hle]at hfit;refine lX aB (jH aB (jH aB (jH aB (CB (nw (cs:=[]) λv5 M X N=>?_)))));have K5:=K1.box X M;have hbv5:=X.bZ i id;obtain⟨G,D,hG,hD,hd,aa,hr,ab⟩:=K5.h.xD (λb i=>(K5.p b i).2.2) E hg (λ_=>False) (λb _ _ z=>z) (K5.o.1.sub λb i=>i.elim) (λz=>z);rw[hh]at aa;obtain⟨so,ps,Dn,hrow,hso1,hcap,hBr,hDn,hj,S,hxne⟩:=aa.m6;have hz5':=K5.e.1;have hsol:so.len=ys.length+1:=by have:=hso1.1;simp[Wv]at this;omega
  refine aG (oA (K5.h.tc E hg ha (d:=1) O rfl) (FX (dO.fX hrow) λa ha0 ha1=>nI ha0 (oA ha1 ?_)));refine nw (cs:=[.int .i64 0,.slice none 0 0]) λv43 hz43 e43 hb43=>hb43.s1 aA λv44 o44 b44=>b44.s1 aA λv45 o45 b45=>?_;have e45:bO v5 v45:=(e43.only o44 (.inr (zD _))).only o45 (.inr (zD _));have hz45:v5.size<v45.size:=b45.lt;refine aG (ab v45 ⟨none,0,0⟩ [] (λ_=>False) (bO.to e45) (λb i=>i.elim) (il.nil _ _ _) ha λv46 e46 h46=>?_);have hz46:=e46.1;have e546:Ext _ v5 v46:=(bO.to e45).trans (e46.sub hD);have K46:=K5.to e546 h46 λb _ z=>by
   rcases z with z|z
   ·exact .inl z.1
   ·exact z.1.elim
  have hbv46:=K5.cW e546 hbv5 (.inl (.inr rfl));have b46:bX v46 v5.size _:=e46.bZ b45 λE=>by have:=(K5.p _ (hD _ E)).2.2;omega
  have K46b:=K46.wx (B':=λb=>b=v5.size) λb i=>⟨O,O,λE=>by
   subst i;rcases E.1 with h1|h1
   ·have:=(K5.p _ h1.1).2.2;omega
   ·exact h1.1⟩
  have hso46:=aH.bU (aH.bK (aH.cut hso1) e45) e46 λb _ i E=>hd b (hDn b i.1.1) E;have hXn:∀b,(Dn b/\lq so b)/\b<v5.size->¬Cut (λb=>(Cut F σ b/\¬G b)\/False/\b<v45.size) v46 b:=λb i E=>by
   rcases E.1 with h1|h1
   ·exact h1.2 (hDn b i.1.1)
   ·exact h1.1
  have hg46:({H with bQ:=H.bQ.set t {g with bP:=[]}}:Hw).bQ[t]?=some {g with bP:=[]}:=by simp[ht]
  have hx46:(L.ts.set t {x with h:=⟨none,0,0⟩})[t]?=some {x with h:=⟨none,0,0⟩}:=zM (cQ.1 E).1;refine aG (s7 (K46b.h.tc hx46 hg46 ha (d:=0) O rfl) (b46.rI rfl (b46.rS (a:=so.a) (n:=so.len) (c:=so.cap) rfl (jd (lo:=1) (by show 1<=so.len;omega) hcap (zD _) ?_))));have hsub:=cR.sub hso46 (lo:=1) (hi:=so.len) (mx:=so.cap) O (zD _) hcap;have hsx:((Wv (y::ys)).drop (1*1)).take ((so.len-1)*1)=Wv ys:=by
   rw[ng (by simp[Wv];omega)];rfl
  rw[hsx]at hsub;have hl46:({g with bP:=[]}:Th).ls[k]?=some l:=hl;refine NV K46b.h hx46 hg46 hc hl46 hsub hXn hfit λv47 ts47 e47 h47=>?_;have K47:=K46b.to e47 h47 λb _ i=>i;have hso47:=aH.bU hso46 e47 λb _ i E=>hXn b i E;have b47:=K46b.cW e47 b46 (.inr rfl);have hbv47:=K46b.cW e47 hbv46 (.inl (.inl (.inr rfl)));have V:Wt H t .fill=(VG {H with bQ:=H.bQ.set t {g with ls:=g.ls.set k (eL ys.reverse l),bP:=[]}} y (c.size:Int) (k:Int),none,y,0):=by
   simp only[Wt,htg,hh,ZM hg,hle,hce]
  rw[V]at hR;obtain⟨b0,o0,ha0',hc0⟩:=hso47.cell (j:=0) (v:=.int .i64 y) rfl;have hS4:ny (λu=>((∃P ts H',HH u P {L with ts:=ts} H'/\H'.tb=H.tb)/\bX u v5.size [.int .i64 (k:Int),.slice so.a so.len so.cap])/\cell u ⟨b0,o0+0,none⟩=some (.int .i64 y)) L H.tb:=λm hm=>hm.1.1;refine⟨λu=>((∃P ts H',HH u P {L with ts:=ts} H'/\H'.tb=H.tb)/\bX u v5.size [.int .i64 (k:Int),.slice so.a so.len so.cap])/\cell u ⟨b0,o0+0,none⟩=some (.int .i64 y),⟨⟨⟨_,_,_,K47.h,rfl⟩,b47⟩,hc0⟩,⟨so,λu U=>by rw[add_lit,U.1.2.cell];rfl,?_⟩⟩;refine Pn ha0' O ⟨y,λu U=>U.2,aG (hS4.dB ⟨(k:Int),λu U=>by rw[add_lit,U.1.2.cell];rfl,?_⟩)⟩;refine ny.rC (L:={L with ts:=ts47}) (H:=Hw.dY {H with bQ:=H.bQ.set t {g with bP:=[]}} t {g with bP:=[]} (g.ls.set k (eL ys.reverse l))) hS4 K47.h hc ⟨(k:Int),λu U=>by rw[add_lit,U.1.2.cell];rfl,?_⟩;refine CW K47.h y (c.size:Int) (k:Int) hy9 λv48 e48 h48=>?_;have K48:=K47.to e48 h48 λb _ i=>.inl i;have hz4747:=e47.1;have hso48:=aH.bU hso47 e48 λb _ i E=>by
   rcases E.1 with h1|h1
   ·exact hXn b i h1
   ·have:=i.2;omega
  refine⟨⟨⟨⟨_,_,_,h48,rfl⟩,K47.cW e48 b47 (.inr rfl)⟩,?_⟩,?_⟩
  ·obtain⟨b1,o1,ha1',hc1⟩:=hso48.cell (j:=0) (v:=.int .i64 y) rfl;rw[ha0']at ha1';cases ha1';exact hc1
  ·have K49:=K48;simp only[Hw.dY,ot]at K49;exact gY (n:=σ.size) K49 (.inl (.inl (.inr rfl))) (K47.cW e48 hbv47 (.inl (.inl (.inr rfl)))) λZ K'=>hR Z ts47 K'.e (K'.fin h)
 | eR m=>
  have hp:Z6 (H.eN t) H.sp (m:Int) 1<=1000000:=hp;rw[hAe]at hp;refine lX aB (jH aB (jH aB (jH aB (sj aB (Bm (nw (cs:=[.int .i64 0]) λv5 M X N=>?_))))));have K5:=K1.box X M;refine N.s0 aA λv6 o6 b6=>?_;have K6:=K5.own o6 (.inr rfl);have C:=Ws o6 (X.bZ i id) O;refine b6.rI rfl (TE K6.h hA hY (m:Int) 1 λv7 W h7=>?_);have K7:=K6.to W h7 λb _ i=>i;have b7:=K6.cW W b6 (.inr rfl);have B:=K6.cW W C (.inl (.inr rfl));refine cU (λhn0=>?_) λh0=>?_
  ·have hn0':Qz A H.sp (m:Int) 1≠0:=by simpa using hn0
   have V:Wt H t (.eR m)=({H.cB (H.own t) (cD A H.sp (m:Int) 1).1 with sp:=(cD A H.sp (m:Int) 1).2},none,0,Qz A H.sp (m:Int) 1):=by
    simp only[Wt,hAe,zA hn0']
   rw[V]at hR;exact gY (n:=σ.size) K7 (.inl (.inr rfl)) B λZ K'=>hR Z L.ts K'.e (K'.fin h)
  ·have h0':Qz A H.sp (m:Int) 1=0:=by simpa using h0
   have hm:m<=64:=by
    unfold Qz at h0';split at h0'
    ·rename_i hpo;simp only[Kc,zF,zS]at hpo;omega
    ·omega
   have V:Wt H t (.eR m)=(VG {H.cB (H.own t) (cD A H.sp (m:Int) 1).1 with sp:=(cD A H.sp (m:Int) 1).2} ((Z6 A H.sp (m:Int) 1*256:Nat):Int) ((m*256:Nat):Int) (-1),none,((Z6 A H.sp (m:Int) 1*256:Nat):Int),0):=by
    simp only[Wt,hAe,zB h0']
   rw[V]at hR;refine cA (m:=Z6 A H.sp (m:Int) 1*256) O O (b7.rI rfl (cA (m:=m*256) O O ?_));refine CW K7.h _ _ _ O λv8 e8 h8=>?_;have K8:=K7.to e8 h8 λb _ i=>.inl i;exact gY (n:=σ.size) K8 (.inl (.inr rfl)) (K7.cW e8 B (.inl (.inr rfl))) λZ K'=>hR Z L.ts K'.e (K'.fin h)
 | find x=>
  obtain⟨hx9,hro,hlv⟩:iO x/\(bV H.live x=none->∀A∈H.bT,jb A)/\∀b,bV H.live x=some b->0<=x:=hp;refine lX aB (jH aB (jH aB (jH aB (sj aB (lX aB (Bm (nw (cs:=[.int .i64 0]) λv5 M X N=>?_)))))));have K5:=K1.box X M;refine N.s0 aA λv6 o6 b6=>?_;have K6:=K5.own o6 (.inr rfl);have C:=Ws o6 (X.bZ i id) O;refine b6.rI rfl (SD K6.h ht x hx9 hro hlen' hlv λv7 ts7 W h7=>?_);have K7:=K6.to W h7 λb _ i=>i;have B:=K6.cW W C (.inl (.inr rfl));exact gY (n:=σ.size) K7 (.inl (.inr rfl)) B λZ K'=>hR Z ts7 K'.e (K'.fin h)
 | put k y=>
  obtain⟨hk,hne0⟩:k<H.tb.length/\(H.kI t).bP≠[]:=hp;rw[htg]at hne0;obtain⟨c,hc⟩:∃c,H.tb[k]?=some c:=⟨_,cM hk⟩;have hll:=h.Ca E hg;obtain⟨l,hl⟩:∃l,g.ls[k]?=some l:=⟨_,cM (by rw[hll];exact hk)⟩;have hce:=Ue hc;have hle:=y5 hl;refine lX aB (jH aB (jH aB (jH aB (sj aB (lX aB (lX aB (wG (nw (cs:=[.int .i64 0,.int .i64 0]) λv5 M X N=>?_))))))));have K5:=K1.box X M;refine N.s1 aA λv5b o5 b5=>b5.s1 aA λv6 o6 b6=>?_;have K6:=(K5.own o5 (.inr rfl)).own o6 (.inr rfl);have S:σ.size≠v.size:=by omega
  have C:=Ws o6 (Ws o5 (X.bZ i id) S) S;generalize hgg:(if(dP c y l).1=[]then({g with ls:=g.ls.set k (dP c y l).2}:Th)else{g with ls:=g.ls.set k (dP c y l).2,bP:=g.bP++[(k,(dP c y l).1)]})=g2
  have hg2n:g2.bP≠[]/\g2.bP.length<=901:=by
   rw[←hgg];split
   ·exact⟨hne0,by simp;omega⟩
   ·exact⟨by simp,by simp;omega⟩
  refine qm (λw=>∃P ts',HK F σ (λb=>(False\/b=σ.size)\/b=v.size) w P {L with ts:=ts'} {H with bQ:=H.bQ.set t g2}/\bX w σ.size [.int .i64 0,.int .i64 0]) (λw ⟨P,ts2,K,hbw⟩=>?_) λJ2 hJ2=>?_
  ·have hg3:({H with bQ:=H.bQ.set t g2}:Hw).bQ[t]?=some g2:=by simp[ht]
   obtain⟨x2,_,hx2,_⟩:=K.h.th (t:=t) (by simpa using ht);obtain⟨G,D,hG,hD,hd,aa,hr,ab⟩:=K.h.xD (λb i=>(K.p b i).2.2) hx2 hg3 (λ_=>False) (λb _ _ z=>z) (K.o.1.sub λb i=>i.elim) (λz=>z);have hbl:=aa.len;have hbc:=aa.cap;obtain⟨b0,r0,hbr⟩:∃b r,g2.bP=b::r:=by
    cases hh:g2.bP with
    | nil=>exact absurd hh hg2n.1
    | cons b r=>exact⟨b,r,rfl⟩
   have oM:g2.bP.drop 1=r0:=by rw[hbr];rfl
   rw[hbr]at aa;have hpos:1<=x2.h.len:=by rw[hbl,hbr];simp
   refine aG (oA (K.h.tc hx2 hg3 ha (d:=1) O rfl) ?_);refine jd (lo:=1) hpos hbc (zD _) ?_;refine aG (ab w _ _ G (Ext.refl _ _) (λb i=>.inl i) aa.mH ha λw1 e1 h1=>?_);have e1':=e1.sub hD;have K1b:=K.to e1' h1 λb _ z=>by
    rcases z with z|z
    ·exact .inl z.1
    ·exact .inl (hG b z.1)
   have hbw1:=K.cW e1' hbw (.inl (.inr rfl));have K3:=K1b;simp only[ot]at K3;generalize hg3':({g2 with bP:=r0}:Th)=g3 at K3;have hl3:g3.bP=r0/\g3.ls=g2.ls:=by rw[←hg3'];exact⟨rfl,rfl⟩
   have hr0:r0.length<=900:=by have:=hg2n.2;rw[hbr]at this;simp at this;omega
   have hg3e:({H with bQ:=H.bQ.set t g3}:Hw).bQ[t]?=some g3:=by simp[ht]
   have hpe:iJ H t k y=(if H.cf.dA<Qt H.tb g3.ls then{H with bQ:=H.bQ.set t {g3 with ls:=Q6 KH H.tb g3.ls,bP:=g3.bP++Kb KH H.tb g3.ls}}else{H with bQ:=H.bQ.set t g3}):=by
    have e2:(if(dP c y l).1=[]then H.eA t λh=>h.iK k (dP c y l).2 else QR (H.eA t λh=>h.iK k (dP c y l).2) t k (dP c y l).1) = {H with bQ:=H.bQ.set t g2}:=by
     rw[←hgg];split
     ·rw[ZM hg];rfl
     ·rw[ZM hg];unfold QR Hw.eA;simp only;rw[K0 (t:=g.iK k (dP c y l).2) (by simp[ht]),ot];rfl
    have e3:({H with bQ:=H.bQ.set t g2}:Hw).eA t (λh=>{h with bP:=h.bP.drop 1}) = {H with bQ:=H.bQ.set t g3}:=by
     rw[ZM hg3];simp only[ot,oM,hg3']
    unfold iJ;simp only[hce,htg,hle,e2,e3,GJ hg3e,ZM hg3e,ot]
   have hx3:(ts2.set t {x2 with h:=⟨if x2.h.cap=1 then x2.h.a else x2.h.a.map (·.add (1*2)),x2.h.len-1,x2.h.cap-1⟩})[t]?=some {x2 with h:=⟨if x2.h.cap=1 then x2.h.a else x2.h.a.map (·.add (1*2)),x2.h.len-1,x2.h.cap-1⟩}:=zM (cQ.1 hx2).1
   generalize hx3':({x2 with h:=⟨if x2.h.cap=1 then x2.h.a else x2.h.a.map (·.add (1*2)),x2.h.len-1,x2.h.cap-1⟩}:eC)=x3 at hx3 K3
   generalize ts2.set t x3=ts3 at hx3 K3;refine qm (λw=>∃P ts',HK F σ (λb=>(False\/b=σ.size)\/b=v.size) w P {L with ts:=ts'} (iJ H t k y)/\bX w σ.size [.int .i64 0,.int .i64 0]) (λw ⟨P,ts',K,hbw⟩=>?_) λJ3 hJ3=>?_
   ·have V:Wt H t (.put k y)=(iJ H t k y,kA (iJ H t k y) t,0,0):=rfl;rw[V]at hR;refine VW K.h (t:=t) ?_ ?_
    ·rw[hpe];split<;>simpa using ht
    ·exact gY (n:=σ.size) K (.inl (.inr rfl)) hbw λZ K'=>hR Z ts' K'.e (K'.fin h)
   ·refine aG (s7 (K3.h.tc hx3 hg3e ha (d:=0) O rfl) ?_);refine Wk0 K3.h hx3 hg3e λv10 e10=>?_;have K10:=K3.fr e10;have hbw10:=e10.bZ hbw1 id;refine cI (λhov=>?_) λhno=>hJ3 v10 ⟨_,ts3,by rw[hpe,zA hno];exact K10,hbw10⟩;refine⟨λu=>cell u (Addr.add ⟨tb0,to0+3*t,none⟩ 1)=some (.slice x3.h.a x3.h.len x3.h.cap)/\cell u (Addr.add ⟨tb0,to0+3*t,none⟩ 0)=some (.pointer (some ⟨x3.c.p,0,none⟩)),⟨K10.h.tc hx3 hg3e ha (d:=1) O rfl,K10.h.tc hx3 hg3e ha (d:=0) O rfl⟩,aG ⟨x3.h,λu U=>U.1,aG ⟨some ⟨x3.c.p,0,none⟩,λu U=>U.2,?_⟩⟩⟩;refine O6 hso K10.h hx3 hg3e λv11 s Q e11 hQ hB h11=>?_;have K11:=K10.to e11 h11 λb _ i=>i.1;have hbw11:=K10.cW e11 hbw10 (.inl (.inr rfl));have hg11:(Hw.dY {H with bQ:=H.bQ.set t g3} t g3 (Q6 KH H.tb g3.ls)).bQ[t]?=some {g3 with ls:=Q6 KH H.tb g3.ls}:=by simp[Hw.dY,ht]
    refine⟨⟨K11.h.tc hx3 hg11 ha (d:=1) O rfl,K11.h.tc hx3 hg11 ha (d:=0) O rfl⟩,?_⟩;have hz0:=K10.e.1;obtain⟨G,D,hG,hD,hd,aa,hr,ab⟩:=K11.h.xD (λb i=>i.2) hx3 hg11 (λb=>Q b\/v11.size<=b) (λb i hP z=>z.elim (λz=>hP.1.2 z) λz=>O) (K10.o.1.sub λb i=>i.elim (λi=>by have:=hQ b i;omega) λi=>by have:=K11.e.1;omega) (λz=>K10.o.2 (z.elim (λi=>by have:=hQ _ i;omega) λi=>by have:=K11.e.1;omega));refine il.app aa hB (λb hg z=>(hG b hg).1.2 z) ?_ λs' v12 e12 hB12=>?_
    ·have:=Dy KH H.tb g3.ls;have:H.tb.length<=40:=K3.h.lZ;simp only[hl3.1];omega
    have hcell:∀{d:Nat} {w:Value},d<3->(jP (x3,({g3 with ls:=Q6 KH H.tb g3.ls}:Th)))[d]?=some w->cell v12 (Addr.add ⟨tb0,to0+3*t,none⟩ d)=some w:=λhd3 hv=>by
     obtain⟨b',o',ha',hc'⟩:=Ui (hr v12 e12) hx3 hg11 hd3 hv;rw[ha]at ha';cases ha';rw[add_lit,qn];exact hc'
    refine⟨⟨hcell (d:=1) O rfl,hcell (d:=0) O rfl⟩,aG (ab v12 s' _ _ e12 (λb i=>i.imp id id) hB12 ha λv13 e13 h13=>?_)⟩;have e13':=(e12.sub hG).trans (e13.sub hD);have K13:=K11.sO e13' h13 λb i z=>by
     rcases z with z|z
     ·exact .inl z.1
     ·rcases z.1 with h1|h1|h1
      ·exact .inl (hG b h1)
      ·have:=hQ b h1;exact .inr (.inr ⟨.inr O,λhB=>by have:=(K10.b b hB).2;omega⟩)
      ·exact .inr (.inl h1)
    have hbw13:=K11.cW e13' hbw11 (.inl (.inr rfl));have K14:=K13;simp only[Hw.dY,ot]at K14;have hpe':=hpe;rw[zB hov]at hpe';rw[hpe']at hJ3;exact hJ3 v13 ⟨_,_,K14,hbw13⟩
  ·refine⟨λu=>u=v6,rfl,aG ⟨some ⟨x.c.p,0,none⟩,λu U=>by cases U;exact K6.h.tc E hg ha (d:=0) O rfl,⟨(k:Int),λu U=>by cases U;rw[add_lit,b6.cell];rfl,⟨y,λu U=>by cases U;rw[add_lit,b6.cell];rfl,?_⟩⟩⟩⟩;refine MQ K6.h E hg hc hl y λv7 ts7 s ee Q W hQ hs7 h7=>?_;have K7:=K6.to W h7 λb _ i=>i.1;have b7:=K6.cW W b6 (.inr rfl);have B:=K6.cW W C (.inl (.inr rfl));have hsl:s.len=(dP c y l).1.length:=by have:=hs7.1;simp[Wv]at this;omega
   by_cases hemp:(dP c y l).1=[]
   ·rw[zB hemp]at hgg;rw[←hgg]at hJ2;exact fH (by rw[hsl,hemp];simp) (hJ2 v7 ⟨_,ts7,K7,B⟩)
   ·rw[zA hemp]at hgg;have hpos:=qz.2 hemp;have hz6:=K6.e.1;refine lV (by rw[hsl];omega) (b7.rI rfl ?_);refine yv K7.h (t:=t) (by simpa[Hw.dY]using ht) k (bR.fX hs7) (bR.qG hs7) hemp (λb _ z E=>E.1.2 z) (K6.o.1.sub λb i=>by have:=hQ b i;omega) (λz=>K6.o.2 (by have:=hQ _ z;omega)) (λg' hg'=>?_) λv8 ts8 e8 h8=>?_
    ·have:(H.dY t g (g.ls.set k (dP c y l).2)).bQ[t]?=some {g with ls:=g.ls.set k (dP c y l).2}:=by simp[Hw.dY,ht]
     rw[this]at hg';cases hg';simp only;omega
    ·have K8:=K7.sO e8 h8 λb i z=>by
      rcases z with z|z
      ·exact z.imp id .inl
      ·have:=hQ b z;exact .inr (.inr ⟨.inr O,λhB=>by have:=(K6.b b hB).2;omega⟩)
     have e9:QR (H.dY t g (g.ls.set k (dP c y l).2)) t k (dP c y l).1 = {H with bQ:=H.bQ.set t g2}:=by
      rw[←hgg];unfold QR Hw.eA Hw.dY;simp only;rw[K0 (t:={g with ls:=g.ls.set k (dP c y l).2}) (by simp[ht]),ot]
     rw[e9]at K8;exact hJ2 v8 ⟨_,ts8,K8,K7.cW e8 B (.inl (.inr rfl))⟩
 | back=>
  obtain⟨k,xs,r,hh,hxs,hxl⟩:∃k xs r,(H.kI t).bP=(k,xs)::r/\(∀x∈xs,iO x/\0<=YK H.bT x)/\xs.length<=1000000:=hp;rw[htg]at hh;refine lX aB (jH aB (jH aB (jH aB (sj aB (lX aB (lX aB (jH aB (CB (nw (cs:=[]) λv5 M X N=>?_)))))))));have K5:=K1.box X M;have hbv5:=X.bZ i id;obtain⟨G,D,hG,hD,hd,aa,hr,ab⟩:=K5.h.xD (λb i=>(K5.p b i).2.2) E hg (λb=>v5.size<=b) (λb i _ z=>O) K5.h.mV.1 K5.h.mV.2;have hbl:=aa.len;have hbc:=aa.cap;rw[hh]at aa;obtain⟨so,ps,Dn,hrow,hso1,hcap,hBr,hDn,hj,S,hxne⟩:=aa.m6;have hz5':=K5.e.1;refine aG (oA (K5.h.tc E hg ha (d:=1) O rfl) (FX (dO.fX hrow) λa ha0 ha1=>nI ha0 (oA ha1 ?_)));refine nw (cs:=[.int .i64 0,.slice none 0 0]) λv81 hz81 e81 hb81=>hb81.s1 aA λv82 o82 b82=>b82.s1 aA λv83 o83 b83=>?_;have e83:bO v5 v83:=(e81.only o82 (.inr (zD _))).only o83 (.inr (zD _));have hz83:v5.size<v83.size:=b83.lt;have hcell:∀{u1:Hp},Ext G v5 u1->∀{d:Nat} {w:Value},d<3->(jP (x,g))[d]?=some w->cell u1 (Addr.add ⟨tb0,to0+3*t,none⟩ d)=some w:=λhe _ _ hd3 hv=>by
   obtain⟨b',o',ha',hc'⟩:=Ui (hr _ he) E hg hd3 hv;rw[ha]at ha';cases ha';rw[add_lit,qn];exact hc'
  refine aG (oA (hcell (bO.to e83) (d:=1) (w:=.slice x.h.a x.h.len x.h.cap) O rfl) ?_);have hpos:1<=x.h.len:=by rw[hbl,hh];simp
  refine jd (lo:=1) hpos hbc (zD _) ?_;have hrow':=aH.bK (aH.cut (dO.fX (hrow.from (lo:=1) hpos))) e83;have oM:(fN ((k,so)::ps)).drop (1*2)=fN ps:=rfl;rw[oM]at hrow';refine RW hrow' aC λs' v84 hs'l e84 hs'=>?_;have hBt':il s' r v84 (λb=>Dn b/\¬lq so b/\b<v5.size\/v83.size<=b):=by
   refine⟨ps,λb=>Dn b/\¬lq so b/\b<v5.size,(dO.loc _ _ _).mono hs'.o λb _ i=>⟨.inr i,λE=>O⟩,(kY.loc _ _).bK ((kY.loc _ _).bK ((kY.loc _ _).mono ((kY.loc _ _).cut hBr) λb _ i=>⟨i.1.1,i.1.2,i.2⟩) e83) e84,λb i=>.inl i,hj,S⟩
  have e584:bO v5 v84:=e83.trans e84;refine aG (ab v84 s' r _ (bO.to e584) (λb i=>i.elim (λi=>.inl (hDn b i.1)) λi=>.inr O) hBt' ha λv85 e85 h85=>?_);have hz84:=e84.1;have hz85:=e85.1;have e585:Ext _ v5 v85:=(bO.to e584).trans (e85.sub hD);have K85:=K5.to e585 h85 λb _ z=>by
   rcases z with z|z
   ·exact .inl z.1
   ·rcases z.1 with h1|h1
    ·exact .inl (hG b (hDn b h1.1))
    ·exact .inr O
  have hbv85:=K5.cW e585 hbv5 (.inl (.inr rfl));have b85:bX v85 v5.size _:=e85.bZ (e84.bZ b83 id) λE=>by have:=(K5.p _ (hD _ E)).2.2;omega
  have K85b:=K85.wx (B':=λb=>b=v5.size) λb i=>⟨O,O,λE=>by
   subst i;rcases E.1 with h1|h1
   ·have:=(K5.p _ h1.1).2.2;omega
   ·rcases h1.1 with h2|h2<;>omega⟩
  have hso5:=aH.bU (aH.bK (aH.cut hso1) e584) e85 λb _ i E=>hd b (hDn b i.1.1) E;have V:Wt H t .back=(Gh {H with bQ:=H.bQ.set t {g with bP:=r}} (H.own t) k xs,kA (Gh {H with bQ:=H.bQ.set t {g with bP:=r}} (H.own t) k xs) t,0,0):=by
   simp only[Wt,htg,hh,ZM hg]
  rw[V]at hR;refine⟨λu=>u=v85,rfl,⟨(k:Int),λu U=>by cases U;rw[add_lit,b85.cell];rfl,⟨so,λu U=>by cases U;rw[add_lit,b85.cell];rfl,?_⟩⟩⟩;refine JY K85b.h t ⟨rfl,Pg K85b.h hol k hso5 (λb _ i E=>?_) hcap hxs hxl λv87 e87 h87=>?_⟩
  ·rcases E.1 with h1|h1
   ·exact h1.2 (hDn b i.1.1)
   ·rcases h1.1 with h2|h2
    ·exact h2.2.1 i.1.2
    ·have:=i.2;omega
  have K87:=K85b.to e87 h87 λb _ i=>i;have hbl7:(Gh {H with bQ:=H.bQ.set t {g with bP:=r}} (H.own t) k xs).bQ.length=H.bQ.length:=by
   rw[CE];simp
  refine VW K87.h (t:=t) (by rw[hbl7];exact ht) ?_;exact gY (n:=σ.size) K87 (.inl (.inl (.inr rfl))) (K85b.cW e87 hbv85 (.inl (.inl (.inr rfl)))) λZ K'=>hR Z _ K'.e (K'.fin h)
 | dI s a=>
  obtain⟨ha0,hal,hru⟩:0<=a/\a.toNat<H.bT.length/\∀A∈H.bT,∀r∈A.runs,r.1<=1000000:=hp;obtain⟨A2,hA2⟩:∃A,H.bT[a.toNat]?=some A:=⟨_,cM hal⟩;have hae:a=((a.toNat:Nat):Int):=by omega
  refine lX aB (jH aB (jH aB (jH aB (sj aB (lX aB (lX aB (jH aB (sj aB (wG (nw (cs:=[.int .i64 0,.int .i64 0]) λv5 M X N=>?_))))))))));have K5:=K1.box X M;refine N.s1 aA λv5b o5 b5=>b5.s1 aA λv6 o6 b6=>?_;have K6:=(K5.own o5 (.inr rfl)).own o6 (.inr rfl);have S:σ.size≠v.size:=by omega
  have C:=Ws o6 (Ws o5 (X.bZ i id) S) S;obtain⟨Y2,hY2,_,_⟩:=K6.h.ar hA2;refine aG (K6.h.hd.rS rfl (b6.rI (x:=((a.toNat:Nat):Int)) (by rw[←hae];rfl) (K6.h.rA hY2 (b6.rI rfl ?_))));refine Wcl K6.h hA2 hY2 s (hru A2 (zE hA2)) λv7 W h7=>?_;have K7:=K6.to W h7 λb _ i=>i;have B:=K6.cW W C (.inl (.inr rfl));have V:Wt H t (.dI s a)=(H.cB a.toNat (QG A2 s),none,0,0):=by
   simp only[Wt,hA2]
  refine hJ v7 ⟨_,L.ts,⟨?_,K7.e,λb i=>⟨(K7.p b i).1,λE=>(K7.p b i).2.1 (.inl E),(K7.p b i).2.2⟩,λb i=>K7.b b (.inl i),K7.o⟩,B,by rw[V]⟩;rw[V];exact K7.h
 | drain=>
  refine lX aB (jH aB (jH aB (jH aB (sj aB (lX aB (lX aB (jH aB (sj aB (jH aB (CB (nw (cs:=[]) λv5 M X N=>?_)))))))))));have K5:=K1.box X M;have hbv5:=X.bZ i id;refine aG (s7 (K5.h.tc E hg ha (d:=0) O rfl) ?_);refine Μ hso K5.h E hg λv7 s Q W hQ hB h7=>?_;have K7:=K5.to W h7 λb _ i=>i.1;have B:=K5.cW W hbv5 (.inl (.inr rfl));have hz0:=K5.e.1;have hg7:(H.dY t g (Q6 ZX H.tb g.ls)).bQ[t]?=some {g with ls:=Q6 ZX H.tb g.ls}:=by simp[Hw.dY,ht]
  obtain⟨G,D,hG,hD,hd,aa,hr,ab⟩:=K7.h.xD (λb i=>i.2) E hg7 Q (λb _ i z=>i.1.2 z) (K5.o.1.sub λb i=>by have:=hQ b i;omega) (λz=>K5.o.2 (by have:=hQ _ z;omega));refine aG (ab v7 s _ Q (Ext.refl _ _) (λb i=>.inr i) hB ha λv8 e8 h8=>?_);have e8':=e8.sub hD;have K8:=K7.sO e8' h8 λb _ z=>by
   rcases z with z|z
   ·exact .inl z.1
   ·have:=hQ b z.1;exact .inr (.inr ⟨.inr O,λhB=>by have:=(K5.b b hB).2;omega⟩)
  have hbv8:=K7.cW e8' B (.inl (.inr rfl));have V:Wt H t .drain=({H with bQ:=H.bQ.set t {g with ls:=Q6 ZX H.tb g.ls,bP:=Kb ZX H.tb g.ls}},kA {H with bQ:=H.bQ.set t {g with ls:=Q6 ZX H.tb g.ls,bP:=Kb ZX H.tb g.ls}} t,0,0):=by
   simp only[Wt,ZM hg]
  have K9:=K8;simp only[Hw.dY,ot]at K9;rw[V]at hR;refine VW K9.h (t:=t) (by simpa using ht) ?_;exact gY (n:=σ.size) K9 (.inl (.inr rfl)) hbv8 λZ K'=>hR Z _ K'.e (K'.fin h)
def eU (H:Hw)(t:Nat)(p:Option Ph):Hw:=H.eA t λh=>{h with ph:=p}
theorem Vz (H:Hw)(t:Nat)(f:Th->Th):(H.eA t f).bQ.length=H.bQ.length:=by simp[Hw.eA]
theorem S8 (H:Hw)(t k:Nat)(x:Int):(iJ H t k x).bQ.length=H.bQ.length:=by
 unfold iJ;simp only;split<;>split<;>simp[Vz,QR]
theorem Lg (H:Hw)(t:Nat)(p:Ph):(Wt H t p).1.bQ.length=H.bQ.length:=by
 cases p with
 | take k=>simp only[Wt];split<;>simp[VG,Vz]
 | cN k w=>
  simp only[Wt];split
  ·split<;>simp[QR,Vz,Hw.cB]
  ·rfl
 | cP k w=>simp only[Wt];split<;>simp[QR,Vz,Hw.cB]
 | grow k w=>simp only[Wt];split<;>simp[Hw.cB]
 | fill=>simp only[Wt];split<;>simp[VG,Vz]
 | eR m=>simp only[Wt];split<;>simp[VG,Hw.cB]
 | find x=>
  simp only[Wt,UZ];split
  ·rfl
  ·split<;>simp[QR,Vz]
 | put k x=>exact S8 H t k x
 | back=>simp only[Wt];split<;>simp[CE,Vz]
 | dI s a=>simp only[Wt];split<;>simp[Hw.cB]
 | drain=>simp[Wt,Vz]
def ve (H:Hw)(t:Nat)(p:Ph):Prop:=uQ H t p/\∀g,H.bQ[t]?=some g->g.bP.length<=900
def QP (H:Hw)(t:Nat)(p:Ph):Hw:=eU (Wt H t p).1 t (Wt H t p).2.1
theorem Sc (hso:H6)(h:HH σ F L H)(hg:H.bQ[t]?=some g){p:Ph}(hp:g.ph=some p)(hok:ve H t p){R:Bool->Int->Int->Int->Hp->Prop}
 (hR:∀σ' ts',Ext F σ σ'->HH σ' (Grow F σ) {L with ts:=ts'} (QP H t p)->R (Wt H t p).2.1.isNone (Wt H t p).2.2.1 (Wt H t p).2.2.2 0 σ'):YZ.c (aW L.p) (t:Int) σ R:=by
 refine YZ.o ?_;unfold YZ.v;have C:=(cQ.1 hg).1;refine nw (cs:=[.int .i64 0,.int .i64 0]) λv hz e m=>?_;have K1:=(HK.start h).box e hz;obtain⟨x,g',P,z⟩:=h.th C;rw[hg]at z;cases z;refine KB K1.h (cG rfl (Ln K1.h (t:Int) (cG (by rw[zV O];rfl) ?_)));refine aG (K1.h.hd.rS rfl (K1.h.tR P hg ?_));rw[hp];refine⟨wA _,cG (by rw[Ao];rfl) (aG (K1.h.hd.rS rfl (K1.h.tR P hg ?_)))⟩;rw[hp];refine WlQ hso K1.h C p hok.1 hok.2 λW G Q Z=>?_;have K9:=K1.to Q Z λb _ m=>m;have u:=K1.cW Q m (.inr rfl);refine nw (cs:=[.int .i64 0,.int .i64 0]) λS A r w=>?_;have K10:=K9.box r A;refine w.s1 aA λv11 s K=>K.s1 aA λU y E=>?_;have K12:=(K10.own s (.inr rfl)).own y (.inr rfl);have j:σ.size≠W.size:=by have:=(K9.b σ.size (.inr rfl)).2;omega
 have d:=Ws y (Ws s (r.bZ u id) j) j;have D:t<(Wt H t p).1.bQ.length:=by rw[Lg];exact C
 obtain⟨x9,V,N,B⟩:=K12.h.th D;have J:QP H t p = {(Wt H t p).1 with bQ:=(Wt H t p).1.bQ.set t {V with ph:=(Wt H t p).2.1}}:=ZM B _;refine aG (K12.h.hd.rS rfl (K12.h.sB N B (Wt H t p).2.1 λY i M=>?_));have K13:=K12.to i M λb _ m=>.inl m;have a:=K12.cW i E (.inr rfl);rw[←J]at K13;refine⟨wA _,a.rI rfl (a.rI rfl ?_)⟩;refine gY (n:=σ.size) K13 (.inl (.inr rfl)) (K12.cW i d (.inl (.inr rfl))) λX K'=>?_;rw[Ao];exact hR X G K'.e (K'.fin h)
theorem AP {p:Nat->Prop}(h:∃n,p n):∃n,p n/\∀m,p m->n<=m:=by
 obtain⟨n,d⟩:=h
 induction n using Nat.strongRecOn with
 | _ n ih=>
  by_cases hm:∃m,m<n/\p m
  ·obtain⟨m,a,b⟩:=hm;exact ih m a b
  ·exact⟨n,d,λm b=>Nat.le_of_not_lt λa=>hm ⟨m,a,b⟩⟩
theorem Mo {start:eV []->Prop}{round:eV []->eV []}(Inv:Nat->Hp->Prop)(h0:start λh=>∃n,Inv n h)(hr:∀n h,Inv n h->∀J:Hp->Prop,(∀m h',m<n->Inv m h'->J h')->round J h):W6 [] start round:=by
 classical
 refine Ek (λh=>∃n,Inv n h) (λh=>if hx:∃n,Inv n h then(AP hx).choose else 0) h0 λh d=>?_
 have g:=(AP d).choose_spec;refine hr _ h g.1 _ λm h' e b=>⟨⟨m,b⟩,?_⟩;have a:∃n,Inv n h':=⟨m,b⟩;rw[dif_pos a,dif_pos d];exact Nat.lt_of_le_of_lt ((AP a).choose_spec.2 m b) e
inductive iW:Nat->Hw->Nat->Ph->Hw->Int->Int->Prop
 | done {H:Hw} {t:Nat} {p:Ph}:ve H t p->(Wt H t p).2.1=none->iW 1 H t p (QP H t p) (Wt H t p).2.2.1 (Wt H t p).2.2.2
 | next {n:Nat} {H:Hw} {t:Nat} {p p':Ph} {H':Hw} {a e:Int}:ve H t p->(Wt H t p).2.1=some p'->iW n (QP H t p) t p' H' a e->iW (n+1) H t p H' a e
theorem EY {p:Ph}(ht:t<H.bQ.length):∃g,(QP H t p).bQ[t]?=some g/\g.ph=(Wt H t p).2.1:=by
 have a:t<(Wt H t p).1.bQ.length:=by rw[Lg];exact ht
 exact⟨{(Wt H t p).1.bQ[t]with ph:=(Wt H t p).2.1},by simp[QP,eU,Hw.eA,tO,cM a],rfl⟩
end Go.Ar
namespace Go.Ar
open Go Go.Vc Go.Proofs
open Go.Bu (gG)
variable {σ:Hp}{F:Rg}
def Kr (size align:Int):Bool:=decide (1<=size)&&(decide (1<=align)&&(decide (align<=256)&&gG align))
def gE (tb:List bW)(size align:Int):Option Nat:=tb.findIdx? λc=>decide (size<=(c.size:Int))&&((c.size:Int)%align==0)
theorem Oz (n:Int)(h1:1<=n)(h2:n<=256){R:aN}(hR:∀p:Int,(p != n) = !gG n->R p σ):Qf.c n σ R:=by
 refine Qf.o ?_;unfold Qf.v;refine Kf (a:=bN) (bb:=bN) (λ(p q:Int) w=>w=σ/\(p=0/\q=1\/∃k:Nat,k<=8/\p=((2^k:Nat):Int)/\q=((2^(k+1):Nat):Int)/\p<=n)) (λp q _=>1000-q.toNat) ⟨rfl,.inl ⟨rfl,rfl⟩⟩ ?_;rintro(p:Int) (q:Int) w ⟨rfl,hpq⟩;refine cI (λb=>?_) λg=>?_
 ·rcases hpq with⟨rfl,rfl⟩|⟨k,hk,rfl,rfl,hp⟩
  ·exact cA (m:=2) O O ⟨⟨rfl,.inr ⟨0,O,by simp,by simp,O⟩⟩,by simp⟩
  ·have r:k<=7:=by
    apply Classical.byContradiction;intro hc;have:2^9<=2^(k+1):=oK aB O;omega
   have s:=lb (k+1);exact cA (m:=2^(k+1+1)) (by rw[nk 2 (k+1)];omega) (by rw[nk 2 (k+1)];omega) ⟨⟨rfl,.inr ⟨k+1,O,rfl,rfl,b⟩⟩,by rw[nk 2 (k+1)];omega⟩
 ·rcases hpq with⟨rfl,rfl⟩|⟨k,hk,rfl,rfl,hp⟩
  ·omega
  ·refine hR _ ?_;by_cases e:((2^k:Nat):Int)=n
   ·have:gG n=true:=by
     unfold gG;rw[ka];exact⟨k,zU.2 O,by simp[←e]⟩
    rw[this,e];simp
   ·have:gG n=false:=by
     unfold gG;rw[m7];intro j hj he;have d:n=((2^j:Nat):Int):=by simpa using he
     rcases qx j k with h3|h3|h3
     ·have:2^(j+1)<=2^k:=oK aB h3;rw[nk]at this;have:=lb j;omega
     ·subst h3;exact e d.symm
     ·have:2^(k+1)<=2^j:=oK aB h3;omega
    rw[this];simpa using e
theorem Ei {s:Sl}{xs:List (Int×Int×Int)}(ha:gB σ s xs)(hv:Qd xs=true)(size align:Int){R:Int->Int->Hp->Prop}
 (hR:∀σ',bO σ σ'->R (if Kr size align then((gE (xs.map ZV) size align).getD 0:Nat)else 0) (if Kr size align then(if(gE (xs.map ZV) size align).isSome then 0 else 4)else 1) σ'):Z2.c s size align σ R:=by
 refine Z2.o ?_;unfold Z2.v;refine nw (cs:=[.int .i64 size]) λv hz e hb=>nw (cs:=[.int .i64 align]) λv1 V B X=>?_;have Z:=B.bZ hb id;refine Hj (Yc ha (e.trans B)) λg e2=>?_;rw[hv];have K:=e2.bZ Z id;have y:=e2.bZ X id;have x:=(e.trans B).trans e2;refine cG rfl ?_;have key:∀r,r = !Kr size align->(If r (R 0 1 g) (Wl.c s ⟨80,#[],#[.pointer (some ⟨σ.size,0,none⟩),.pointer (some ⟨v.size,0,none⟩)]⟩ g λk v4=>If (decide (k<0)) (R 0 4 v4) (R k 0 v4))):=by
  intro r b;cases hok:Kr size align with
  | false=>
   rw[hok]at b;have:=hR g x;rw[hok]at this;exact cK (by rw[b];rfl) this
  | true=>
   rw[hok]at b;refine cG (by rw[b];rfl) ?_;have G:=hok;simp only[Kr,zF,zS]at G;refine Wl.o ?_;unfold Wl.v;have hlen:=ha.1;have hxl:=((Qr xs).1 hv).2.1;refine ZU (a:=bN) (λ(z:Int) w=>∃i:Nat,z=(i:Int)/\i<=xs.length/\bO g w/\∀j c,j<i->(xs.map ZV)[j]?=some c->(decide (size<=(c.size:Int))&&((c.size:Int)%align==0))=false) (λz _=>xs.length-z.toNat) ⟨0,rfl,O,Ext.refl _ _,λj c h=>O⟩ ?_;rintro(z:Int) w ⟨i,rfl,hi,ew,hno⟩;refine cI (λhlt=>?_) λhge=>?_
   ·have Q:i<xs.length:=by omega
    have C:(xs.map ZV)[i]?=some (ZV xs[i]):=by simp[Q]
    generalize ZV xs[i]=c at C;have F:=Yc ha (x.trans ew);obtain⟨hx,hcok⟩:=UE F hv C;refine U3 F hx ?_;refine HR (all := #[.agg #[.int .i64 (c.size:Int),.int .i64 (c.aF:Int),.int .i64 (c.batch:Int)],.pointer (some ⟨σ.size,0,none⟩),.pointer (some ⟨v.size,0,none⟩)]) (by kernel_rfl) aA ?_;refine ZY.o ?_;unfold ZY.v;refine nw (cs:=[.int .i64 (c.size:Int),.int .i64 (c.aF:Int),.int .i64 (c.batch:Int)]) λE V B D=>?_;have P:=B.bZ (ew.bZ K id) id;have Y:=B.bZ (ew.bZ y id) id;have L:=ew.trans B;have go:∀r,r=(decide (size<=(c.size:Int))&&((c.size:Int)%align==0))->If r (If (decide ((i:Int)<0)) (R 0 4 E) (R (i:Int) 0 E)) (Ar .i64 ((i:Int)+1) λH=>(∃i:Nat,H=(i:Int)/\i<=xs.length/\bO g E/\∀j c,j<i->(xs.map ZV)[j]?=some c->(decide (size<=(c.size:Int))&&((c.size:Int)%align==0))=false)/\xs.length-H.toNat<xs.length-(i:Int).toNat):=by
     intro r b;refine cU (λh1=>fH O ?_) λh0=>?_
     ·have S:gE (xs.map ZV) size align=some i:=by
       obtain⟨W,rfl⟩:=cQ.1 C;exact oF.2 ⟨W,by rw[←b];exact h1,λj M=>by rw[hno j _ M (cM O)];simp⟩
      have:=hR E (x.trans L);rw[hok,S]at this;exact this
     ·exact cA (m:=i+1) O O ⟨⟨i+1,rfl,O,L,λj d M hd=>by
       by_cases e:j=i
       ·subst e;rw[C]at hd;cases hd;rw[←b];exact h0
       ·exact hno j d O hd⟩,O⟩
    refine D.rI rfl (P.xv rfl ?_);refine Ha (λr w=>w=E/\r=(decide (size<=(c.size:Int))&&((c.size:Int)%align==0))) (λr w ⟨N,b⟩=>by subst N;exact go r b) λJ A=>?_;refine cI (λhge=>D.rI rfl (Y.xv rfl (nz O (A _ _ ⟨rfl,?_⟩)))) λhlt2=>A _ _ ⟨rfl,?_⟩
    ·rw[Q8 O,zV (by omega:size<=(c.size:Int)),vL]
    ·rw[zh O,uD]
   ·have S:gE (xs.map ZV) size align=none:=by
     unfold gE;rw[vB];intro c C;obtain⟨j,M⟩:=zN C;have:=(cQ.1 M).1;simp at this;exact hno j c O M
    have:=hR w (x.trans ew);rw[hok,S]at this;exact lV aB this
 refine Cp (λr w=>w=g/\r = !Kr size align) (λr w ⟨N,b⟩=>by subst N;exact key r b) λJ A=>?_;have rd1:∀m,m=g->cell m ⟨σ.size,0,none⟩=some (.int .i64 size):=λm U=>by rw[U,K.cell];rfl
 have u:∀m,m=g->cell m ⟨v.size,0,none⟩=some (.int .i64 align):=λm U=>by rw[U,y.cell];rfl
 refine⟨λm=>m=g,rfl,⟨size,rd1,?_⟩⟩;refine cI (λh1=>A _ _ ⟨rfl,?_⟩) λh1=>⟨align,u,cI (λh2=>A _ _ ⟨rfl,?_⟩) λh2=>⟨align,u,cI (λh3=>A _ _ ⟨rfl,?_⟩) λh3=>⟨align,u,⟨align,u,?_⟩⟩⟩⟩
 ·simp only[Kr,zh (by omega:¬1<=size),uD,zv]
 ·simp only[Kr,zh (by omega:¬1<=align),uD,sH,zv]
 ·simp only[Kr,zh (by omega:¬align<=256),uD,sH,zv]
 ·refine Oz align O O λp hp=>⟨rfl,A _ _ ⟨rfl,?_⟩⟩;rw[hp];simp only[Kr,zV (by omega:1<=size),zV (by omega:1<=align),zV (by omega:align<=256),vL]
end Go.Ar
namespace Go.Ar
open Go Go.Vc Go.Proofs
variable {σ u u':Hp}{F B P Q:Rg}{L:dR}{H H':Hw}{t k n pb:Nat}{A:AR}{Y:Lay}{x:eC}{g:Th}{c:bW}{l:Li}{cs:List Value}
def gV (c:bW):Int×Int×Int:=((c.size:Int),(c.aF:Int),(c.batch:Int))
theorem E4 (tb:List bW):(tb.map gV).map ZV=tb:=by
 rw[zt]
 conv=>rhs;rw[←wa tb]
 apply kD;intro c _;rfl
theorem Hz {s:Sl}{tb:List bW}(h:cR s 3 (gg tb) σ F):gB σ s (tb.map gV):=by
 have w:=h.1;rw[Kd]at w;refine⟨by simp;omega,λi x y z g=>?_⟩;rw[ze,qH]at g;obtain⟨c,A,j⟩:=g;obtain⟨D,m,r⟩:=HJ A;simp only[gV,Prod.mk.injEq]at j;obtain⟨rfl,rfl,rfl⟩:=j;obtain⟨b,o,d,e⟩:=h.cell D;obtain⟨C,p,a,B⟩:=h.cell m;rw[d]at a;cases a;obtain⟨C,p,a,u⟩:=h.cell r;rw[d]at a;cases a;exact⟨b,o,d,QH e,by rw[show o+i*3=o+3*i by omega];exact e,by rw[show o+i*3+1=o+(3*i+1) by omega];exact B,by rw[show o+i*3+2=o+(3*i+2) by omega];exact u⟩
def kr (tb:List bW):Prop:=Qd (tb.map gV)=true
def ja (tb:List bW)(kind size align addr:Int):Option Ph:=
 if kind=0 then(if 1<=size/\size<=16384 then(if Kr size align then(match gE tb size align with
  | some k=>some (.take k)
  | none=>some (.eR ((size+255).toNat/256)))else none)else none)
 else if kind=1 then some (.find addr)else if kind=2 then some .drain else none
theorem ME (h:HH σ F L H)(hv:kr H.tb)(kind size align addr:Int){R:Value->Hp->Prop}(hR:∀σ',bO σ σ'->R (nv (ja H.tb kind size align addr)) σ'):Yx.c (aW L.p) kind size align addr σ R:=by
 refine Yx.o ?_;unfold Yx.v;refine nw (cs:=[.int .i64 kind,.int .i64 size,.int .i64 align,.int .i64 addr]) λv N e u=>u.rI rfl ?_;have C:=h.bK e;have a:=hR v e;refine cU (λz=>?_) λz=>?_
 ·have i:kind=0:=by simpa using z
  have M:ja H.tb kind size align addr=(if 1<=size/\size<=16384 then(if Kr size align then(match gE H.tb size align with
   | some k=>some (.take k)
   | none=>some (.eR ((size+255).toNat/256)))else none)else none):=by unfold ja;rw[zB i]
  rw[M]at hR a;refine u.rI rfl (Ha (λr w=>w=v/\r = !decide (1<=size/\size<=16384)) (λr w ⟨E,y⟩=>?_) λJ B=>?_)
  ·subst E;by_cases hs:1<=size/\size<=16384
   ·rw[zB hs]at hR;rw[zV hs]at y;refine cG (by rw[y];rfl) ⟨λm=>m=w,rfl,aG ⟨L.dB,λm x=>by rw[x,add_lit,C.hd.cell];rfl,⟨size,λm x=>by rw[x,add_lit,u.cell];rfl,⟨align,λm x=>by rw[x,add_lit,u.cell];rfl,?_⟩⟩⟩⟩;refine Ei (Hz C.jQ) hv size align λG D=>?_;rw[E4];have A:=D.bZ u id;have b:=hR G (e.trans D);cases hok:Kr size align with
    | false=>
     rw[hok]at b;exact cG rfl (cG rfl b)
    | true=>
     rw[hok]at b;simp only[zT]at b ⊢;cases hcl:gE H.tb size align with
     | some k=>rw[hcl]at b;exact cK rfl b
     | none=>
      rw[hcl]at b;refine cG rfl (cK rfl (A.rI rfl (ar O O (ar O O (nz aB (ar (by rw[YN O];omega) (by rw[YN O];omega) ?_))))));rw[YN O];have:(size+256-1)/256=(((size+255).toNat/256:Nat):Int):=by omega
      rw[this];exact b
   ·rw[zA hs]at a;rw[zh hs]at y;exact cK (by rw[y];rfl) a
  ·refine cI (λK=>B _ _ ⟨rfl,?_⟩) λK=>u.rI rfl (B _ _ ⟨rfl,?_⟩)
   ·rw[zh O];rfl
   ·by_cases h2:size>16384
    ·rw[zV h2,zh O];rfl
    ·rw[zh h2,zV O];rfl
 ·have i:kind≠0:=by simpa using z
  refine cU (λj=>u.rI rfl ?_) λj=>?_
  ·have d:kind=1:=by simpa using j
   unfold ja at a;rw[zA i,zB d]at a;exact a
  ·have d:kind≠1:=by simpa using j
   refine cU (λs=>?_) λs=>?_
   ·have g:kind=2:=by simpa using s
    unfold ja at a;rw[zA i,zA d,zB g]at a;exact a
   ·have g:kind≠2:=by simpa using s
    unfold ja at a;rw[zA i,zA d,zA g]at a;exact a
def KG (H:Hw)(thread kind size align addr:Int):Int ⊕ (Nat×Ph):=
 if 0<=thread/\thread<(H.bQ.length:Int)then(match H.bQ[thread.toNat]? with
  | some g=>(if g.ph=none then(match ja H.tb kind size align addr with
   | some p=>.inr (thread.toNat,p)
   | none=>.inl 1)else .inl 5)
  | none=>.inl 1)else .inl 1
theorem OG (h:HH σ F L H)(hv:kr H.tb)(thread kind size align addr:Int){R:aN}(h0:∀e,KG H thread kind size align addr=.inl e->e≠0->∀σ',Ext F σ σ'->HH σ' (Grow F σ) L H->R e σ')
 (h1:∀t p,KG H thread kind size align addr=.inr (t,p)->thread=(t:Int)->t<H.bQ.length->∀σ',Ext F σ σ'->HH σ' (Grow F σ) L (eU H t (some p))->R 0 σ'):Yo.c (aW L.p) thread kind size align addr σ R:=by
 refine Yo.o ?_;unfold Yo.v;refine nw (cs:=[.int .i64 kind,.int .i64 size,.int .i64 align,.int .i64 addr]) λv z e d=>?_;have K1:=(HK.start h).box e z;refine KB K1.h (cG rfl (Ln K1.h thread ?_));by_cases hth:0<=thread/\thread<(H.bQ.length:Int)
 ·obtain⟨t,rfl⟩:∃t:Nat,thread=(t:Int):=⟨thread.toNat,O⟩;have j:t<H.bQ.length:=by omega
  obtain⟨x,g,m,i⟩:=h.th j;have a:KG H (t:Int) kind size align addr=(if g.ph=none then(match ja H.tb kind size align addr with
   | some p=>.inr (t,p)
   | none=>.inl 1)else .inl 5):=by
   unfold KG;rw[zB hth,dC,i]
  refine cG (by rw[zV hth];rfl) (aG (K1.h.hd.rS rfl (K1.h.tR m i ⟨wA _,?_⟩)));cases hp:g.ph with
  | some p=>
   rw[hp,zA aA]at a;exact cK (by rw[Ao];rfl) (h0 5 a aB v K1.e (K1.fin h))
  | none=>
   rw[hp,zB rfl]at a;refine cG rfl (d.rI rfl (d.rI rfl (d.rI rfl (d.rI rfl (ME K1.h hv kind size align addr λv3 w=>⟨wA _,?_⟩)))));have K3:=K1.fr w;rw[Ao];cases hq:ja H.tb kind size align addr with
   | none=>
    rw[hq]at a;exact cK rfl (h0 1 a aB v3 K3.e (K3.fin h))
   | some p=>
    rw[hq]at a;refine cG rfl (aG (K3.h.hd.rS rfl (K3.h.sB m i (some p) λr s y=>?_)));have K4:=K3.to s y λb _ d=>.inl d;have u:eU H t (some p) = {H with bQ:=H.bQ.set t {g with ph:=some p}}:=ZM i _;rw[←u]at K4;exact h1 t p a rfl j r K4.e (K4.fin h)
 ·have a:KG H thread kind size align addr=.inl 1:=by unfold KG;rw[zA hth]
  exact cK (by rw[zh hth];rfl) (h0 1 a aB v K1.e (K1.fin h))
theorem RS {p:Option Ph}(ht:t<H.bQ.length):∃g,(eU H t p).bQ[t]?=some g/\g.ph=p:=
 ⟨{H.bQ[t]with ph:=p},by simp[eU,Hw.eA,tO,cM ht],rfl⟩
theorem Lx (hso:H6)(h:HH σ F L H)(hv:kr H.tb)(thread kind size align addr:Int){R:Int->Int->Hp->Prop}(h0:∀e,KG H thread kind size align addr=.inl e->e≠0->∀σ',Ext F σ σ'->HH σ' (Grow F σ) L H->R 0 e σ')
 (h1:∀t p,KG H thread kind size align addr=.inr (t,p)->∃n H' a e,iW n (eU H t (some p)) t p H' a e/\∀σ' ts',Ext F σ σ'->HH σ' (Grow F σ) {L with ts:=ts'} H'->R a e σ'):XQ.c (aW L.p) thread kind size align addr σ R:=by
 refine XQ.o ?_;unfold XQ.v;refine nw (cs:=[.int .i64 kind,.int .i64 size,.int .i64 align,.int .i64 addr]) λv hz e i=>i.rI rfl (i.rI rfl (i.rI rfl (i.rI rfl ?_)));have K1:=(HK.start h).box e hz;refine OG K1.h hv thread kind size align addr (λx he A v1 Y u=>?_) λt p ae ad ht v1 Y u=>?_
 ·have K2:=K1.to Y u λb _ i=>i;exact cK (by simpa using A) (h0 x he A v1 K2.e (K2.fin h))
 ·subst ad;have K2:=K1.to Y u λb _ i=>i;obtain⟨n,Hf,a,x,d,E⟩:=h1 t p ae;refine cG rfl (Mo (λn w=>∃(B P:Rg) (ts:List eC) (H:Hw) (p:Ph),HK F σ B w P {L with ts:=ts} H/\(∃g,H.bQ[t]?=some g/\g.ph=some p)/\iW n H t p Hf a x) ⟨n,_,_,L.ts,_,p,K2,RS ht,d⟩ ?_);rintro n w ⟨B,P,ts,H2,j,K,⟨g,hg,af⟩,d⟩ J hJ;have go:ve H2 t j->((Wt H2 t j).2.1.isNone=true->(Wt H2 t j).2.2.1=a/\(Wt H2 t j).2.2.2=x/\QP H2 t j=Hf)->((Wt H2 t j).2.1.isNone=false->∃m M,m<n/\(Wt H2 t j).2.1=some M/\iW m (QP H2 t j) t M Hf a x)->YZ.c (aW L.p) (t:Int) w λab D G t223 v3=>Nw (.cells #[.int .i64 0,.int .i64 0] 156 (0,0)) v3 λr v4=>dL (r.add 0) (.int .i64 D) v4 λv5=>dL (r.add 1) (.int .i64 G) v5 λs=>If ab (fF .i64 (r.add 0) s λW=>fF .i64 (r.add 1) s λS=>R W S s) (J s):=by
   intro hok hd hn;refine Sc hso K.h hg af hok λv3 C e3 aa=>?_;have K3:=K.to e3 aa λb _ i=>i;refine nw (cs:=[.int .i64 0,.int .i64 0]) λv4 N e4 V=>?_;have K4:=K3.box e4 N;refine V.s1 aA λv5 o5 b5=>b5.s1 aA λs o6 b6=>?_;have K6:=(K4.own o5 (.inr rfl)).own o6 (.inr rfl);refine cU (λac=>?_) λag=>?_
   ·obtain⟨q1,q2,q3⟩:=hd ac;rw[q3]at K6;refine b6.rI rfl (b6.rI rfl ?_);rw[q1,q2];exact E s C K6.e (K6.fin h)
   ·obtain⟨m,M,hm,Z,Q⟩:=hn ag;have U:t<H2.bQ.length:=(cQ.1 hg).1;obtain⟨g',X,z⟩:=EY (p:=j) U;exact hJ m s hm ⟨_,_,C,_,M,K6,⟨g',X,by rw[z,Z]⟩,Q⟩
  cases d with
  | done hok hnone=>exact go hok (λ_=>⟨rfl,rfl,rfl⟩) λy=>by rw[hnone]at y;cases y
  | next hok hsome hrun'=>exact go hok (λy=>by rw[hsome]at y;cases y) λ_=>⟨_,_,Nat.lt_succ_self _,hsome,hrun'⟩
end Go.Ar
namespace Go.Ar
open Go Go.Vc Go.Proofs
variable {σ u w w':Hp}{F B P Q:Rg}{n:Nat}{cs:List Value}{tb:List bW}{cf:Cf}
def Ug (tb:List bW)(cf:Cf):Hw:=⟨tb,cf,Vq cf.aF,List.replicate cf.ik (fG cf.aF cf.room tb),List.replicate cf.threads ⟨List.replicate tb.length iC,[],none⟩,[]⟩
def sx (p a t b r:Int):Bool:=decide (32<=p)&&decide (p<=1024)&&(p%16==0)&&decide (1<=a)&&decide (a<=4)&&decide (1<=t)&&decide (t<=4)&&decide (0<=b)&&decide (b<=65536)&&decide (0<=r)&&decide (r<=8)
theorem lvl {K:aO}{r:Bool}{a:Addr}{x:Int}{k:IntKind}{f:Int->Bool}(hl:∀{K':Int->Prop},K' x->fF k a w K')(h:K (r&&f x) w):bY K λJ=>If r (fF k a w λt=>J (f t) w) (J false w):=
 bY.intro (cU (λb=>hl (by rw[b]at h;exact h)) λb=>by rw[b]at h;exact h)
theorem SA (p a t b r:Int){R:aO}(hR:∀σ',bO σ σ'->R (sx p a t b r) σ'):QA.c p a t b r σ R:=by
 refine QA.o ?_;unfold QA.v;refine nw (cs:=[.int .i64 p,.int .i64 a,.int .i64 t,.int .i64 b,.int .i64 r]) λv A e g=>g.rI rfl ?_;have i:=hR v e;unfold sx at i;refine Ha (λm w=>w=v/\m=(decide (32<=p)&&decide (p<=1024))) (λm w ⟨x,u⟩=>?_) λJ j=>?_
 ·subst x;subst u;refine Ha (λm y=>y=w/\m=(decide (32<=p)&&decide (p<=1024)&&(p%16==0))) (λm y ⟨x,u⟩=>?_) λJ j=>?_
  ·rw[x];subst u;exact lvl (λd=>g.rI rfl d) (lvl (λd=>g.rI rfl d) (lvl (λd=>g.rI rfl d) (lvl (λd=>g.rI rfl d) (lvl (λd=>g.rI rfl d) (lvl (λd=>g.rI rfl d) (lvl (λd=>g.rI rfl d) (lvl (λd=>g.rI rfl d) i)))))))
  ·refine cU (λs=>g.rI rfl (nz aB (j _ _ ⟨rfl,?_⟩))) λz=>j _ _ ⟨rfl,?_⟩
   ·simp only[zF,zS]at s;rw[Q8 O,zV s.1,zV s.2];rfl
   ·rw[z];rfl
 ·refine cI (λs=>g.rI rfl (j _ _ ⟨rfl,?_⟩)) λz=>j _ _ ⟨rfl,?_⟩
  ·rw[zV (by omega:32<=p)];rfl
  ·rw[zh O];rfl
structure pF where
 p:Nat
 dB:Sl
 lm:Nat
 hs:Option Nat
 hp:Option Nat
 aw:Sl
 al:List Nat
 ha:Sl
 tw:Sl
 tl:List Value
 ht:Sl
 ys:List Lay
 cs:List ie
def rG (cf:Cf)(N:pF):List Value:=[.slice N.dB.a N.dB.len N.dB.cap,.int .i64 (cf.aF:Int),.int .i64 (cf.ik:Int),.int .i64 (cf.threads:Int),.int .i64 (cf.dA:Int),.int .i64 (cf.room:Int),
 .pointer (N.hp.map λq=>⟨q,0,none⟩),.slice N.ha.a N.ha.len N.ha.cap,.slice N.ht.a N.ht.len N.ht.cap,.map (some N.lm)]
def sD (n room:Nat)(tb:List bW)(y:Option Lay):Hp->Rg->Prop:=λσ F=>match y with
 | some Y=>cX σ F Y (fG n room tb) (cF (fG n room tb) Y)
 | none=>True
def rW (tb:List bW)(bud:Nat)(y:Option ie):Hp->Rg->Prop:=λσ F=>match y with
 | some Y=>eH σ F Y tb bud (List.replicate tb.length iC)
 | none=>True
def Ae (n:Nat)(q:Option Nat):Hp->Rg->Prop:=λσ F=>match q with
 | some q=>dE σ F q (Vq n)
 | none=>True
def jB (tb:List bW)(cf:Cf)(N:pF):lu->Hp->Rg->Prop
 | .hd=>iH N.p (rG cf N)
 | .dB=>cR N.dB 3 (gg tb)
 | .sp=>Ae cf.aF N.hs
 | .fY=>bR N.aw 1 (eX N.al)
 | .cL=>bR N.tw 3 N.tl
 | .live=>j4 N.lm .i64 (.ag 4) []
 | .ar k=>sD cf.aF cf.room tb N.ys[k]?
 | .ca k=>rW tb cf.dA N.cs[k]?
 | .hn _=>λ_ _=>True
theorem sD.loc (n room:Nat)(tb:List bW)(y:Option Lay):dQ (sD n room tb y):=by
 intro σ σ' F G h hz hs;cases y with
 | some Y=>exact cX.loc _ _ _ _ h hz hs
 | none=>trivial
theorem rW.loc (tb:List bW)(bud:Nat)(y:Option ie):dQ (rW tb bud y):=by
 intro σ σ' F G h hz hs;cases y with
 | some Y=>exact eH.loc _ _ _ _ h hz hs
 | none=>trivial
theorem Ae.loc (n:Nat)(q:Option Nat):dQ (Ae n q):=by
 intro σ σ' F G h hz hs;cases q with
 | some q=>exact dE.loc _ _ _ _ h hz hs
 | none=>trivial
theorem jB.loc {N:pF}:∀i,dQ (jB tb cf N i)
 | .hd=>iH.loc _ _
 | .dB=>cR.loc _ _ _
 | .sp=>Ae.loc _ _
 | .fY=>bR.loc _ _ _
 | .cL=>bR.loc _ _ _
 | .live=>j4.loc _ _ _ _
 | .ar k=>sD.loc _ _ _ _
 | .ca k=>rW.loc _ _ _
 | .hn _=>λ_ _ _ _ _ _ _=>trivial
structure NK (σ:Hp) (B:Rg) (w:Hp) (P:Rg) (tb:List bW) (cf:Cf) (N:pF):Prop where
 sep:Sep (jB tb cf N) w P
 e:bO σ w
 p:∀b,P b->σ.size<=b/\¬B b/\b<w.size
 b:∀b,B b->σ.size<=b/\b<w.size
variable {N N':pF}
theorem NK.fr (K:NK σ B w P tb cf N)(e:bO w w'):NK σ B w' P tb cf N:=
 ⟨(Sep.loc jB.loc).bK K.sep e,K.e.trans e,λb a=>⟨(K.p b a).1,(K.p b a).2.1,by have:=(K.p b a).2.2;have:=e.1;omega⟩,λb a=>by have:=K.b b a;have:=e.1;omega⟩
theorem NK.box (K:NK σ B w P tb cf N)(e:bO w w')(hz:w'.size=w.size+1):NK σ (λb=>B b\/b=w.size) w' P tb cf N:=by
 have h:=K.fr e;have i:=K.e.1;exact⟨h.sep,h.e,λb a=>⟨(K.p b a).1,λd=>d.elim (K.p b a).2.1 λg=>by have:=(K.p b a).2.2;omega,(h.p b a).2.2⟩,λb a=>a.elim (h.b b) λg=>O⟩
theorem NK.drop (K:NK σ B w P tb cf N){B':Rg}(hb:∀b,B' b->B b):NK σ B' w P tb cf N:=⟨K.sep,K.e,λb h=>⟨(K.p b h).1,λa=>(K.p b h).2.1 (hb b a),(K.p b h).2.2⟩,λb h=>K.b b (hb b h)⟩
theorem NK.put (K:NK σ B w P tb cf N)(e:bO w w')(i:lu)(hj:∀j,j≠i->jB tb cf N' j=jB tb cf N j)(hi:jB tb cf N' i w' (λb=>w.size<=b)):NK σ B w' (λb=>P b\/w.size<=b/\b<w'.size) tb cf N':=by
 have h:=K.fr e;have m:=K.e.1;refine⟨h.sep.put jB.loc i (G:=λb=>w.size<=b/\b<w'.size) (λb a g=>by have:=(K.p b g).2.2;omega) hj ((jB.loc i).mono hi λb a d=>⟨d,a⟩) (jB.loc i),h.e,λb a=>?_,h.b⟩;rcases a with a|a
 ·exact h.p b a
 ·exact⟨O,λd=>by have:=(K.b b d).2;omega,a.2⟩
theorem NK.step (K:NK σ B w P tb cf N)(i:lu):∃G:Rg,(∀b,G b->P b)/\jB tb cf N i w G/\∀(w':Hp) (N':pF) (G':Rg),(∀j,j≠i->jB tb cf N' j=jB tb cf N j)->Ext G w w'->(∀b,G' b->G b\/w.size<=b/\¬B b)->jB tb cf N' i w' G'->(∀b,B b->b<w'.size) →
 NK σ B w' (λb=>(P b/\¬G b\/G' b)/\b<w'.size) tb cf N':=by
 obtain⟨G,m,y,_,g⟩:=K.sep.kK jB.loc i;refine⟨G,m,y,λw' N' G' s e r x u=>⟨?_,?_,λb a=>?_,λb a=>⟨(K.b b a).1,u b a⟩⟩⟩
 ·have:=g w' (jB tb cf N') G' s e (λb a=>(r b a).imp id λd=>d.1) x (jB.loc _);refine(Sep.loc jB.loc).mono this λb a d=>⟨?_,a⟩;exact d.imp (λd=>⟨d.1,d.2.2⟩) id
 ·exact Ext.fC K.e e λb a=>.inr (K.p b (m b a)).1
 ·have z:=K.e.1;rcases a.1 with h1|h1
  ·exact⟨(K.p b h1.1).1,(K.p b h1.1).2.1,a.2⟩
  ·rcases r b h1 with h2|h2
   ·exact⟨(K.p b (m b h2)).1,(K.p b (m b h2)).2.1,a.2⟩
   ·exact⟨O,h2.2,a.2⟩
theorem A7 {K:eV [.p]}{body:eV [.p]->Prop}(P:Option Addr->Hp->Prop)(h1:∀r w,P r w->K r w)(h2:∀J:eV [.p],(∀r w,P r w->J r w)->body J):Jn [.p] K body:=Jn.intro (h2 K h1)
def gU:Sl:=⟨none,0,0⟩
def qy (cs:List ie):List Value:=cs.flatMap λc=>[.pointer (some ⟨c.p,0,none⟩),.slice none 0 0,.nilIface]
def N0 (p:Nat)(dB:Sl)(lm:Nat):pF:=⟨p,dB,lm,none,none,gU,[],gU,gU,[],gU,[],[]⟩
def NB (p:Nat)(dB:Sl)(lm q:Nat)(aw:Sl)(ys:List Lay)(tw:Sl)(cs:List ie):pF:=⟨p,dB,lm,some q,some q,aw,ys.map (·.p),aw,tw,qy cs,tw,ys,cs⟩
theorem Ez {p lm:Nat}{dB:Sl}{D:Rg}(e:bO σ w)(hz:σ.size<w.size)(hp:bX w p (rG cf (N0 p dB lm)))(hm:dK w lm .i64 (.ag 4) [])(ht:cR dB 3 (gg tb) w D)(hD:∀b,D b->σ.size<b/\b<w.size/\b≠p/\b≠lm)(hpl:p≠lm)(h1:σ.size<p)(h2:σ.size<lm) :
 NK σ (· = σ.size) w (λb=>D b\/b=p\/b=lm) tb cf (N0 p dB lm):=by
 have g:=hp.lt;have d:=hm.lt;refine⟨⟨λb=>if b=p then .hd else if b=lm then .live else .dB,λi=>?_⟩,e,λb a=>?_,λb a=>O⟩
 ·cases i with
  | hd=>exact⟨⟨.inr (.inl rfl),zB rfl⟩,hp⟩
  | live=>exact⟨⟨.inr (.inr rfl),by show(if lm=p then lu.hd else if lm=lm then lu.live else lu.dB)=.live;rw[zA (Ne.symm hpl),zB rfl]⟩,hm⟩
  | dB=>exact aH.mono ht λb _ a=>⟨.inl a,by show(if b=p then lu.hd else if b=lm then lu.live else lu.dB)=.dB;rw[zA (hD b a).2.2.1,zA (hD b a).2.2.2]⟩
  | sp=>trivial
  | fY=>exact bR.nil _ _ _ _
  | cL=>exact bR.nil _ _ _ _
  | ar k=>trivial
  | ca k=>trivial
  | hn k=>trivial
 ·rcases a with a|a|a
  ·have:=hD b a;omega
  ·omega
  ·omega
theorem NK.ye (K:NK σ B w P tb cf N):P N.p/\bX w N.p (rG cf N):=by
 obtain⟨G,b,a⟩:=K.sep.get .hd;exact⟨b _ a.1,a.2⟩
theorem NK.oM (K:NK σ B w P tb cf N)(N':pF)(hN':∀j,j≠.hd->jB tb cf N' j=jB tb cf N j)(hp:N'.p=N.p){i:Nat}{v:Value}(hs:(rG cf N).set i v=rG cf N')(hi:i<10){Kk:aP}(hK:∀w' P',NK σ B w' P' tb cf N'->QD w w' N.p->Kk w'):dL (Addr.add ⟨N.p,0,none⟩ i) v w Kk:=by
 obtain⟨G,m,e,d⟩:=K.step .hd;have e:iH N.p (rG cf N) w G:=e;refine e.2.s1 (by simpa[rG]using hi) λw' o g=>hK w' _ (d w' N' G hN' (o.ext.sub λx a=>by rw[a];exact e.1) (λx a=>.inl a) ?_ λx a=>by have:=(K.b x a).2;have:=o.1;omega) o;show iH N'.p (rG cf N') w' G;rw[zG,hs]at g;rw[hp];exact⟨e.1,g⟩
theorem Tc {Y:Lay}(h:N'.ys=N.ys++[Y])(hr:∀j,(∀k,j≠.ar k)->jB tb cf N' j=jB tb cf N j):∀j,j≠lu.ar N.ys.length->jB tb cf N' j=jB tb cf N j:=by
 intro j hj;cases j with
 | ar k=>
  have a:k≠N.ys.length:=λe=>hj (by rw[e]);show sD _ _ _ N'.ys[k]?=sD _ _ _ N.ys[k]?;rw[h]
  congr 1
  rcases Nat.lt_or_gt_of_ne a with h1|h1
  ·rw[zd h1]
  ·rw[zZ aE,zZ O]
 | _=>exact hr _ (λk e=>by cases e)
theorem Py {Y:ie}(h:N'.cs=N.cs++[Y])(hr:∀j,(∀k,j≠.ca k)->jB tb cf N' j=jB tb cf N j):∀j,j≠lu.ca N.cs.length->jB tb cf N' j=jB tb cf N j:=by
 intro j hj;cases j with
 | ca k=>
  have a:k≠N.cs.length:=λe=>hj (by rw[e]);show rW _ _ N'.cs[k]?=rW _ _ N.cs[k]?;rw[h]
  congr 1
  rcases Nat.lt_or_gt_of_ne a with h1|h1
  ·rw[zd h1]
  ·rw[zZ aE,zZ O]
 | _=>exact hr _ (λk e=>by cases e)
end Go.Ar
namespace Go.Ar
open Go Go.Vc Go.Proofs
variable {σ u w w':Hp}{F B P Q:Rg}{n:Nat}{cs:List Value}{tb:List bW}{cf:Cf}{N:pF}
theorem Jg (p a t b r:Int):sx p a t b r=true↔(32<=p/\p<=1024/\p%16=0)/\(1<=a/\a<=4)/\(1<=t/\t<=4)/\(0<=b/\b<=65536)/\0<=r/\r<=8:=by
 simp only[sx,zF,zS,zX];omega
theorem Bj (g:Gl σ)(gd:Gd σ):iY (λb=>σ.size<=b)/\¬(σ.size<=1):=by
 refine⟨?_,λh=>by have:=Dk gd;omega⟩;have d:iY (λ_=>False):=λb a=>a.elim;exact(d.grow g).sub λb a=>.inr a
theorem NW (cs:List ie)(ls:List Li):ib (cs.map λc=>⟨c,gU⟩) (List.replicate cs.length ⟨ls,[],none⟩)=qy cs:=by
 induction cs with
 | nil=>rfl
 | cons c cs ih=>
  have a:ib ((c::cs).map λc=>(⟨c,gU⟩:eC)) (List.replicate (c::cs).length ⟨ls,[],none⟩)=jP (⟨c,gU⟩,⟨ls,[],none⟩)++ib (cs.map λc=>(⟨c,gU⟩:eC)) (List.replicate cs.length ⟨ls,[],none⟩):=rfl;rw[a,ih];rfl
theorem Mh (cs:List ie):(qy cs).length=cs.length*3:=by
 induction cs with
 | nil=>rfl
 | cons c cs ih=>simp only[qy,mO,zK,zP,mh]at *;omega
set_option maxRecDepth 8000 in
theorem Dv {s:Sl}{xs:List (Int×Int×Int)}(ha:gB σ s xs)(g:Gl σ)(gd:Gd σ)(p a t b r:Int){R:Option Addr->Int->Hp->Prop}
 (h2:Qd xs=false->∀σ',bO σ σ'->R none 2 σ')
 (h1:Qd xs=true->sx p a t b r=false->∀σ',bO σ σ'->R none 1 σ')
 (h0:Qd xs=true->sx p a t b r=true->∀σ' L,bO σ σ'->HH σ' (λq=>σ.size<=q) L (Ug (xs.map ZV) ⟨p.toNat,a.toNat,t.toNat,b.toNat,r.toNat⟩)->R (some ⟨L.p,0,none⟩) 0 σ') :
 Kw.c s p a t b r σ R:=by
 refine Kw.o ?_;unfold Kw.v;refine nw (cs:=[.int .i64 p,.int .i64 a,.int .i64 t,.int .i64 b,.int .i64 r]) λv hz e y=>?_;refine Hj (Yc ha e) λv1 e1=>?_;cases hv:Qd xs with
 | false=>exact cK rfl (h2 hv v1 (e.trans e1))
 | true=>
 have X:=e1.bZ y id;refine cG rfl (X.rI rfl (X.rI rfl (X.rI rfl (X.rI rfl (X.rI rfl (SA p a t b r λv2 e2=>?_))))));have W:=(e.trans e1).trans e2;cases hc:sx p a t b r with
 | false=>exact cK rfl (h1 hv hc v2 W)
 | true=>
 have hcf:=(Jg p a t b r).1 hc;obtain⟨p,rfl⟩:∃n:Nat,p=(n:Int):=⟨p.toNat,O⟩;obtain⟨a,rfl⟩:∃n:Nat,a=(n:Int):=⟨a.toNat,O⟩;obtain⟨t,rfl⟩:∃n:Nat,t=(n:Int):=⟨t.toNat,O⟩;obtain⟨b,rfl⟩:∃n:Nat,b=(n:Int):=⟨b.toNat,O⟩;obtain⟨r,rfl⟩:∃n:Nat,r=(n:Int):=⟨r.toNat,O⟩;simp only[dC]at h0;have h0:=h0 hv hc;have A:=e2.bZ X id;have hxl:=(Qr xs).1 hv;have hz2:=W.1;have hz02:σ.size<v2.size:=A.lt;generalize hcfd:(⟨p,a,t,b,r⟩:Cf)=cf at h0;generalize htbd:xs.map ZV=tb at h0;have hdE:∀(q:Nat) (dB:Sl) (C:Nat),rG cf (N0 q dB C)=[.slice dB.a dB.len dB.cap,.int .i64 (p:Int),.int .i64 (a:Int),.int .i64 (t:Int),.int .i64 (b:Int),.int .i64 (r:Int),.pointer none,.slice none 0 0,.slice none 0 0,.map (some C)]:=λq dB C=>by rw[←hcfd];rfl
 refine cG rfl (A7 (λvh w=>∃P q dB C,vh=some ⟨q,0,none⟩/\NK σ (· = σ.size) w P tb cf (N0 q dB C)/\bX w σ.size [.int .i64 (p:Int),.int .i64 (a:Int),.int .i64 (t:Int),.int .i64 (b:Int),.int .i64 (r:Int)]) (λvh w ⟨P,q,dB,C,hvh,K,hbw⟩=>?_) λJ hJ=>?_)
 ·subst hvh;refine hbw.rI rfl (PM (n:=p) O O λv4 sp e4 _ hS=>?_);have hp:cf.aF=p:=by rw[←hcfd]
  have hroom:cf.room=r:=by rw[←hcfd]
  have hbud:cf.dA=b:=by rw[←hcfd]
  have K1:NK σ (· = σ.size) v4 _ tb cf {N0 q dB C with hs:=some sp}:=K.put e4 .sp (λj H=>by cases j<;>first|rfl|exact absurd rfl H) (by
   show dE v4 _ sp (Vq cf.aF);rw[hp];exact hS)
  have hbw4:=e4.bZ hbw id;refine aG (K1.oM (NB q dB C sp gU [] gU []) (λj H=>by cases j<;>first|rfl|exact absurd rfl H) rfl (i:=6) rfl O λv5 P5 K5 o5=>?_)
  have af:∀{w:Hp} {P:Rg} {N:pF},NK σ (· = σ.size) w P tb cf N->σ.size≠N.p:=λK e=>(K.p _ K.ye.1).2.1 e.symm;have hbw5:=Ws o5 hbw4 (af K1);refine hbw5.rI rfl ?_;refine ZU (a:=bN) (λ(z:Int) w=>∃(P:Rg) (aw:Sl) (ys:List Lay),z=(ys.length:Int)/\ys.length<=a/\(∀Y∈ys,Y.hs=sp)/\NK σ (· = σ.size) w P tb cf (NB q dB C sp aw ys gU [])/\bX w σ.size [.int .i64 (p:Int),.int .i64 (a:Int),.int .i64 (t:Int),.int .i64 (b:Int),.int .i64 (r:Int)]) (λz _=>a-z.toNat) ⟨P5,gU,[],rfl,by simp,by simp,K5,hbw5⟩ ?_;rintro(z:Int) w6 ⟨P6,aw,ys,rfl,hyl,hys,K6,hbw6⟩;refine cI (λhlt=>?_) λhge=>?_
  ·refine⟨λu=>u=w6,rfl,aG ⟨some ⟨sp,0,none⟩,λu hu=>by cases hu;rw[add_lit];exact(bX.cell (b:=q) K6.ye.2).trans rfl,⟨(r:Int),λu hu=>by cases hu;rw[add_lit,hbw6.cell];rfl,?_⟩⟩⟩;obtain⟨GS,hGS,hSp⟩:=K6.sep.get .sp;have hSp:dE w6 GS sp (Vq cf.aF):=hSp;have hnl:(Vq cf.aF).st.length=p:=by rw[hp];simp[Vq]
   have hnE:lP xs (Vq cf.aF).st.length (r:Int)=0:=by
    unfold lP;rw[zB hv,hnl,zB O]
   refine TR (Yc ha K6.e) hSp (r:Int) (λhne=>absurd hnE hne) λ_ v7 Y e7 hYh hA=>?_;rw[hnl,dC,htbd]at hA;have K7:NK σ (· = σ.size) v7 _ tb cf {NB q dB C sp aw ys gU []with ys:=ys++[Y]}:=K6.put e7 (.ar ys.length) (Tc (N:=NB q dB C sp aw ys gU []) rfl (λj H=>by
    cases j with
    | ar k=>exact absurd rfl (H k)
    | _=>rfl)) (by
    show sD cf.aF cf.room tb (ys++[Y])[ys.length]? v7 _;rw[zn (zD _),pW,hp,hroom];exact hA)
   have Q:=e7.bZ hbw6 id;refine aG (K7.ye.2.rS (a:=aw.a) (n:=aw.len) (c:=aw.cap) rfl (nw (cs:=[.pointer (some ⟨Y.p,0,none⟩)]) λv8 hz8 e8 hb8=>?_));have K8:=K7.box e8 hz8;obtain⟨G,hG,d,ae⟩:=K8.step .fY;have d:bR aw 1 (eX (ys.map (·.p))) v8 G:=d;have hal:aw.len=ys.length:=by have:=d.1;simp[eX]at this;omega
   refine d.app (ys:=[.pointer (some ⟨Y.p,0,none⟩)]) rfl rfl ?_ (by simp[dN]) ?_ ?_ nA λs' v9 _ e9 hr9=>?_
   ·intro j u hu;rw[add_lit,zG,hb8.cell];exact hu
   ·simp only;omega
   ·simp only;omega
   have hz9:=e9.1;have hbw9:bX v9 σ.size _:=e9.bZ (e8.bZ Q id) λF=>(K8.p _ (hG _ F)).2.1 (.inl rfl);have K9:=(ae v9 {NB q dB C sp aw ys gU []with ys:=ys++[Y],aw:=s',al:=(ys++[Y]).map (·.p)} (λb=>Grow G v8 b/\b<v9.size) (λj H=>by cases j<;>first|rfl|exact absurd rfl H) e9 (λb y=>y.1.imp id λF=>⟨F,λhB=>by have:=(K8.b b hB).2;omega⟩) (by
    show bR s' 1 (eX ((ys++[Y]).map (·.p))) v9 _;have:eX ((ys++[Y]).map (·.p))=eX (ys.map (·.p))++[.pointer (some ⟨Y.p,0,none⟩)]:=by simp[eX]
    rw[this];exact aI.mono hr9 λb y F=>⟨F,y⟩) λb hB=>by have:=(K8.b b hB).2;omega).drop (B':=(· = σ.size)) λb y=>.inl y
   refine aG (K9.oM (NB q dB C sp s' (ys++[Y]) gU []) (λj H=>by cases j<;>first|rfl|exact absurd rfl H) rfl (i:=7) rfl O λai P10 K10 fV=>?_)
   have M:=Ws fV hbw9 (af K9);exact cA (m:=ys.length+1) O O ⟨⟨P10,s',ys++[Y],by simp,by simp;omega,λZ hZ=>(zR.1 hZ).elim (hys Z) λh=>by
    rw[zW]at h;rw[h];exact hYh,K10,M⟩,O⟩
  ·have hya:ys.length=a:=by omega
   refine hbw6.rI rfl ?_;refine ZU (a:=bN) (λ(z:Int) w=>∃(P:Rg) (tw:Sl) (cs:List ie),z=(cs.length:Int)/\cs.length<=t/\NK σ (· = σ.size) w P tb cf (NB q dB C sp aw ys tw cs)/\bX w σ.size [.int .i64 (p:Int),.int .i64 (a:Int),.int .i64 (t:Int),.int .i64 (b:Int),.int .i64 (r:Int)]) (λz _=>t-z.toNat) ⟨P6,gU,[],rfl,by simp,K6,hbw6⟩ ?_;rintro(z:Int) w7 ⟨P7,tw,cs,rfl,hcsl,K7,Q⟩;refine cI (λhlt=>?_) λhge2=>?_
   ·refine Q.rI rfl (Ψ (Yc ha K7.e) (b:Int) (λhvf=>by rw[hv]at hvf;cases hvf) (λ_ hn=>absurd ⟨O,O⟩ hn) λ_ _ _ v8 Y e8 hC=>?_);rw[dC,htbd]at hC;have K8:NK σ (· = σ.size) v8 _ tb cf {NB q dB C sp aw ys tw cs with cs:=cs++[Y]}:=K7.put e8 (.ca cs.length) (Py (N:=NB q dB C sp aw ys tw cs) rfl (λj H=>by
     cases j with
     | ca k=>exact absurd rfl (H k)
     | _=>rfl)) (by
     show rW tb cf.dA (cs++[Y])[cs.length]? v8 _;rw[zn (zD _),pW,hbud];exact hC)
    have hbw8:=e8.bZ Q id;refine aG (K8.ye.2.rS (a:=tw.a) (n:=tw.len) (c:=tw.cap) rfl (nw (cs:=[.pointer (some ⟨Y.p,0,none⟩),.slice none 0 0,.nilIface]) λv9 hz9 e9 hb9=>?_));have K9:=K8.box e9 hz9;obtain⟨G,hG,d,ae⟩:=K9.step .cL;have d:bR tw 3 (qy cs) v9 G:=d;have hal:tw.len=cs.length:=by have:=d.1;rw[Mh]at this;omega
    refine d.app (ys:=[.pointer (some ⟨Y.p,0,none⟩),.slice none 0 0,.nilIface]) rfl rfl ?_ (by simp[dN]) ?_ ?_ nA λs' ai _ e10 hr10=>?_
    ·intro j u hu;rw[add_lit,zG,hb9.cell];exact hu
    ·simp only;omega
    ·simp only;omega
    have hz10:=e10.1;have M:bX ai σ.size _:=e10.bZ (e9.bZ hbw8 id) λF=>(K9.p _ (hG _ F)).2.1 (.inl rfl);have K10:=(ae ai {NB q dB C sp aw ys tw cs with cs:=cs++[Y],tw:=s',tl:=qy (cs++[Y])} (λb=>Grow G v9 b/\b<ai.size) (λj H=>by cases j<;>first|rfl|exact absurd rfl H) e10 (λb y=>y.1.imp id λF=>⟨F,λhB=>by have:=(K9.b b hB).2;omega⟩) (by
     show bR s' 3 (qy (cs++[Y])) ai _;have:qy (cs++[Y])=qy cs++[.pointer (some ⟨Y.p,0,none⟩),.slice none 0 0,.nilIface]:=by simp[qy]
     rw[this];exact aI.mono hr10 λb y F=>⟨F,y⟩) λb hB=>by have:=(K9.b b hB).2;omega).drop (B':=(· = σ.size)) λb y=>.inl y
    refine aG (K10.oM (NB q dB C sp aw ys s' (cs++[Y])) (λj H=>by cases j<;>first|rfl|exact absurd rfl H) rfl (i:=8) rfl O λv11 P11 K11 o11=>?_)
    have hbw11:=Ws o11 M (af K10);exact cA (m:=cs.length+1) O O ⟨⟨P11,s',cs++[Y],by simp,by simp;omega,K11,hbw11⟩,O⟩
   ·have hct:cs.length=t:=by omega
    have S:cf.threads=cs.length:=by rw[←hcfd,hct]
    have aj:cf.ik=ys.length:=by rw[←hcfd,hya]
    have hN:=Bj g gd;refine h0 w7 ⟨q,sp,C,dB,aw,tw,ys,cs.map λc=>⟨c,gU⟩⟩ K7.e ⟨⟨?_,hys,?_,?_,?_,?_,?_,?_⟩,?_,g.bK K7.e,gd.bK K7.e,hN.1,hN.2⟩
    ·simp[Ug,aj]
    ·simp[Ug,S]
    ·simp[Ug,aj];omega
    ·simp[Ug,aj];omega
    ·simp[Ug,S];omega
    ·simp[Ug,S];omega
    ·intro B hB;have:=Cu hB;rw[this];rfl
    ·refine(Sep.loc CH.loc).mono (G:=λq=>σ.size<=q) ?_ λb _ y=>y;obtain⟨ρ,hs⟩:=(Sep.loc jB.loc).mono K7.sep (G:=λq=>σ.size<=q) λb _ y=>(K7.p b y).1;refine⟨ρ,λi=>?_⟩;have U:=hs i;cases i with
     | hd=>exact U
     | dB=>exact U
     | sp=>exact U
     | fY=>exact bR.fX U
     | cL=>
      show bR tw 3 (ib (cs.map λc=>⟨c,gU⟩) (List.replicate cf.threads ⟨List.replicate tb.length iC,[],none⟩)) w7 _;rw[S,NW];exact U
     | live=>exact U
     | ar k=>
      show oU ys[k]? (List.replicate cf.ik (fG cf.aF cf.room tb))[k]? w7 _;have U:sD cf.aF cf.room tb ys[k]? w7 _:=U;unfold oU;by_cases hk:k<ys.length
      ·rw[nr,zB O,cM hk];rw[cM hk]at U;exact U
      ·rw[zZ O];trivial
     | ca k=>
      show qt (cs.map λc=>(⟨c,gU⟩:eC))[k]? (List.replicate cf.threads (⟨List.replicate tb.length iC,[],none⟩:Th))[k]? tb cf.dA w7 _;have U:rW tb cf.dA cs[k]? w7 _:=U;unfold qt;by_cases hk:k<cs.length
      ·rw[nr,zB O,ze,cM hk];rw[cM hk]at U;exact U
      ·rw[ze,zZ O];trivial
     | hn k=>
      show pK (cs.map λc=>(⟨c,gU⟩:eC))[k]? (List.replicate cf.threads (⟨List.replicate tb.length iC,[],none⟩:Th))[k]? w7 _;unfold pK;by_cases hk:k<cs.length
      ·rw[nr,zB O,ze,cM hk];exact il.nil _ _ _
      ·rw[ze,zZ O];trivial
 ·have rd:∀(i:Nat) (x:Int),[Value.int .i64 (p:Int),.int .i64 (a:Int),.int .i64 (t:Int),.int .i64 (b:Int),.int .i64 (r:Int)][i]?=some (.int .i64 x)->∀m,bX m σ.size [.int .i64 (p:Int),.int .i64 (a:Int),.int .i64 (t:Int),.int .i64 (b:Int),.int .i64 (r:Int)]->cell m (Addr.add ⟨σ.size,0,none⟩ i)=some (.int .i64 x):=λi x F m hm=>by
   rw[add_lit,hm.cell,zG];exact F
  refine⟨λm=>bX m σ.size [.int .i64 (p:Int),.int .i64 (a:Int),.int .i64 (t:Int),.int .i64 (b:Int),.int .i64 (r:Int)],A,⟨(p:Int),rd 0 _ rfl,⟨(a:Int),rd 1 _ rfl,⟨(t:Int),rd 2 _ rfl,⟨(b:Int),rd 3 _ rfl,⟨(r:Int),rd 4 _ rfl,⟨?_,?_⟩⟩⟩⟩⟩⟩⟩
  ·refine V2 (Yc ha W) hv λdB v16 V E=>⟨V.bZ A id,tL λv17 z17 ac hm=>⟨ac.bZ (V.bZ A id) id,?_⟩⟩;rw[htbd]at E;have hz16:=V.1;refine nw (cs:=[.slice dB.a dB.len dB.cap,.int .i64 (p:Int),.int .i64 (a:Int),.int .i64 (t:Int),.int .i64 (b:Int),.int .i64 (r:Int),.pointer none,.slice none 0 0,.slice none 0 0,.map (some v16.size)]) λv18 z18 ad hb18=>⟨ad.bZ (ac.bZ (V.bZ A id) id) id,hJ _ _ ⟨_,v17.size,dB,v16.size,rfl,Ez (D:=λq=>v2.size<=q/\q<v16.size) (((W.trans V).trans ac).trans ad) O (by rw[hdE];exact hb18) (ad.gL (hm .i64 (.ag 4)) id) ?_ (λb y=>O) O O O,ad.bZ (ac.bZ (V.bZ A id) id) id⟩⟩;exact aH.bK (aH.bK (aH.mono E (G:=λq=>v2.size<=q/\q<v16.size) λb y F=>⟨F,y⟩) ac) ad
  ·refine tL λv19 z19 ab hm=>⟨ab.bZ A id,V2 (Yc ha (W.trans ab)) hv λdB v20 aa E=>⟨aa.bZ (ab.bZ A id) id,?_⟩⟩;rw[htbd]at E;have hz20:=aa.1;refine nw (cs:=[.slice dB.a dB.len dB.cap,.int .i64 (p:Int),.int .i64 (a:Int),.int .i64 (t:Int),.int .i64 (b:Int),.int .i64 (r:Int),.pointer none,.slice none 0 0,.slice none 0 0,.map (some v2.size)]) λv21 z21 ah hb21=>⟨ah.bZ (aa.bZ (ab.bZ A id) id) id,hJ _ _ ⟨_,v20.size,dB,v2.size,rfl,Ez (D:=λq=>v19.size<=q/\q<v20.size) (((W.trans ab).trans aa).trans ah) O (by rw[hdE];exact hb21) (ah.gL (aa.gL (hm .i64 (.ag 4)) id) id) ?_ (λb y=>O) O O O,ah.bZ (aa.bZ (ab.bZ A id) id) id⟩⟩;exact aH.bK (aH.mono E (G:=λq=>v19.size<=q/\q<v20.size) λb y F=>⟨F,y⟩) ah
end Go.Ar
namespace Go.Ar
open Go Go.Vc Go.Proofs
variable {σ u w w':Hp}{F B P Q:Rg}{L:dR}{H:Hw}{t:Nat}{g:Th}
def my (H:Hw):Prop:=1<=H.cf.aF/\H.cf.threads=H.bQ.length/\kr H.tb
end Go.Ar
namespace Go.Ar
open Go Go.Vc Go.Proofs
open Go.Bu (gG)
variable {σ u w w':Hp}{F B P Q:Rg}{L:dR}{H H':Hw}{t:Nat}{g:Th}
def U5 (H:Hw)(thread kind size align addr:Int)(H':Hw)(a e:Int):Prop:=
 (KG H thread kind size align addr=.inl e/\e≠0/\H'=H/\a=0)\/∃t p n,KG H thread kind size align addr=.inr (t,p)/\iW n (eU H t (some p)) t p H' a e
theorem Cj (hso:H6)(h:HH σ F L H)(hv:kr H.tb){thread kind size align addr:Int}{a e:Int}(hw:U5 H thread kind size align addr H' a e){R:Int->Int->Hp->Prop}
 (hR:∀σ' ts',Ext F σ σ'->HH σ' (Grow F σ) {L with ts:=ts'} H'->R a e σ'):XQ.c (aW L.p) thread kind size align addr σ R:=by
 rcases hw with⟨hs,hne,rfl,rfl⟩|⟨t,p,n,hs,hr⟩
 ·exact Lx hso h hv thread kind size align addr (λi b _ σ' g d=>by
   rw[hs]at b;cases b;exact hR σ' L.ts g d) λt p b=>by rw[hs]at b;cases b
 ·exact Lx hso h hv thread kind size align addr (λi b=>by rw[hs]at b;cases b) λj m b=>by
   rw[hs]at b;cases b;exact⟨n,H',a,e,hr,hR⟩
theorem PJ (hso:H6)(h:HH σ F L H)(hv:kr H.tb){thread size align:Int}{a e:Int}(hw:U5 H thread 0 size align 0 H' a e){R:Int->Int->Hp->Prop}
 (hR:∀σ' ts',Ext F σ σ'->HH σ' (Grow F σ) {L with ts:=ts'} H'->R a e σ'):Yk.c (aW L.p) thread size align σ R:=by
 refine Yk.o ?_;unfold Yk.v;exact Cj hso h hv hw hR
theorem Θ (hso:H6)(h:HH σ F L H)(hv:kr H.tb){thread addr:Int}{a e:Int}(hw:U5 H thread 1 0 0 addr H' a e){R:aN}
 (hR:∀σ' ts',Ext F σ σ'->HH σ' (Grow F σ) {L with ts:=ts'} H'->R e σ'):Zi.c (aW L.p) thread addr σ R:=by
 refine Zi.o ?_;unfold Zi.v;exact Cj hso h hv hw hR
theorem O9 (hso:H6)(h:HH σ F L H)(hv:kr H.tb){thread:Int}{a e:Int}(hw:U5 H thread 2 0 0 0 H' a e){R:aN}
 (hR:∀σ' ts',Ext F σ σ'->HH σ' (Grow F σ) {L with ts:=ts'} H'->R e σ'):Zj.c (aW L.p) thread σ R:=by
 refine Zj.o ?_;unfold Zj.v;exact Cj hso h hv hw hR
def Qb (H' H:Hw):Prop:=H'.tb=H.tb/\H'.cf=H.cf/\H'.bQ.length=H.bQ.length/\H'.bT.length=H.bT.length
theorem Qb.refl (H:Hw):Qb H H:=⟨rfl,rfl,rfl,rfl⟩
theorem Qb.trans {H1 H2 H3:Hw}(a:Qb H2 H1)(b:Qb H3 H2):Qb H3 H1:=⟨b.1.trans a.1,b.2.1.trans a.2.1,b.2.2.1.trans a.2.2.1,b.2.2.2.trans a.2.2.2⟩
theorem KJ (H:Hw)(t:Nat)(f:Th->Th):Qb (H.eA t f) H:=⟨rfl,rfl,by simp[Hw.eA],rfl⟩
theorem Qc (H:Hw)(k:Nat)(A:AR)(sp:Sp):Qb {H.cB k A with sp:=sp} H:=⟨rfl,rfl,rfl,by simp[Hw.cB]⟩
theorem NJ (H:Hw)(k:Nat)(part:Nat->List Int)(j:Nat):Qb (Vj H k part (List.range j)) H:=by
 induction j with
 | zero=>exact Qb.refl H
 | succ j ih=>
  rw[Vf];split
  ·split
   ·exact ih
   ·exact ih.trans (Qc _ _ _ _)
  ·exact ih
theorem Δ (H:Hw)(own k:Nat)(xs:List Int):Qb (Gh H own k xs) H:=by
 unfold Gh;split
 ·split
  ·exact Qc _ _ _ H.sp
  ·refine Qb.trans ?_ (NJ _ _ _ _);split
   ·exact Qc _ _ _ H.sp
   ·exact Qb.refl H
 ·exact Qb.refl H
theorem MM (H:Hw)(t k:Nat)(x:Int):Qb (iJ H t k x) H:=by
 unfold iJ;simp only;split<;>split<;>exact⟨rfl,rfl,by simp[Hw.eA,QR],rfl⟩
theorem Whx (H:Hw)(t:Nat)(p:Ph):Qb (Wt H t p).1 H:=by
 cases p with
 | take k=>simp only[Wt];split<;>exact⟨rfl,rfl,by simp[VG,QR,Hw.eA,Hw.cB],by simp[VG,QR,Hw.eA,Hw.cB]⟩
 | cN k w=>
  simp only[Wt];split
  ·split
   ·exact(Qc _ _ _ H.sp).trans (KJ _ _ _)
   ·exact Qb.refl H
  ·exact Qb.refl H
 | cP k w=>
  simp only[Wt];split
  ·exact Qc _ _ _ H.sp
  ·exact(Qc _ _ _ H.sp).trans (KJ _ _ _)
 | grow k w=>simp only[Wt];split<;>exact Qc _ _ _ _
 | fill=>
  simp only[Wt];split
  ·exact⟨rfl,rfl,by simp[VG,QR,Hw.eA,Hw.cB],by simp[VG,QR,Hw.eA,Hw.cB]⟩
  ·exact Qb.refl H
 | eR m=>simp only[Wt];split<;>exact⟨rfl,rfl,by simp[VG,QR,Hw.eA,Hw.cB],by simp[VG,QR,Hw.eA,Hw.cB]⟩
 | find x=>
  simp only[Wt,UZ];split
  ·exact Qb.refl H
  ·split
   ·exact⟨rfl,rfl,rfl,rfl⟩
   ·exact Qb.trans (H2:={H with live:=Go.Vc.cT H.live x}) ⟨rfl,rfl,rfl,rfl⟩ (KJ _ _ _)
 | put k x=>exact MM H t k x
 | back=>
  simp only[Wt];split
  ·exact(KJ _ _ _).trans (Δ _ _ _ _)
  ·exact Qb.refl H
 | dI s a=>
  simp only[Wt];split
  ·exact Qc _ _ _ H.sp
  ·exact Qb.refl H
 | drain=>exact KJ _ _ _
theorem HQ (H:Hw)(t:Nat)(p:Ph):Qb (QP H t p) H:=(Whx H t p).trans (KJ _ _ _)
theorem Lp {n:Nat}{H H':Hw}{t:Nat}{p:Ph}{a e:Int}(h:iW n H t p H' a e):Qb H' H:=by
 induction h with
 | done=>exact HQ _ _ _
 | next _ _ _ ih=>exact(HQ _ _ _).trans ih
theorem my.bU (h:my H)(k:Qb H' H):my H':=⟨by rw[k.2.1];exact h.1,by rw[k.2.1,k.2.2.1];exact h.2.1,by rw[k.1];exact h.2.2⟩
end Go.Ar
namespace Go.Ar
variable {c:bW}{ss:List cH}
structure dH (c:bW) (ss:List cH):Prop where
 ok:c.ok
 tk:∀s∈ss,s.tk.length=c.n
 rZ:ss.Pairwise λa b=>a.st+c.aF<=b.st
def Tk (c:bW)(ss:List cH)(x:Int):Prop:=eD c ss x=some true
def sJ (c:bW)(ss:List cH)(p:Nat):Prop:=∃s∈ss,s.st<=p/\p<s.st+c.aF
theorem dH.pos (h:dH c ss):0<c.size:=by have:=h.ok;unfold bW.ok at this;omega
theorem dH.pg (h:dH c ss):1<=c.aF:=by have:=h.ok;unfold bW.ok at this;omega
theorem dH.qc (h:dH c ss):ss.Pairwise λa b=>a.st<b.st:=h.rZ.imp λ{a b} d=>by have:=h.pg;omega
theorem dH.uf (h:dH c ss){i j:Nat}{s t:cH}(hi:ss[i]?=some s)(hj:ss[j]?=some t)(hij:i<j):s.st+c.aF<=t.st:=by
 obtain⟨a,rfl⟩:=cQ.1 hi;obtain⟨b,rfl⟩:=cQ.1 hj;exact kP.1 h.rZ i j a b hij
theorem dH.wu (h:dH c ss){i j:Nat}{s t:cH}{p:Nat}(hi:ss[i]?=some s)(hj:ss[j]?=some t)(h1:s.st<=p)(h2:p<s.st+c.aF)(h3:t.st<=p)(h4:p<t.st+c.aF):i=j:=by
 rcases qx i j with hl|hl|hl
 ·have:=h.uf hi hj hl;omega
 ·exact hl
 ·have:=h.uf hj hi hl;omega
theorem JT (hp:0<c.size){s:cH}{i:Nat}(hi:i<c.n):s.st*256<=at_ c s i/\at_ c s i+c.size<=(s.st+c.aF)*256:=by
 have b:=bW.pT c;have a:(i+1)*c.size<=c.n*c.size:=lB _ hi;unfold at_;rw[zk]at a;omega
theorem HY (hp:0<c.size){s:cH}{i x:Nat}(hi:i<c.n)(h1:at_ c s i<=x)(h2:x<at_ c s i+c.size):s.st<=x/256/\x/256<s.st+c.aF:=by
 have:=JT hp (s:=s) hi;omega
theorem Un (h:dH c ss){k l:Nat}{s t:cH}{i j x:Nat}(hk:ss[k]?=some s)(hl:ss[l]?=some t)(hi:i<c.n)(hj:j<c.n)(h1:at_ c s i<=x)(h2:x<at_ c s i+c.size)(h3:at_ c t j<=x)(h4:x<at_ c t j+c.size):k=l/\s=t/\i=j:=by
 have b:=HY h.pos hi h1 h2;have a:=HY h.pos hj h3 h4;have e:=h.wu hk hl b.1 b.2 a.1 a.2;subst e;rw[hk]at hl;cases hl;refine⟨rfl,rfl,?_⟩;unfold at_ at *;have d:=h.pos;rcases qx i j with hl|hl|hl
 ·have:(i+1)*c.size<=j*c.size:=lB _ hl;rw[zk]at this;omega
 ·exact hl
 ·have:(j+1)*c.size<=i*c.size:=lB _ hl;rw[zk]at this;omega
theorem CF (h:dH c ss){s:cH}(hs:s∈ss){x:Int}{i:Nat}(hi:idx c s x=some i):i<c.n/\((s.st*256:Nat):Int)<=x/\x<(((s.st+c.aF)*256:Nat):Int)/\((at_ c s i:Nat):Int)<=x/\x<((at_ c s i+c.size:Nat):Int):=by
 obtain⟨d,b,a⟩:=(V1 h.pos).1 hi;rw[h.tk s hs]at a;have:=JT h.pos (s:=s) a;have e:at_ c s (i+1)=at_ c s i+c.size:=by unfold at_;rw[zk];omega
 rw[e]at b;omega
theorem F0 (h:dH c ss){k:Nat}{s:cH}{x:Int}{i:Nat}(hs:ss[k]?=some s)(hi:idx c s x=some i):ln c ss x=some k:=by
 obtain⟨r,g⟩:=cQ.1 hs;refine oF.2 ⟨r,by rw[g,hi];rfl,λj m p=>?_⟩;have d:j<ss.length:=by omega
 obtain⟨u,e⟩:=qj.1 p;have a:=CF h (zE hs) hi;have b:=CF h (zc d) e;have:=h.uf (cM d) hs m;omega
theorem IC (h:dH c ss){x:Int}{b:Bool}:eD c ss x=some b↔∃(k:Nat) (s:cH) (i:Nat),ss[k]?=some s/\i<c.n/\x=((at_ c s i:Nat):Int)/\s.is i=b:=by
 constructor
 ·intro hx;obtain⟨k,s,i,_,a,g,e⟩:=yR hx;obtain⟨m,j⟩:=(UF h.pos).1 g;rw[h.tk s (zE a)]at j;exact⟨k,s,i,a,j,m,e⟩
 ·rintro⟨k,s,i,a,hi,rfl,e⟩;have p:=h.tk s (zE a);have g:obj c s ((at_ c s i:Nat):Int)=some i:=(UF h.pos).2 ⟨rfl,O⟩;have d:idx c s ((at_ c s i:Nat):Int)=some i:=(V1 h.pos).2 ⟨ri _,by have:=h.pos;unfold at_;rw[zk];omega,O⟩;rw[VL (F0 h a d) a,g,←e];rfl
theorem Uc (h:dH c ss){x:Int}:Tk c ss x↔∃(k:Nat) (s:cH) (i:Nat),ss[k]?=some s/\i<c.n/\x=((at_ c s i:Nat):Int)/\s.is i=true:=IC h
theorem LK (h:dH c ss){x:Int}{a:Nat}:q8 c ss x=some a↔∃(k:Nat) (s:cH) (i:Nat),ss[k]?=some s/\i<c.n/\a=at_ c s i/\((at_ c s i:Nat):Int)<=x/\x<((at_ c s i+c.size:Nat):Int):=by
 constructor
 ·intro hf;cases ho:ln c ss x with
  | none=>rw[FW ho]at hf;cases hf
  | some k=>
   have j:=(oF.1 ho).1;have b:ss[k]?=some ss[k]:=cM j;rw[Ga ho b]at hf;obtain⟨i,g,rfl⟩:=qH.1 hf;have:=CF h (zE b) g;exact⟨k,_,i,b,this.1,rfl,this.2.2.2.1,this.2.2.2.2⟩
 ·rintro⟨k,s,i,b,g,rfl,h1,h2⟩;have m:=h.tk s (zE b);have e:at_ c s (i+1)=at_ c s i+c.size:=by unfold at_;rw[zk];omega
  have d:idx c s x=some i:=(V1 h.pos).2 ⟨h1,by rw[e];exact h2,O⟩;rw[Ga (F0 h b d) b,d];rfl
theorem dH.put (h:dH c ss){k i:Nat}{s:cH}(hs:ss[k]?=some s)(v:Bool):dH c (ss.set k (s.put i v)):=by
 have r:=(cQ.1 hs).1;refine⟨h.ok,λt p=>?_,?_⟩
 ·rcases xj p with p|rfl
  ·exact h.tk t p
  ·rw[show(s.put i v).tk.length=s.tk.length by simp[cH.put]];exact h.tk s (zE hs)
 ·rw[kP];intro a b ha hb hab;have d:a<ss.length:=by simpa using ha
  have m:b<ss.length:=by simpa using hb
  have g:∀j (hj:j<(ss.set k (s.put i v)).length) (hj':j<ss.length),(ss.set k (s.put i v))[j].st=ss[j].st:=by
   intro j hj hj';rw[List.getElem_set];split
   ·rename_i e;subst e;have:ss[k]=s:=(cQ.1 hs).2;rw[this];rfl
   ·rfl
  rw[g a ha d,g b hb m];exact kP.1 h.rZ a b d m hab
theorem Je {k i:Nat}{s:cH}(hs:ss[k]?=some s)(v:Bool):(ss.set k (s.put i v)).map (·.st)=ss.map (·.st):=by
 apply zy;intro j;simp only[ze];by_cases hjk:j=k
 ·subst hjk;rw[zM (cQ.1 hs).1,hs];rfl
 ·rw[zj (Ne.symm hjk)]
theorem C9 {s:cH}{i j:Nat}{v:Bool}(hi:i<s.tk.length):(s.put i v).is j=if j=i then v else s.is j:=by
 unfold cH.is cH.put;simp only[zL];by_cases hj:j=i
 ·subst hj;rw[zM hi,zB rfl];rfl
 ·rw[zj (Ne.symm hj),zA hj]
theorem II (h:dH c ss){k i:Nat}{s:cH}(hs:ss[k]?=some s)(hi:i<c.n)(v:Bool){y:Int}:Tk c (ss.set k (s.put i v)) y↔(y=((at_ c s i:Nat):Int)/\v=true)\/(y≠((at_ c s i:Nat):Int)/\Tk c ss y):=by
 have b:=(cQ.1 hs).1;have g:=h.tk s (zE hs);have m:=h.pos;rw[Uc (h.put hs v),Uc h];constructor
 ·rintro⟨l,t,j,ht,hj,rfl,hb⟩;by_cases hlk:l=k
  ·subst hlk;rw[zM b]at ht;cases ht;rw[C9 O]at hb;by_cases a:j=i
   ·subst a;rw[zB rfl]at hb;exact .inl ⟨rfl,hb⟩
   ·rw[zA a]at hb;refine .inr ⟨λe=>a ?_,l,s,j,hs,hj,rfl,hb⟩;have d:at_ c s j=at_ c s i:=by have:=Int.ofNat.inj e;exact this
    exact(Un h hs hs hj hi (zD _) O O O).2.2
  ·rw[zj (Ne.symm hlk)]at ht;refine .inr ⟨λe=>hlk ?_,l,t,j,ht,hj,rfl,hb⟩;have d:at_ c t j=at_ c s i:=Int.ofNat.inj e;exact(Un h ht hs hj hi (zD _) O O O).1
 ·rintro(⟨rfl,rfl⟩|⟨hne,l,t,j,ht,hj,rfl,hb⟩)
  ·exact⟨k,s.put i true,i,zM b,hi,rfl,by rw[C9 O,zB rfl]⟩
  ·by_cases hlk:l=k
   ·subst hlk;rw[hs]at ht;cases ht;have a:j≠i:=λe=>hne (by rw[e]);exact⟨l,s.put i v,j,zM b,hj,rfl,by rw[C9 O,zA a];exact hb⟩
   ·exact⟨l,t,j,(zj (Ne.symm hlk)).trans ht,hj,rfl,hb⟩
theorem IM {p:Nat}:sJ c ss p↔∃x∈ss.map (·.st),x<=p/\p<x+c.aF:=by
 constructor
 ·rintro⟨s,a,h⟩;exact⟨_,zC.2 ⟨s,a,rfl⟩,h⟩
 ·rintro⟨x,hx,h⟩;obtain⟨s,a,rfl⟩:=zC.1 hx;exact⟨s,a,h⟩
theorem TJ {ss':List cH}(e:ss'.map (·.st)=ss.map (·.st)){p:Nat}:sJ c ss' p↔sJ c ss p:=by rw[IM,IM,e]
theorem TL (h:dH c ss){x:Nat}{ss':List cH}(ho:ju c ss=some (x,ss')):dH c ss'/\ss'.map (·.st)=ss.map (·.st)/\¬Tk c ss (x:Int)/\∀y,Tk c ss' y↔y=(x:Int)\/Tk c ss y:=by
 unfold ju at ho;split at ho
 ·rename_i k hk;obtain⟨_,s,g,m⟩:=QQ hk;rw[g]at ho;simp only at ho;split at ho
  ·rename_i i hi;cases ho;obtain⟨r,w,p,u⟩:=G8 m;rw[hi]at w;cases w;have j:i<c.n:=by rw[←h.tk s (zE g)];exact p
   have d:¬Tk c ss ((at_ c s i:Nat):Int):=λa=>by
    have z:=(IC h (x:=((at_ c s i:Nat):Int)) (b:=false)).2 ⟨k,s,i,g,j,rfl,u⟩;unfold Tk at a;rw[z]at a;cases a
   refine⟨h.put g true,Je g true,d,λy=>?_⟩;rw[II h g j];constructor
   ·rintro(⟨e,_⟩|⟨_,a⟩)
    ·exact .inl e
    ·exact .inr a
   ·rintro(e|a)
    ·exact .inl ⟨e,rfl⟩
    ·exact .inr ⟨λe=>d (e▸a),a⟩
  ·cases ho
 ·cases ho
theorem Gw:∀(m:Nat) {ss:List cH},dH c ss->dH c (Q7 c m ss).2/\(Q7 c m ss).2.map (·.st)=ss.map (·.st)/\(Q7 c m ss).1.length<=m/\(Q7 c m ss).1.Nodup/\(∀x∈(Q7 c m ss).1,¬Tk c ss (x:Int))/\∀y,Tk c (Q7 c m ss).2 y↔(∃x∈(Q7 c m ss).1,y=((x:Nat):Int))\/Tk c ss y
 | 0,ss,h=>⟨h,rfl,zD _,rl,by simp[Q7],by simp[Q7]⟩
 | m+1,ss,h=>by
  cases ho:ju c ss with
  | none=>
   have e:Q7 c (m+1) ss=([],ss):=by simp[Q7,ho]
   rw[e];exact⟨h,rfl,by simp,rl,by simp,by simp⟩
  | some r=>
   obtain⟨x,i⟩:=r;rw[GF ho];obtain⟨w,A,u,a⟩:=TL h ho;obtain⟨s,z,B,g,b,j⟩:=Gw m w;refine⟨s,z.trans A,by simp;omega,zp.2 ⟨λd=>b x d ((a _).2 (.inl rfl)),g⟩,?_,λy=>?_⟩
   ·intro y hy;rcases zQ.1 hy with rfl|hy
    ·exact u
    ·exact λp=>b y hy ((a _).2 (.inr p))
   ·rw[j,a];simp only[zQ,exists_eq_or_imp];constructor
    ·rintro(h|h|h)
     ·exact .inl (.inr h)
     ·exact .inl (.inl h)
     ·exact .inr h
    ·rintro((h|h)|h)
     ·exact .inr (.inl h)
     ·exact .inl h
     ·exact .inr (.inr h)
theorem Ls:∀(xs:List Int) {ss:List cH},dH c ss->kQ c ss xs->dH c (xs.foldl (fK c) ss)/\(xs.foldl (fK c) ss).map (·.st)=ss.map (·.st)/\∀y,Tk c (xs.foldl (fK c) ss) y↔Tk c ss y/\y∉xs
 | [],ss,h,_=>⟨h,rfl,by simp⟩
 | x::xs,ss,h,hA=>by
  have hx:=hA.1 x aA;obtain⟨k,s,i,w,b,j,_⟩:=yR hx;obtain⟨d,a⟩:=(UF h.pos).1 j;rw[h.tk s (zE b)]at a;have e:=yS w b j;have r:=h.put b false (i:=i);have g:=hA.next h.pos;obtain⟨m,p,u⟩:=Ls xs (ss:=fK c ss x) (by rw[e];exact r) g;rw[lp];refine⟨m,p.trans (by rw[e];exact Je b false),λy=>?_⟩;rw[u,e,II h b a,←d];simp only[zb,and_false,false_or,zQ,not_or];constructor
  ·rintro⟨⟨d,a⟩,h3⟩;exact⟨a,d,h3⟩
  ·rintro⟨a,d,h3⟩;exact⟨⟨d,a⟩,h3⟩
theorem Io {s:cH}(h0:s.many=0)(i:Nat):s.is i=false:=by
 unfold cH.many at h0;rw[xO]at h0;unfold cH.is;rw[zL];cases hi:s.tk[i]? with
 | none=>rfl
 | some b=>
  cases b
  ·rfl
  ·exact absurd (zE hi) h0
theorem dH.cJ (h:dH c ss):dH c (Go.Ar.cJ ss):=⟨h.ok,λs a=>h.tk s (zH.1 a).1,h.rZ.filter _⟩
theorem Il (h:dH c ss){y:Int}:Tk c (cJ ss) y↔Tk c ss y:=by
 rw[Uc h.cJ,Uc h];constructor
 ·rintro⟨k,s,i,hs,hi,rfl,hb⟩;obtain⟨l,a⟩:=zN (zH.1 (zE hs)).1;exact⟨l,s,i,a,hi,rfl,hb⟩
 ·rintro⟨k,s,i,hs,hi,rfl,hb⟩;have:s∈cJ ss:=zH.2 ⟨zE hs,by
   have:s.many≠0:=λb=>by rw[Io b i]at hb;cases hb
   simpa using this⟩
  obtain⟨l,a⟩:=zN this;exact⟨l,s,i,a,hi,rfl,hb⟩
theorem Cw {x:Nat}:x∈Z8 ss↔∃s∈ss,s.many=0/\s.st=x:=by
 unfold Z8;simp only[zC,zH,zX,and_assoc]
theorem J0 (h:dH c ss){p:Nat}:sJ c (cJ ss) p↔sJ c ss p/\¬∃x∈Z8 ss,x<=p/\p<x+c.aF:=by
 constructor
 ·rintro⟨s,hs,h1,h2⟩;have b:=zH.1 hs;refine⟨⟨s,b.1,h1,h2⟩,?_⟩;rintro⟨x,hx,h3,h4⟩;obtain⟨t,m,d,rfl⟩:=Cw.1 hx;obtain⟨i,g⟩:=zN b.1;obtain⟨j,a⟩:=zN m;have e:=h.wu g a h1 h2 h3 h4;subst e;rw[g]at a;cases a;simp[d]at b
 ·rintro⟨⟨s,hs,h1,h2⟩,hn⟩;refine⟨s,zH.2 ⟨hs,?_⟩,h1,h2⟩;have:s.many≠0:=λd=>hn ⟨s.st,Cw.2 ⟨s,hs,d,rfl⟩,h1,h2⟩;simpa using this
theorem TK (h:dH c ss):(Z8 ss).Pairwise λa b=>a+c.aF<=b:=by
 unfold Z8;rw[qL];exact h.rZ.filter _
theorem VA {st:Nat}{t:cH}:t∈iy c ss st↔t=⟨st,List.replicate c.n false⟩\/t∈ss:=by
 unfold iy;rw[zR,zQ];have:t∈ss↔t∈ss.takeWhile (λs=>decide (s.st<st))\/t∈ss.dropWhile (λs=>decide (s.st<st)):=by
  rw[←zR,Cr]
 rw[this];constructor
 ·rintro(h|h|h)
  ·exact .inr (.inl h)
  ·exact .inl h
  ·exact .inr (.inr h)
 ·rintro(h|h|h)
  ·exact .inr (.inl h)
  ·exact .inl h
  ·exact .inr (.inr h)
theorem Fa (h:dH c ss){st:Nat}(hd:∀s∈ss,s.st+c.aF<=st\/st+c.aF<=s.st):dH c (iy c ss st):=by
 refine⟨h.ok,λs m=>?_,?_⟩
 ·rcases VA.1 m with rfl|m
  ·simp
  ·exact h.tk s m
 ·have g:=Gx h.qc st;have r:=h.pg;rw[wP];refine pq.2 ⟨h.rZ.sublist (Ch _ _),mR.2 ⟨λb e=>?_,h.rZ.sublist (DS _ _)⟩,λa u b e=>?_⟩
  ·obtain⟨i,d⟩:=zN e;rw[zo]at d;have:=g.2 _ _ d;rcases hd b (qQ e)with h1|h1
   ·omega
   ·exact h1
  ·obtain⟨i,d⟩:=zN u;rw[zY]at d;split at d
   ·rename_i hlt;rcases zQ.1 e with rfl|e
    ·have:=(g.2 _ _ d).2 hlt;rcases hd a (zE d)with h1|h1
     ·exact h1
     ·omega
    ·obtain⟨j,p⟩:=zN e;rw[zo]at p;exact h.uf d p O
   ·cases d
theorem F2 (h:dH c ss){st:Nat}(hd:∀s∈ss,s.st+c.aF<=st\/st+c.aF<=s.st){y:Int}:Tk c (iy c ss st) y↔Tk c ss y:=by
 rw[Uc (Fa h hd),Uc h];constructor
 ·rintro⟨k,s,i,hs,hi,rfl,hb⟩;rcases VA.1 (zE hs)with rfl|hm
  ·have:(⟨st,List.replicate c.n false⟩:cH).is i=false:=Io (by simp[cH.many,Ag]) i;rw[this]at hb;cases hb
  ·obtain⟨l,a⟩:=zN hm;exact⟨l,s,i,a,hi,rfl,hb⟩
 ·rintro⟨k,s,i,hs,hi,rfl,hb⟩;obtain⟨l,a⟩:=zN (VA.2 (.inr (zE hs)):s∈iy c ss st);exact⟨l,s,i,a,hi,rfl,hb⟩
theorem TA {st:Nat}(hd:∀s∈ss,s.st+c.aF<=st\/st+c.aF<=s.st):GT c ss st=0:=by
 unfold GT;rw[zA];simp only[ka,zS,not_exists,not_and];intro s hs hlt;rcases hd s hs with h|h<;>omega
end Go.Ar
namespace Go.Ar
open Go.Bu (Zf QO j6 Zu qv iB Vm V8 dI take Ki Kj Bounded)
def gf (st:List Nat)(p:Nat):Nat:=st.getD p 0
def AR.f (A:AR)(p:Nat):Nat:=gf A.st p
def iQ (rs:List (Nat×Nat))(p:Nat):Prop:=∃r∈rs,r.1<=p/\p<r.1+r.2
theorem Lc {st:List Nat}{p:Nat}(h:gf st p≠0):p<st.length:=by
 apply Classical.byContradiction;intro hn;exact h (by unfold gf;rw[zL,zZ O];rfl)
theorem Hx {st:List Nat}{a b v p:Nat}(hb:b<=st.length):gf (fW st a b v) p=if a<=p/\p<b then v else gf st p:=by
 unfold gf;rw[zL,zL,HF];by_cases hp:p<st.length
 ·rw[cM hp];simp only[zf,oV]
 ·rw[zZ O,zA O];rfl
theorem Vn {n a m:Nat}:Zf n (a:Int) (m:Int)=true↔1<=m/\a+m<=n:=by
 simp only[Zf,zF,zS];omega
theorem Jq {st:List Nat}{a m:Nat}{fr:List Nat}(hl:a+m<=st.length):vJ st a m fr=true↔∀p,a<=p->p<a+m->gf st p∈fr:=by
 unfold vJ;rw[kM];constructor
 ·intro h p h1 h2;have d:p<st.length:=by omega
  have:st[p]∈(st.drop a).take m:=by
   refine zE (i:=p-a) ?_;rw[zY,zB O,zo,show a+(p-a)=p by omega,cM d]
  have:=h _ this;unfold gf;rw[zL,cM d];simpa using this
 ·intro h x hx;obtain⟨i,b⟩:=zN hx;rw[zY]at b;split at b
  ·rename_i hlt;rw[zo]at b;have:=h (a+i) O O;unfold gf at this;rw[zL,b]at this;simpa using this
  ·cases b
theorem Ci {st:List Nat}{a m v:Nat}{fr:List Nat}(h1:1<=m)(hl:a+m<=st.length)(h:∀p,a<=p->p<a+m->gf st p∈fr):VS st (a:Int) (m:Int) v fr=fW st a (a+m) v:=by
 unfold VS GV;rw[zB (Vn.2 ⟨h1,hl⟩),dC,dC,(Jq hl).2 h];rfl
theorem RJ {st:List Nat}{a m v:Nat}(hl:a+m<=st.length):Aa st a m v=false↔∀p,a<=p->p<a+m->gf st p≠v:=by
 have:=Jq (fr:=[v]) hl;unfold Aa;constructor
 ·intro h p h1 h2 e;have d:p<st.length:=by omega
  have g:st[p]∈(st.drop a).take m:=by
   refine zE (i:=p-a) ?_;rw[zY,zB O,zo,show a+(p-a)=p by omega,cM d]
  have j:st[p]=v:=by
   unfold gf at e;rw[zL,cM d]at e;exact e
  rw[j]at g;rw[tu.2 g]at h;cases h
 ·intro h;apply mS.2;intro hc;obtain⟨i,b⟩:=zN (tu.1 hc);rw[zY]at b;split at b
  ·rename_i hlt;rw[zo]at b;refine h (a+i) O O ?_;unfold gf;rw[zL,b];rfl
  ·cases b
structure PG (A:AR):Prop where
 len:A.st.length=A.n
 n1:32<=A.n
 n2:A.n<=1024
 n16:A.n%16=0
 le:∀p,A.f p<=3
 us:∀p,A.f p=1↔A.ow p≠0
 fr:∀p,A.S p=true↔2<=A.f p
 hp:∀p,A.f p=0↔A.f (p/16*16)=0
theorem PG.lt {A:AR}(h:PG A){p:Nat}(hp:A.f p≠0):p<A.n:=h.len▸Lc hp
theorem PG.jG {A:AR}(h:PG A):Bounded A.S A.n:=λp a=>h.lt (by have:=(h.fr p).1 a;omega)
theorem PG.kB {A:AR}(h:PG A){p q:Nat}(e:p/16=q/16):A.f p=0↔A.f q=0:=by rw[h.hp p,h.hp q,e]
theorem PG.same {A B:AR}(h:PG A)(e1:B.n=A.n)(e2:B.st=A.st)(e3:B.S=A.S)(e4:B.ow=A.ow):PG B:=by
 have a:∀p,B.f p=A.f p:=λp=>by unfold AR.f;rw[e2]
 exact⟨by rw[e2,e1];exact h.len,by rw[e1];exact h.n1,by rw[e1];exact h.n2,by rw[e1];exact h.n16,λp=>by rw[a];exact h.le p,λp=>by rw[a,e4];exact h.us p,λp=>by rw[a,e3];exact h.fr p,λp=>by rw[a,a];exact h.hp p⟩
theorem I9 {ow:Nat->Nat}{a m no:Nat}(h1:1<=m)(h2:a+m<=1024)(p:Nat):j7 ow a m no p=if a<=p/\p<a+m then no else ow p:=by
 unfold j7;rw[zB (Vn.2 ⟨h1,h2⟩)]
theorem E2 {n:Nat}{S:Nat->Bool}{a m:Nat}(h1:1<=m)(h2:a+m<=n)(h:∀p,a<=p->p<a+m->S p=false):QO n S (a:Int) (m:Int)=dI S a (a+m):=by
 unfold QO;rw[Vn.2 ⟨h1,h2⟩,dC,dC,Vm.2 h];rfl
theorem M9 {n:Nat}{S:Nat->Bool}{a m:Nat}(h1:1<=m)(h2:a+m<=n)(h:∀p,a<=p->p<a+m->S p=true):j6 n S (a:Int) (m:Int)=take S a (a+m):=by
 unfold j6;rw[Vn.2 ⟨h1,h2⟩,dC,dC,V8.2 h];rfl
structure Out (A B:AR) (a b:Nat):Prop where
 n:B.n=A.n
 len:B.st.length=A.st.length
 f:∀p,¬(a<=p/\p<b)->B.f p=A.f p
 ow:∀p,¬(a<=p/\p<b)->B.ow p=A.ow p
 S:∀p,¬(a<=p/\p<b)->B.S p=A.S p
theorem Out.pg {A B:AR}{a b v:Nat}(o:Out A B a b)(h:PG A)(hv:v<=3)(hf:∀p,a<=p->p<b->B.f p=v)(hw:∀p,a<=p->p<b->(v=1↔B.ow p≠0))(hS:∀p,a<=p->p<b->(B.S p=true↔2<=v))
 (hz:∀p,B.f p=0↔B.f (p/16*16)=0):PG B:=by
 refine⟨by rw[o.len,o.n];exact h.len,by rw[o.n];exact h.n1,by rw[o.n];exact h.n2,by rw[o.n];exact h.n16,λp=>?_,λp=>?_,λp=>?_,hz⟩
 ·by_cases hp:a<=p/\p<b
  ·rw[hf p hp.1 hp.2];exact hv
  ·rw[o.f p hp];exact h.le p
 ·by_cases hp:a<=p/\p<b
  ·rw[hf p hp.1 hp.2];exact hw p hp.1 hp.2
  ·rw[o.f p hp,o.ow p hp];exact h.us p
 ·by_cases hp:a<=p/\p<b
  ·rw[hf p hp.1 hp.2];exact hS p hp.1 hp.2
  ·rw[o.f p hp,o.S p hp];exact h.fr p
theorem Out.zero {A B:AR}{a b v:Nat}(o:Out A B a b)(h:PG A)(hf:∀p,a<=p->p<b->B.f p=v)(hv:v≠0)(hA:∀p,a<=p->p<b->A.f p≠0):∀p,B.f p=0↔A.f p=0:=by
 intro p;by_cases hp:a<=p/\p<b
 ·rw[hf p hp.1 hp.2];exact⟨λe=>(hv e).elim,λe=>(hA p hp.1 hp.2 e).elim⟩
 ·rw[o.f p hp]
theorem Ck {A B:AR}(h:PG A)(e:∀p,B.f p=0↔A.f p=0):∀p,B.f p=0↔B.f (p/16*16)=0:=λp=>by rw[e,e];exact h.hp p
theorem IL {A:AR}(h:PG A){a m:Nat}(h1:1<=m)(hu:∀p,a<=p->p<a+m->A.f p=1):Out A (VX A (a,m)) a (a+m)/\(∀p,a<=p->p<a+m->(VX A (a,m)).f p=2/\(VX A (a,m)).ow p=0)/\PG (VX A (a,m))/\∀p,(VX A (a,m)).f p=0↔A.f p=0:=by
 have i:a+m<=A.n:=by have:=h.lt (p:=a+m-1) (by rw[hu _ O O];omega);omega
 have y:=h.n2;have w:(VX A (a,m)).st=fW A.st a (a+m) 2:=Ci h1 (by rw[h.len];exact i) λp b d=>by
  have:=hu p b d;unfold AR.f at this;rw[this];simp
 have x:(VX A (a,m)).S=dI A.S a (a+m):=E2 h1 i λp b d=>by
  apply mS.2;intro hS;have:=(h.fr p).1 hS;have:=hu p b d;omega
 have r:∀p,(VX A (a,m)).ow p=if a<=p/\p<a+m then 0 else A.ow p:=λp=>I9 h1 O p
 have u:∀p,(VX A (a,m)).f p=if a<=p/\p<a+m then 2 else A.f p:=λp=>by unfold AR.f;rw[w,Hx (by rw[h.len];exact i)]
 have o:Out A (VX A (a,m)) a (a+m):=⟨rfl,by rw[w,Qj],λp e=>by rw[u,zA e],λp e=>by rw[r,zA e],λp e=>by
  rw[x];unfold dI;have:(decide (a<=p)&&decide (p<a+m))=false:=by simp;omega
  rw[this,Bool.or_false]⟩
 have g:∀p,a<=p->p<a+m->(VX A (a,m)).f p=2:=λp b d=>by rw[u,zB ⟨b,d⟩]
 have j:∀p,a<=p->p<a+m->(VX A (a,m)).ow p=0:=λp b d=>by rw[r,zB ⟨b,d⟩]
 have s:=o.zero h g O λp b d=>by rw[hu p b d];omega
 refine⟨o,λp b d=>⟨g p b d,j p b d⟩,o.pg h O g (λp b d=>by rw[j p b d];simp) (λp b d=>?_) (Ck h s),s⟩;rw[x,Ki];exact⟨λ_=>zD _,λ_=>.inr ⟨b,d⟩⟩
structure sI (A B:AR) (rs:List (Nat×Nat)):Prop where
 pg:PG B
 n:B.n=A.n
 tb:B.tb=A.tb
 room:B.room=A.room
 cE:B.cE=A.cE
 cC:B.cC=A.cC
 runs:B.runs=A.runs
 i:∀p,iQ rs p->B.f p=2/\B.ow p=0
 o:∀p,¬iQ rs p->B.f p=A.f p/\B.ow p=A.ow p
 z:∀p,B.f p=0↔A.f p=0
theorem Ic:∀(rs:List (Nat×Nat)) {A:AR},PG A->(∀r∈rs,1<=r.2)->(∀r∈rs,∀p,r.1<=p->p<r.1+r.2->A.f p=1)->rs.Pairwise (λa b=>a.1+a.2<=b.1\/b.1+b.2<=a.1)->sI A (VR A rs) rs
 | [],A,h,_,_,_=>⟨h,rfl,rfl,rfl,rfl,rfl,rfl,λp ⟨r,hr,_⟩=>by simp at hr,λp _=>⟨rfl,rfl⟩,λp=>Iff.rfl⟩
 | (a,m)::rs,A,h,hp,hu,hd=>by
  have hd':=mR.1 hd;obtain⟨o,B,x,C⟩:=IL h (hp _ (kX ..)) (hu _ (kX ..));have d:=Ic rs x (λr hr=>hp r (kL _ hr)) (λr hr p s u=>by
   have:=hd'.1 r hr;simp only at this;rw[o.f p O];exact hu r (kL _ hr) p s u) hd'.2
  have e:VR A ((a,m)::rs)=VR (VX A (a,m)) rs:=rfl;rw[e];refine⟨d.pg,d.n,d.tb,d.room,d.cE,d.cC,d.runs,λp g=>?_,λp g=>?_,λp=>(d.z p).trans (C p)⟩
  ·by_cases j:iQ rs p
   ·exact d.i p j
   ·have:=d.o p j;obtain⟨r,hr,s,u⟩:=g;rcases zQ.1 hr with rfl|hr
    ·rw[this.1,this.2];exact B p s u
    ·exact(j ⟨r,hr,s,u⟩).elim
  ·have j:¬iQ rs p:=λ⟨r,hr,w⟩=>g ⟨r,kL _ hr,w⟩;have y:¬(a<=p/\p<a+m):=λw=>g ⟨(a,m),kX ..,w⟩;have:=d.o p j;exact⟨this.1.trans (o.f p y),this.2.trans (o.ow p y)⟩
theorem DN {A:AR}(h:PG A){a m no:Nat}(h1:1<=m)(hn:no≠0)(hS:∀p,a<=p->p<a+m->A.S p=true):Out A (dU A a m no) a (a+m)/\(∀p,a<=p->p<a+m->(dU A a m no).f p=1/\(dU A a m no).ow p=no)/\PG (dU A a m no)/\∀p,(dU A a m no).f p=0↔A.f p=0:=by
 have g:∀p,a<=p->p<a+m->2<=A.f p:=λp b d=>(h.fr p).1 (hS p b d);have s:a+m<=A.n:=by have:=h.lt (p:=a+m-1) (by have:=g (a+m-1) O O;omega);omega
 have y:=h.n2;have x:(dU A a m no).st=fW A.st a (a+m) 1:=Ci h1 (by rw[h.len];exact s) λp b d=>by
  have z:=g p b d;have B:=h.le p;unfold AR.f at z B;have:gf A.st p=2\/gf A.st p=3:=by omega
  simpa using this
 have r:∀p,(dU A a m no).ow p=if a<=p/\p<a+m then no else A.ow p:=λp=>I9 h1 O p
 have w:∀p,(dU A a m no).f p=if a<=p/\p<a+m then 1 else A.f p:=λp=>by unfold AR.f;rw[x,Hx (by rw[h.len];exact s)]
 have o:Out A (dU A a m no) a (a+m):=⟨rfl,by rw[x,Qj],λp e=>by rw[w,zA e],λp e=>by rw[r,zA e],λp e=>by
  show take A.S a (a+m) p=A.S p;unfold take;have:(decide (a<=p)&&decide (p<a+m))=false:=by simp;omega
  rw[this];simp⟩
 have i:∀p,a<=p->p<a+m->(dU A a m no).f p=1:=λp b d=>by rw[w,zB ⟨b,d⟩]
 have j:∀p,a<=p->p<a+m->(dU A a m no).ow p=no:=λp b d=>by rw[r,zB ⟨b,d⟩]
 have u:=o.zero h i O λp b d=>by have:=g p b d;omega
 refine⟨o,λp b d=>⟨i p b d,j p b d⟩,o.pg h O i (λp b d=>by rw[j p b d];simp[hn]) (λp b d=>?_) (Ck h u),u⟩;show take A.S a (a+m) p=true↔_;rw[Kj];constructor
 ·rintro⟨_,hx⟩;exact(hx ⟨b,d⟩).elim
 ·intro hx;omega
theorem Iu:∀(m:Nat) {st:List Nat} {a:Nat},(a+m)*16<=st.length->(∀p,a*16<=p->p<(a+m)*16->gf st p=0)->(UN st a m).length=st.length/\∀p,gf (UN st a m) p=if a*16<=p/\p<(a+m)*16 then 3 else gf st p
 | 0,st,a,hl,hz=>⟨rfl,λp=>by rw[zA O];rfl⟩
 | m+1,st,a,hl,hz=>by
  obtain⟨i1,i2⟩:=Iu m (st:=st) (a:=a) O λp d g=>hz p d O;rw[FE];have b:gf (UN st a m) (16*(a+m))=0:=by rw[i2,zA O];exact hz _ O O
  have ok:k5 (UN st a m) ((a+m:Nat):Int)=0:=by
   unfold k5;rw[UL (by rw[i1];omega),zB rfl,dC];unfold gf at b;rw[zB b]
  have e:jv (UN st a m) ((a+m:Nat):Int)=fW (UN st a m) (16*(a+m)) (16*(a+m)+16) 3:=by
   unfold jv;rw[zB ok,dC]
  rw[e];refine⟨by rw[Qj,i1],λp=>?_⟩;rw[Hx (by rw[i1];omega),i2];by_cases h1:16*(a+m)<=p/\p<16*(a+m)+16
  ·rw[zB h1,zB O]
  ·rw[zA h1];by_cases h2:a*16<=p/\p<(a+m)*16
   ·rw[zB h2,zB O]
   ·rw[zA h2,zA O]
theorem DU {sp:Sp}{s m:Nat}(h:fD sp (s:Int) (m:Int)=0):1<=m/\s+m<=sp.st.length/\∀p,s<=p->p<s+m->gf sp.st p=0:=by
 unfold fD at h;split at h
 ·rename_i hr;obtain⟨d,e⟩:=Vn.1 hr;rw[dC,dC]at h;split at h
  ·cases h
  ·rename_i hn;refine⟨d,e,λp g j=>?_⟩;have a:p<sp.st.length:=by omega
   have b:sp.st[p]∈(sp.st.drop s).take m:=by
    refine zE (i:=p-s) ?_;rw[zY,zB O,zo,show s+(p-s)=p by omega,cM a]
   simp only[ka,not_exists,not_and]at hn;have:=hn _ b;unfold gf;rw[zL,cM a];simpa using this
 ·cases h
structure Grown (A B:AR) (sp sp':Sp) (s size:Nat):Prop where
 pg:PG B
 n:B.n=A.n
 tb:B.tb=A.tb
 room:B.room=A.room
 cE:B.cE=A.cE
 cC:B.cC=A.cC
 runs:B.runs=A.runs
 ow:B.ow=A.ow
 s16:s%16=0
 s1:16<=s
 sl:s+size<=A.n
 un:∀p,s<=p->p<s+size->gf sp.st p=0
 i:∀p,s<=p->p<s+size->B.f p=3/\gf sp'.st p=1
 o:∀p,¬(s<=p/\p<s+size)->B.f p=A.f p/\gf sp'.st p=gf sp.st p
 w:∀x,¬(s*32<=x/\x<(s+size)*32)->sp'.wd x=sp.wd x
 l:sp'.st.length=sp.st.length
 pk:sp'.pk=sp.pk
theorem UU {sp:Sp}{size s:Nat}(h1:1<=size)(h:cY sp size=some s):fD sp (s:Int) (size:Int)=0/\s≠0/\(∃j,s=j*size)/\∀j,j*size<s->1<=j->fD sp ((j*size:Nat):Int) (size:Int)≠0:=by
 unfold cY at h;obtain⟨m,us,vs,u,z⟩:=List.find?_eq_some_iff_append.1 h;simp only[zF,bne_iff_ne,ne_eq,zX]at m;have g:s∈(List.range (sp.st.length/size)).map (· * size):=by rw[u];simp
 obtain⟨j,y,rfl⟩:=zC.1 g;rw[zU]at y;refine⟨m.2,m.1,⟨j,rfl⟩,λi x A=>?_⟩;have w:i<j:=Nat.lt_of_mul_lt_mul_right x;have:i*size∈us:=by
  have e:i*size∈(List.range (sp.st.length/size)).map (· * size):=zC.2 ⟨i,zU.2 O,rfl⟩;have d:((List.range (sp.st.length/size)).map (· * size)).Pairwise (· < ·):=by
   rw[qL];exact List.pairwise_lt_range.imp λ{a b} p=>Nat.mul_lt_mul_of_pos_right p O
  rw[u]at e d;rcases zR.1 e with h|h
  ·exact h
  ·rcases zQ.1 h with h|h
   ·have:=vW O h;omega
   ·have:=(mR.1 (pq.1 d).2.1).1 _ h;omega
 have:=z _ this;have r:i*size≠0:=by
  have:=Nat.mul_pos (show 0<i by omega) (show 0<size by omega);omega
 simpa[r]using this
theorem Es {sp:Sp}{s m:Nat}(h:fD sp (s:Int) (m:Int)=0):(gD sp (s:Int) (m:Int)).st.length=sp.st.length/\(∀p,gf (gD sp (s:Int) (m:Int)).st p=if s<=p/\p<s+m then 1 else gf sp.st p)/\(∀x,¬(s*32<=x/\x<(s+m)*32)->(gD sp (s:Int) (m:Int)).wd x=sp.wd x)/\(gD sp (s:Int) (m:Int)).pk=sp.pk:=by
 obtain⟨d,b,_⟩:=DU h;unfold gD;rw[zB h,dC,dC];refine⟨by simp[Sp.set,Qj],λp=>Hx b,λx a=>?_,rfl⟩;show(if s*32<=x/\x<(s+m)*32 then 0 else sp.wd x)=_
 rw[zA a]
theorem RE {A:AR}{sp:Sp}(h:PG A)(hl:sp.st.length=A.n)(hz:∀p,gf sp.st p=0->A.f p=0){size:Nat}(hs:size=16\/size=32\/size=64){B:AR}{sp':Sp}(hg:UO A sp size=some (B,sp')) :
 ∃s,cY sp size=some s/\Grown A B sp sp' s size:=by
 unfold UO at hg;split at hg
 ·cases hg
 ·rename_i s hgs;cases hg;obtain⟨z,F,⟨j,M⟩,_⟩:=UU O hgs;obtain⟨L,C,y⟩:=DU z;have r:s%16=0:=by rcases hs with rfl|rfl|rfl<;>omega
  have w:size%16=0:=by rcases hs with rfl|rfl|rfl<;>omega
  have D:s/16*16=s:=by omega
  have u:(s/16+size/16)*16=s+size:=by omega
  have e:∀p,s<=p->p<s+size->A.f p=0:=λp b d=>hz p (y p b d);obtain⟨H,g⟩:=Iu (size/16) (st:=A.st) (a:=s/16) (by rw[u,h.len,←hl];exact C) (by rw[D,u];exact e);rw[D,u]at g;obtain⟨K,E,G,J⟩:=Es z;have i:s+size<=A.n:=by rw[←hl];exact C
  have x:QO A.n A.S (s:Int) (size:Int)=dI A.S s (s+size):=E2 L i λp b d=>by
   apply mS.2;intro hS;have:=(h.fr p).1 hS;have:=e p b d;omega
  refine⟨s,hgs,⟨?_,rfl,rfl,rfl,rfl,rfl,rfl,rfl,r,O,i,y,λp b d=>⟨?_,?_⟩,λp hp=>⟨?_,?_⟩,G,K,J⟩⟩
  ·have o:Out A {A with st:=UN A.st (s/16) (size/16),S:=QO A.n A.S (s:Int) (size:Int)} s (s+size):=⟨rfl,H,λp hp=>by show gf _ p=_;rw[g,zA hp];rfl,λp hp=>rfl,λp hp=>by
    show QO A.n A.S (s:Int) (size:Int) p=A.S p;rw[x];unfold dI;have:(decide (s<=p)&&decide (p<s+size))=false:=by simp;omega
    rw[this,Bool.or_false]⟩
   have m:∀p,s<=p->p<s+size->AR.f {A with st:=UN A.st (s/16) (size/16),S:=QO A.n A.S (s:Int) (size:Int)} p=3:=λp b d=>by show gf _ p=3;rw[g,zB ⟨b,d⟩]
   refine o.pg h (zD _) m (λp b d=>?_) (λp b d=>?_) λp=>?_
   ·have F:=e p b d;have:=h.us p;constructor
    ·intro hx;omega
    ·intro hx;have:=this.2 hx;omega
   ·show QO A.n A.S (s:Int) (size:Int) p=true↔_;rw[x,Ki];exact⟨λ_=>O,λ_=>.inr ⟨b,d⟩⟩
   ·by_cases hp:s<=p/\p<s+size
    ·rw[m p hp.1 hp.2,m (p/16*16) O O]
    ·rw[o.f p hp,o.f (p/16*16) O];exact h.hp p
  ·show gf (UN A.st (s/16) (size/16)) p=3;rw[g,zB ⟨b,d⟩]
  ·rw[E,zB ⟨b,d⟩]
  ·show gf (UN A.st (s/16) (size/16)) p=A.f p;rw[g,zA hp];rfl
  ·rw[E,zA hp]
end Go.Ar
namespace Go.Ar
open Go.Bu (Zf QO j6 Zu qv iB Vm V8 dI take Ki Kj Bounded full can YP VM ZL QT ZQ Ko QS Qe)
def Cl (A:AR)(k:Nat)(c:bW)(ss:List cH):Prop:=A.tb[k]?=some c/\A.cC[k]?=some ss
def eZ (A:AR)(k:Nat)(x:Int):Prop:=∃c ss,Cl A k c ss/\Tk c ss x
def ij (A:AR)(k:Nat)(x:Int):Prop:=∃t,A.cE[k]?=some t/\x∈t.bs.flatten
structure GA (A:AR):Prop where
 pg:PG A
 tb:A.tb.length<=40
 lc:A.cC.length=A.tb.length
 lt:A.cE.length=A.tb.length
 cC:∀k c ss,Cl A k c ss->dH c ss
 one:∀k c ss,Cl A k c ss->∀s∈ss,s.st/16=(s.st+c.aF-1)/16
 ow:∀k c ss,Cl A k c ss->∀p,A.ow p=k+1↔sJ c ss p
 ji:∀p,A.ow p=41↔iQ A.runs p
 py:∀p,A.ow p=41\/A.ow p<=A.tb.length
 gS:∀r∈A.runs,1<=r.2
 jS:A.runs.Pairwise λa b=>a.1+a.2<=b.1\/b.1+b.2<=a.1
 oW:∀(k:Nat) (t:fP),A.cE[k]?=some t->t.bs.flatten.Nodup
 lM:∀(k:Nat) c ss (t:fP),Cl A k c ss->A.cE[k]?=some t->∀x∈t.bs.flatten,Tk c ss x
 nS:∀(k:Nat) (c:bW) (t:fP),A.tb[k]?=some c->A.cE[k]?=some t->∀xs∈t.bs,xs.length=c.batch
structure Kp (A B:AR):Prop where
 n:B.n=A.n
 tb:B.tb=A.tb
 room:B.room=A.room
 z:∀p,B.f p=0↔A.f p=0
 t:∀p,B.f p=3->A.f p=3
theorem Kp.refl (A:AR):Kp A A:=⟨rfl,rfl,rfl,λ_=>Iff.rfl,λ_=>id⟩
theorem Kp.trans {A B C:AR}(h:Kp A B)(k:Kp B C):Kp A C:=⟨k.n.trans h.n,k.tb.trans h.tb,k.room.trans h.room,λp=>(k.z p).trans (h.z p),λp a=>h.t p (k.t p a)⟩
theorem Kp.aF {A B:AR}(e1:B.n=A.n)(e2:B.tb=A.tb)(e3:B.room=A.room)(e4:B.st=A.st):Kp A B:=⟨e1,e2,e3,λp=>by unfold AR.f;rw[e4],λp=>by unfold AR.f;rw[e4];exact id⟩
variable {A:AR}{k:Nat}{c:bW}{ss:List cH}
theorem Cl.lt (h:Cl A k c ss):k<A.tb.length:=(cQ.1 h.1).1
theorem Cl.eq {c':bW}{ss':List cH}(h:Cl A k c ss)(h':Cl A k c' ss'):c=c'/\ss=ss':=⟨Option.some.inj (h.1.symm.trans h'.1),Option.some.inj (h.2.symm.trans h'.2)⟩
theorem GA.cl (h:GA A){k:Nat}(hk:k<A.tb.length):∃c ss t,Cl A k c ss/\A.cE[k]?=some t:=by
 have a:=h.lc;have b:=h.lt;exact⟨A.tb[k],A.cC[k],A.cE[k],⟨by simp,by simp⟩,by simp⟩
theorem GA.used (h:GA A)(hk:Cl A k c ss){s:cH}(hs:s∈ss){p:Nat}(h1:s.st<=p)(h2:p<s.st+c.aF):A.f p=1/\A.ow p=k+1:=by
 have:=(h.ow k c ss hk p).2 ⟨s,hs,h1,h2⟩;exact⟨(h.pg.us p).2 O,this⟩
theorem GA.jA (h:GA A){r:Nat×Nat}(hr:r∈A.runs){p:Nat}(h1:r.1<=p)(h2:p<r.1+r.2):A.f p=1/\A.ow p=41:=by
 have:=(h.ji p).2 ⟨r,hr,h1,h2⟩;exact⟨(h.pg.us p).2 O,this⟩
theorem GA.ia (h:GA A){r s:Nat×Nat}(hr:r∈A.runs)(hs:s∈A.runs){x:Nat}(h1:r.1<=x)(h2:x<r.1+r.2)(h3:s.1<=x)(h4:x<s.1+s.2):r=s:=by
 obtain⟨i,d⟩:=zN hr;obtain⟨j,e⟩:=zN hs;obtain⟨b,rfl⟩:=cQ.1 d;obtain⟨a,rfl⟩:=cQ.1 e;rcases qx i j with hl|hl|hl
 ·have:=kP.1 h.jS i j b a hl;omega
 ·subst hl;rfl
 ·have:=kP.1 h.jS j i a b hl;omega
theorem GA.fit (h:GA A){r:Nat×Nat}(hr:r∈A.runs):r.1+r.2<=A.n:=by
 have:=h.gS r hr;have:=h.pg.lt (p:=r.1+r.2-1) (by rw[(h.jA hr (p:=r.1+r.2-1) O O).1];omega);omega
theorem GA.pn (h:GA A):jb A:=by
 have u:=h.pg.n2;refine⟨λr b s m x d g j p=>h.ia b m d g j p,λx i a=>?_,λx i w a=>?_,λr b=>?_⟩
 ·obtain⟨r,b,d,g⟩:=(h.ji x).1 a;unfold r9;rw[CZ];exact⟨r,b,by simp[d,g]⟩
 ·rcases h.py x with e|e
  ·exact(a e).elim
  ·exact e
 ·have:=h.fit b;omega
theorem Uv (hk:Cl A k c ss){ss':List cH}{j:Nat}{d:bW}{tt:List cH}(h:Cl {A with cC:=A.cC.set k ss'} j d tt):(j=k/\d=c/\tt=ss')\/(j≠k/\Cl A j d tt):=by
 obtain⟨b,a⟩:=h;by_cases hjk:j=k
 ·subst hjk;have e:=(cQ.1 hk.2).1;simp only[zM e]at a;exact .inl ⟨rfl,Option.some.inj (b.symm.trans hk.1),(Option.some.inj a).symm⟩
 ·simp only[zj (Ne.symm hjk)]at a;exact .inr ⟨hjk,b,a⟩
theorem Hb (hk:Cl A k c ss)(ss':List cH):Cl {A with cC:=A.cC.set k ss'} k c ss':=⟨hk.1,zM (cQ.1 hk.2).1⟩
theorem T7 {ss':List cH}{j:Nat}{d:bW}{tt:List cH}(hjk:j≠k)(h:Cl A j d tt):Cl {A with cC:=A.cC.set k ss'} j d tt:=⟨h.1,(zj (Ne.symm hjk)).trans h.2⟩
theorem GA.lA (h:GA A)(hk:Cl A k c ss){ss':List cH}(hC:dH c ss')(hst:ss'.map (·.st)=ss.map (·.st))(ht:∀t,A.cE[k]?=some t->∀x∈t.bs.flatten,Tk c ss' x):GA {A with cC:=A.cC.set k ss'}:=by
 refine⟨h.pg.same rfl rfl rfl rfl,h.tb,by simp[h.lc],h.lt,λj d b a=>?_,λj d b a s i=>?_,λj d b a p=>?_,h.ji,h.py,h.gS,h.jS,h.oW,λj d b t a g=>?_,h.nS⟩
 ·rcases Uv hk a with⟨rfl,rfl,rfl⟩|⟨hne,a⟩
  ·exact hC
  ·exact h.cC j d b a
 ·rcases Uv hk a with⟨rfl,rfl,rfl⟩|⟨hne,a⟩
  ·have:s.st∈ss.map (·.st):=by rw[←hst];exact zC.2 ⟨s,i,rfl⟩
   obtain⟨t,ht,e⟩:=zC.1 this;rw[←e];exact h.one _ _ _ hk t ht
  ·exact h.one j d b a s i
 ·rcases Uv hk a with⟨rfl,rfl,rfl⟩|⟨hne,a⟩
  ·rw[TJ hst];exact h.ow _ _ _ hk p
  ·exact h.ow j d b a p
 ·rcases Uv hk a with⟨rfl,rfl,rfl⟩|⟨hne,a⟩
  ·exact ht t g
  ·exact h.lM j d b t a g
theorem yC (hk:Cl A k c ss){ss':List cH}{j:Nat}{x:Int}:eZ {A with cC:=A.cC.set k ss'} j x↔(j=k/\Tk c ss' x)\/(j≠k/\eZ A j x):=by
 constructor
 ·rintro⟨d,tt,hj,hx⟩;rcases Uv hk hj with⟨rfl,rfl,rfl⟩|⟨hne,hj⟩
  ·exact .inl ⟨rfl,hx⟩
  ·exact .inr ⟨hne,d,tt,hj,hx⟩
 ·rintro(⟨rfl,hx⟩|⟨hne,d,tt,hj,hx⟩)
  ·exact⟨c,ss',Hb hk ss',hx⟩
  ·exact⟨d,tt,T7 hne hj,hx⟩
theorem KR (hk:Cl A k c ss){x:Int}:eZ A k x↔Tk c ss x:=by
 constructor
 ·rintro⟨d,tt,hj,hx⟩;obtain⟨rfl,rfl⟩:=hk.eq hj;exact hx
 ·intro hx;exact⟨c,ss,hk,hx⟩
def swp (A:AR)(k:Nat)(c:bW)(ss:List cH):AR:=VR {A with cC:=A.cC.set k (cJ ss)} ((Z8 ss).map λs=>(s,c.aF))
theorem Dl {p:Nat}:iQ ((Z8 ss).map λs=>(s,c.aF)) p↔∃x∈Z8 ss,x<=p/\p<x+c.aF:=by
 unfold iQ;simp only[zC];constructor
 ·rintro⟨_,⟨x,hx,rfl⟩,h⟩;exact⟨x,hx,h⟩
 ·rintro⟨x,hx,h⟩;exact⟨_,⟨x,hx,rfl⟩,h⟩
theorem GA.ke (h:GA A)(hk:Cl A k c ss){x:Nat}(hx:x∈Z8 ss){p:Nat}(h1:x<=p)(h2:p<x+c.aF):A.f p=1/\A.ow p=k+1:=by
 obtain⟨s,a,_,rfl⟩:=Cw.1 hx;exact h.used hk a h1 h2
theorem GA.pR (h:GA A)(hk:Cl A k c ss):sI {A with cC:=A.cC.set k (cJ ss)} (swp A k c ss) ((Z8 ss).map λs=>(s,c.aF)):=by
 have g:=h.cC k c ss hk;refine Ic _ (h.pg.same rfl rfl rfl rfl) (λr d=>?_) (λr d p i m=>?_) ?_
 ·obtain⟨x,_,rfl⟩:=zC.1 d;exact g.pg
 ·obtain⟨x,j,rfl⟩:=zC.1 d;exact(h.ke hk j i m).1
 ·rw[qL];exact(TK g).imp λ{a b} e=>.inl e
theorem GA.swp (h:GA A)(hk:Cl A k c ss):GA (Go.Ar.swp A k c ss):=by
 have b:=h.pR hk;have w:=h.cC k c ss hk;have z:=hk.lt;have E:=h.tb;have cl:∀{j d m},Cl (Go.Ar.swp A k c ss) j d m->(j=k/\d=c/\m=cJ ss)\/(j≠k/\Cl A j d m):=λ{j d m} a=>Uv hk ⟨by rw[←b.tb];exact a.1,by rw[←b.cC];exact a.2⟩;have own:∀p,iQ ((Z8 ss).map λs=>(s,c.aF)) p->A.ow p=k+1:=λp g=>by
  obtain⟨x,r,F,C⟩:=Dl.1 g;exact(h.ke hk r F C).2
 have cE:(Go.Ar.swp A k c ss).cE=A.cE:=b.cE;have tb:(Go.Ar.swp A k c ss).tb=A.tb:=b.tb;have runs:(Go.Ar.swp A k c ss).runs=A.runs:=b.runs;refine⟨b.pg,by rw[tb];exact h.tb,by rw[b.cC,tb];simp[h.lc],by rw[cE,tb];exact h.lt,λj d m a=>?_,λj d m a s y=>?_,λj d m a p=>?_,λp=>?_,λp=>?_,by rw[runs];exact h.gS,by rw[runs];exact h.jS,by rw[cE];exact h.oW,λj d m t a u=>?_,by rw[cE,tb];exact h.nS⟩
 ·rcases cl a with⟨rfl,rfl,rfl⟩|⟨hne,a⟩
  ·exact w.cJ
  ·exact h.cC j d m a
 ·rcases cl a with⟨rfl,rfl,rfl⟩|⟨hne,a⟩
  ·exact h.one _ _ _ hk s (zH.1 y).1
  ·exact h.one j d m a s y
 ·by_cases g:iQ ((Z8 ss).map λs=>(s,c.aF)) p
  ·rw[(b.i p g).2];have D:=own p g;rcases cl a with⟨rfl,rfl,rfl⟩|⟨hne,a⟩
   ·rw[J0 w];constructor
    ·intro e;omega
    ·rintro⟨_,hn⟩;exact(hn (Dl.1 g)).elim
   ·rw[←h.ow j d m a p,D];omega
  ·rw[(b.o p g).2];rcases cl a with⟨rfl,rfl,rfl⟩|⟨hne,a⟩
   ·rw[J0 w];show A.ow p=_↔_;rw[h.ow _ _ _ hk p];exact⟨λr=>⟨r,λB=>g (Dl.2 B)⟩,λr=>r.1⟩
   ·exact h.ow j d m a p
 ·rw[runs];by_cases g:iQ ((Z8 ss).map λs=>(s,c.aF)) p
  ·rw[(b.i p g).2,←h.ji,own p g];omega
  ·rw[(b.o p g).2];exact h.ji p
 ·rw[tb];by_cases g:iQ ((Z8 ss).map λs=>(s,c.aF)) p
  ·rw[(b.i p g).2];omega
  ·rw[(b.o p g).2];exact h.py p
 ·rw[cE]at u;rcases cl a with⟨rfl,rfl,rfl⟩|⟨hne,a⟩
  ·intro x r;exact(Il w).2 (h.lM _ _ _ t hk u x r)
  ·exact h.lM j d m t a u
theorem GA.vZ (h:GA A)(hk:Cl A k c ss):Kp A (Go.Ar.swp A k c ss):=by
 have b:=h.pR hk;refine⟨b.n,b.tb,b.room,b.z,λp a=>?_⟩;by_cases hi:iQ ((Z8 ss).map λs=>(s,c.aF)) p
 ·rw[(b.i p hi).1]at a;omega
 ·rw[(b.o p hi).1]at a;exact a
theorem GA.wX (h:GA A)(hk:Cl A k c ss){j:Nat}{x:Int}:eZ (Go.Ar.swp A k c ss) j x↔eZ A j x:=by
 have b:=h.pR hk;have a:=h.cC k c ss hk;have e:eZ (Go.Ar.swp A k c ss) j x↔eZ {A with cC:=A.cC.set k (cJ ss)} j x:=by unfold eZ Cl;rw[b.tb,b.cC]
 rw[e,yC hk,Il a];constructor
 ·rintro(⟨rfl,hx⟩|⟨_,hx⟩)
  ·exact(KR hk).2 hx
  ·exact hx
 ·intro hx;by_cases hjk:j=k
  ·subst hjk;exact .inl ⟨rfl,(KR hk).1 hx⟩
  ·exact .inr ⟨hjk,hx⟩
theorem Hu {k:Int}:A.ck k=true↔∃j:Nat,k=j/\j<A.tb.length:=by
 unfold AR.ck;simp only[zF,zS];constructor
 ·intro h;exact⟨k.toNat,O,O⟩
 ·rintro⟨j,rfl,h⟩;omega
structure Ob (A B:AR):Prop where
 ga:GA B
 kp:Kp A B
 runs:B.runs=A.runs
theorem LP (h:GA A)(k m:Int):Ob A (YQ A k m)/\(YQ A k m).cE=A.cE/\(Yv A k m).Nodup/\(Yv A k m≠[]->∃j:Nat,k=j/\j<A.tb.length)/\(∀x∈Yv A k m,¬eZ A k.toNat (x:Int)) ∧
 ∀j y,eZ (YQ A k m) j y↔eZ A j y\/(j=k.toNat/\∃x∈Yv A k m,y=((x:Nat):Int)):=by
 by_cases h0:QJ A k m=0
 ·have p:A.ck k=true:=by
   unfold QJ at h0;split at h0
   ·assumption
   ·cases h0
  obtain⟨j,rfl,s⟩:=Hu.1 p;obtain⟨c,ss,t,b,D⟩:=h.cl s;have r:Vy A (j:Int) m=Q7 c m.toNat ss:=by unfold Vy;rw[dC,b.1,b.2]
  have d:YQ A (j:Int) m = {A with cC:=A.cC.set j (Q7 c m.toNat ss).2}:=by unfold YQ;rw[zB h0,r,dC]
  have g:Yv A (j:Int) m=(Q7 c m.toNat ss).1:=by unfold Yv;rw[zB h0,r]
  rw[d,g];obtain⟨s1,B,E,C,z,u⟩:=Gw m.toNat (h.cC j c ss b);refine⟨⟨h.lA b s1 B λw e x a=>(u x).2 (.inr (h.lM j c ss w b e x a)),Kp.aF rfl rfl rfl rfl,rfl⟩,rfl,C,λ_=>⟨j,rfl,s⟩,λx a=>?_,λi y=>?_⟩
  ·rw[dC,KR b];exact z x a
  ·rw[yC b,u,dC];by_cases hij:i=j
   ·subst hij;rw[KR b];constructor
    ·rintro(⟨_,a|a⟩|⟨a,_⟩)
     ·exact .inr ⟨rfl,a⟩
     ·exact .inl a
     ·exact(a rfl).elim
    ·rintro(a|⟨_,a⟩)
     ·exact .inl ⟨rfl,.inr a⟩
     ·exact .inl ⟨rfl,.inl a⟩
   ·constructor
    ·rintro(⟨a,_⟩|⟨_,a⟩)
     ·exact(hij a).elim
     ·exact .inl a
    ·rintro(a|⟨a,_⟩)
     ·exact .inr ⟨hij,a⟩
     ·exact(hij a).elim
 ·have d:YQ A k m=A:=by unfold YQ;rw[zA h0]
  have g:Yv A k m=[]:=by unfold Yv;rw[zA h0]
  rw[d,g];exact⟨⟨h,Kp.refl A,rfl⟩,rfl,rl,by simp,by simp,by simp⟩
theorem Ih {xs:List Int}(h:kQ c ss xs):iV c ss xs=0:=by
 unfold iV;have a:xs.any (λx=>(eD c ss x).isNone)=false:=by
  rw[m7];intro x hx;rw[h.1 x hx];simp
 have b:xs.any (λx=>eD c ss x==some false)=false:=by
  rw[m7];intro x hx;rw[h.1 x hx];simp
 rw[a,b,zV h.2];rfl
theorem Gg (h:GA A)(hk:Cl A k c ss)(xs:List Int):QW A (k:Int) xs=iV c ss xs:=by
 unfold QW;rw[Hu.2 ⟨k,rfl,hk.lt⟩,zB rfl,dC,hk.1,hk.2]
theorem Bp (h:GA A){k:Int}{xs:List Int}(h0:QW A k xs=0):∃(j:Nat) (c:bW) (ss:List cH),k=j/\Cl A j c ss/\kQ c ss xs:=by
 have a:A.ck k=true:=by
  unfold QW at h0;split at h0
  ·assumption
  ·cases h0
 obtain⟨j,rfl,d⟩:=Hu.1 a;obtain⟨c,ss,t,b,e⟩:=h.cl d;rw[Gg h b]at h0;exact⟨j,c,ss,rfl,b,Ig h0⟩
theorem DF (h:GA A){k:Int}{xs:List Int}(hd:QW A k xs=0->∀x∈xs,¬ij A k.toNat x):Ob A (Ze A k xs)/\(Ze A k xs).cE=A.cE ∧
 (QW A k xs=0->∀j y,eZ (Ze A k xs) j y↔eZ A j y/\¬(j=k.toNat/\y∈xs))/\(QW A k xs≠0->Ze A k xs=A):=by
 by_cases h0:QW A k xs=0
 ·obtain⟨j,c,g,rfl,e,B⟩:=Bp h h0;obtain⟨z,D,u⟩:=Ls xs (h.cC j c g e) B;have p:=h.lA e z D λt s x a=>(u x).2 ⟨h.lM j c g t e s x a,λC=>hd h0 x C ⟨t,by rw[dC];exact s,a⟩⟩;have d:=Hb e (xs.foldl (fK c) g);have r:Ze A (j:Int) xs=swp {A with cC:=A.cC.set j (xs.foldl (fK c) g)} j c (xs.foldl (fK c) g):=by
   unfold Ze swp;rw[zB h0,dC,e.1,e.2];simp only[ot]
  have b:=p.pR d;rw[r];refine⟨⟨p.swp d,(Kp.aF rfl rfl rfl rfl:Kp A {A with cC:=A.cC.set j (xs.foldl (fK c) g)}).trans (p.vZ d),b.runs⟩,b.cE,λ_ i y=>?_,λw=>(w h0).elim⟩;rw[p.wX d,yC e,u,dC];by_cases hij:i=j
  ·subst hij;rw[KR e];constructor
   ·rintro(⟨_,a,hy⟩|⟨a,_⟩)
    ·exact⟨a,λm=>hy m.2⟩
    ·exact(a rfl).elim
   ·rintro⟨a,hy⟩;exact .inl ⟨rfl,a,λm=>hy ⟨rfl,m⟩⟩
  ·constructor
   ·rintro(⟨a,_⟩|⟨_,a⟩)
    ·exact(hij a).elim
    ·exact⟨a,λm=>hij m.1⟩
   ·rintro⟨a,_⟩;exact .inr ⟨hij,a⟩
 ·have r:Ze A k xs=A:=by unfold Ze;rw[zA h0]
  rw[r];exact⟨⟨h,Kp.refl A,rfl⟩,rfl,λa=>(h0 a).elim,λ_=>rfl⟩
theorem GA.kc (h:GA A){k:Nat}{t':fP}(h1:t'.bs.flatten.Nodup)(h2:∀x∈t'.bs.flatten,eZ A k x)(h3:∀c,A.tb[k]?=some c->∀xs∈t'.bs,xs.length=c.batch):GA {A with cE:=A.cE.set k t'}:=by
 have get:∀{j t},(A.cE.set k t')[j]?=some t->(j=k/\t=t')\/(j≠k/\A.cE[j]?=some t):=by
  intro j t a;by_cases hjk:j=k
  ·subst hjk;have e:j<A.cE.length:=by have:=(cQ.1 a).1;simpa using this
   rw[zM e]at a;exact .inl ⟨rfl,(Option.some.inj a).symm⟩
  ·rw[zj (Ne.symm hjk)]at a;exact .inr ⟨hjk,a⟩
 refine⟨h.pg.same rfl rfl rfl rfl,h.tb,h.lc,by simp[h.lt],h.cC,h.one,h.ow,h.ji,h.py,h.gS,h.jS,λj t a=>?_,λj c g t b a x d=>?_,λj c t b a=>?_⟩
 ·rcases get a with⟨rfl,rfl⟩|⟨_,a⟩
  ·exact h1
  ·exact h.oW j t a
 ·rcases get a with⟨rfl,rfl⟩|⟨_,a⟩
  ·exact(KR b).1 (h2 x d)
  ·exact h.lM j c g t b a x d
 ·rcases get a with⟨rfl,rfl⟩|⟨_,a⟩
  ·exact h3 c b
  ·exact h.nS j c t b a
theorem yY {t':fP}{j:Nat}{x:Int}(hk:k<A.cE.length):ij {A with cE:=A.cE.set k t'} j x↔(j=k/\x∈t'.bs.flatten)\/(j≠k/\ij A j x):=by
 by_cases hjk:j=k
 ·subst hjk;have a:(A.cE.set j t')[j]?=some t':=zM hk;constructor
  ·rintro⟨t,e,hx⟩;have e:(A.cE.set j t')[j]?=some t:=e;rw[a]at e;cases e;exact .inl ⟨rfl,hx⟩
  ·rintro(⟨_,hx⟩|⟨hx,_⟩)
   ·exact⟨_,a,hx⟩
   ·exact(hx rfl).elim
 ·have a:(A.cE.set k t')[j]?=A.cE[j]? := zj (Ne.symm hjk);constructor
  ·rintro⟨t,e,hx⟩;have e:(A.cE.set k t')[j]?=some t:=e;rw[a]at e;exact .inr ⟨hjk,t,e,hx⟩
  ·rintro(⟨hx,_⟩|⟨_,t,e,hx⟩)
   ·exact(hjk hx).elim
   ·exact⟨t,a.trans e,hx⟩
theorem GD {t:fP}(ht:A.cE[k]?=some t){x:Int}:ij A k x↔x∈t.bs.flatten:=by
 constructor
 ·rintro⟨t',e,hx⟩;rw[ht]at e;cases e;exact hx
 ·intro hx;exact⟨t,ht,hx⟩
theorem I5 (h:GA A)(k:Int):Ob A (ZR A k)/\(∀j y,eZ (ZR A k) j y↔eZ A j y)/\(∀x∈YM A k,ij A k.toNat x)/\(YM A k).Nodup/\(YM A k≠[]->∃j:Nat,k=j/\j<A.tb.length) ∧
 ∀j y,ij (ZR A k) j y↔ij A j y/\¬(j=k.toNat/\y∈YM A k):=by
 by_cases h0:Z7 A k=0
 ·have s:A.ck k=true:=by
   unfold Z7 at h0;split at h0
   ·assumption
   ·cases h0
  obtain⟨j,rfl,C⟩:=Hu.1 s;obtain⟨c,J,t,E,g⟩:=h.cl C;have hne:t.bs≠[]:=by
   intro e;unfold Z7 at h0;rw[s,zB rfl,dC,g]at h0;simp[e]at h0
  have u:ZR A (j:Int) = {A with cE:=A.cE.set j t.rem}:=by unfold ZR;rw[zB h0,dC,K0 g]
  have D:YM A (j:Int)=t.bs.getLast?.getD []:=by unfold YM;rw[zB h0,dC,g]
  have B:t.bs=t.bs.dropLast++[t.bs.getLast hne]:=(List.dropLast_concat_getLast hne).symm;have H:YM A (j:Int)=t.bs.getLast hne:=by rw[D,List.getLast?_eq_some_getLast hne];rfl
  have d:t.bs.flatten=t.bs.dropLast.flatten++t.bs.getLast hne:=by
   conv=>lhs;rw[B]
   simp
  have r:=h.oW j t g;rw[d]at r;have b:=oD.1 r;have m:t.rem.bs=t.bs.dropLast:=rfl;rw[u,H];refine⟨⟨h.kc (by rw[m];exact b.1) (λx a=>(KR E).2 (h.lM j c J t E g x (by rw[d];exact nB _ a))) λF z G w=>h.nS j F t z g G ((List.dropLast_sublist _).subset w),Kp.aF rfl rfl rfl rfl,rfl⟩,λ_ _=>Iff.rfl,λx a=>?_,b.2.1,λ_=>⟨j,rfl,C⟩,λi y=>?_⟩
  ·rw[dC,GD g,d];exact pV _ a
  ·rw[yY (by rw[h.lt];exact C),m,dC];by_cases hij:i=j
   ·subst hij;rw[GD g,d,zR];constructor
    ·rintro(⟨_,a⟩|⟨a,_⟩)
     ·exact⟨.inl a,λp=>b.2.2 y a y p.2 rfl⟩
     ·exact(a rfl).elim
    ·rintro⟨a|a,p⟩
     ·exact .inl ⟨rfl,a⟩
     ·exact(p ⟨rfl,a⟩).elim
   ·constructor
    ·rintro(⟨a,_⟩|⟨_,a⟩)
     ·exact(hij a).elim
     ·exact⟨a,λp=>hij p.1⟩
    ·rintro⟨a,_⟩;exact .inr ⟨hij,a⟩
 ·have u:ZR A k=A:=by unfold ZR;rw[zA h0]
  have D:YM A k=[]:=by unfold YM;rw[zA h0]
  rw[u,D];exact⟨⟨h,Kp.refl A,rfl⟩,λ_ _=>Iff.rfl,by simp,rl,by simp,by simp⟩
theorem N7 (h:GA A)(k:Int){xs:List Int}(hn:xs.Nodup)(hd:∀x∈xs,¬ij A k.toNat x):Ob A (Q9 A k xs)/\(∀j y,eZ (Q9 A k xs) j y↔eZ A j y) ∧
 (Vi A k xs=true->(∃j:Nat,k=j/\j<A.tb.length)/\(∀x∈xs,eZ A k.toNat x)/\∀j y,ij (Q9 A k xs) j y↔ij A j y\/(j=k.toNat/\y∈xs))/\(Vi A k xs=false->Q9 A k xs=A):=by
 by_cases h0:Vi A k xs=true
 ·have B:HP A k xs=0:=by
   unfold Vi at h0;simp only[zF,zS]at h0;exact h0.1
  have z:A.ck k=true:=by
   unfold HP at B;split at B
   ·assumption
   ·cases B
  obtain⟨j,rfl,E⟩:=Hu.1 z;obtain⟨c,G,t,u,s⟩:=h.cl E;have m:=B;unfold HP at m;rw[z,zB rfl,dC,u.1,u.2]at m;simp only at m;have p:xs.length=c.batch:=by
   apply Classical.byContradiction;intro d;rw[zA d]at m;cases m
  rw[zB p]at m;have w:∀x∈xs,eZ A j x:=by
   intro x d;split at m
   ·rename_i C;rw[kM]at C;rw[KR u];simpa[Tk]using C x d
   ·cases m
  have D:Q9 A (j:Int) xs = {A with cE:=A.cE.set j {t with bs:=t.bs++[xs]}}:=by unfold Q9;rw[zB h0,dC,K0 s]
  have r:(t.bs++[xs]).flatten=t.bs.flatten++xs:=by simp
  rw[D];refine⟨⟨h.kc ?_ ?_ ?_,Kp.aF rfl rfl rfl rfl,rfl⟩,λ_ _=>Iff.rfl,λ_=>⟨⟨j,rfl,E⟩,by rw[dC];exact w,λi y=>?_⟩,λF=>by rw[F]at h0;cases h0⟩
  ·show(t.bs++[xs]).flatten.Nodup;rw[r,oD];exact⟨h.oW j t s,hn,λa C b H e=>hd b H (by subst e;rw[dC,GD s];exact C)⟩
  ·intro x d;have d:x∈(t.bs++[xs]).flatten:=d;rw[r,zR]at d;rcases d with d|d
   ·exact(KR u).2 (h.lM j c G t u s x d)
   ·exact w x d
  ·intro c' hc' ys g;have g:ys∈t.bs++[xs]:=g;rcases zR.1 g with g|g
   ·exact h.nS j c' t hc' s ys g
   ·simp only[zW]at g;rw[u.1]at hc';cases hc';rw[g];exact p
  ·rw[yY (by rw[h.lt];exact E),dC];show(i=j/\y∈(t.bs++[xs]).flatten)\/_↔_;rw[r,zR];by_cases hij:i=j
   ·subst hij;rw[GD s];constructor
    ·rintro(⟨_,d|d⟩|⟨d,_⟩)
     ·exact .inl d
     ·exact .inr ⟨rfl,d⟩
     ·exact(d rfl).elim
    ·rintro(d|⟨_,d⟩)
     ·exact .inl ⟨rfl,.inl d⟩
     ·exact .inl ⟨rfl,.inr d⟩
   ·constructor
    ·rintro(⟨d,_⟩|⟨_,d⟩)
     ·exact(hij d).elim
     ·exact .inl d
    ·rintro(d|⟨d,_⟩)
     ·exact .inr ⟨hij,d⟩
     ·exact(hij d).elim
 ·have D:Q9 A k xs=A:=by unfold Q9;rw[zA h0]
  rw[D];exact⟨⟨h,Kp.refl A,rfl⟩,λ_ _=>Iff.rfl,λd=>(h0 d).elim,λ_=>rfl⟩
end Go.Ar
namespace Go.Ar
open Go.Bu (Zf QO j6 Zu qv iB Vm V8 dI take Ki Kj Bounded full can YP VM ZL QT ZQ Ko QS Qe V7 U1 lH)
variable {A:AR}{sp:Sp}{k:Nat}{c:bW}{ss:List cH}
structure Ow (A:AR) (sp:Sp):Prop where
 l:sp.st.length=A.n
 own:∀p,A.f p≠0->gf sp.st p≠0
 cl:∀p,A.f p=3->gf sp.st p=1
 le:∀p,gf sp.st p<=2
structure St (A B:AR) (sp sp':Sp):Prop where
 ga:GA B
 ow:Ow B sp'
 n:B.n=A.n
 tb:B.tb=A.tb
 room:B.room=A.room
 same:∀p,A.f p=0->B.f p=0->gf sp'.st p=gf sp.st p
 gone:∀p,A.f p≠0->B.f p=0->gf sp'.st p=0
 new:∀p,A.f p=0->B.f p≠0->gf sp.st p=0/\16<=p
theorem St.refl (h:GA A)(hw:Ow A sp):St A A sp sp:=⟨h,hw,rfl,rfl,rfl,λ_ _ _=>rfl,λp a b=>(a b).elim,λp a b=>(b a).elim⟩
theorem Ow.len {B C:AR}{sp sp':Sp}(h:Ow B sp)(k:Ow C sp')(e:C.n=B.n):sp'.st.length=sp.st.length:=by rw[h.l,k.l,e]
theorem St.trans {B C:AR}{sp' sp'':Sp}(h:St A B sp sp')(k:St B C sp' sp''):St A C sp sp'':=by
 refine⟨k.ga,k.ow,k.n.trans h.n,k.tb.trans h.tb,k.room.trans h.room,λp b a=>?_,λp b a=>?_,λp b a=>?_⟩
 ·by_cases hB:B.f p=0
  ·rw[k.same p hB a,h.same p b hB]
  ·rw[k.gone p hB a,(h.new p b hB).1]
 ·by_cases hB:B.f p=0
  ·rw[k.same p hB a,h.gone p b hB]
  ·exact k.gone p hB a
 ·by_cases hB:B.f p=0
  ·have:=k.new p hB a;rw[h.same p b hB]at this;exact this
  ·exact h.new p b hB
theorem Ow.kp {B:AR}(hw:Ow A sp)(h:Kp A B):Ow B sp:=⟨hw.l.trans h.n.symm,λp a=>hw.own p λe=>a ((h.z p).2 e),λp a=>hw.cl p (h.t p a),hw.le⟩
theorem St.kp {B:AR}(hg:GA B)(hw:Ow A sp)(h:Kp A B):St A B sp sp:=
 ⟨hg,hw.kp h,h.n,h.tb,h.room,λ_ _ _=>rfl,λp a b=>(a ((h.z p).1 b)).elim,λp a b=>(b ((h.z p).2 a)).elim⟩
theorem Ob.st {B:AR}(o:Ob A B)(hw:Ow A sp):St A B sp sp:=St.kp o.ga hw o.kp
theorem GA.grown (h:GA A){B:AR}{sp':Sp}{s size:Nat}(g:Grown A B sp sp' s size):GA B:=by
 have e:∀{j d tt},Cl B j d tt↔Cl A j d tt:=λ{j d tt}=>by unfold Cl;rw[g.tb,g.cC]
 exact⟨g.pg,by rw[g.tb];exact h.tb,by rw[g.cC,g.tb];exact h.lc,by rw[g.cE,g.tb];exact h.lt,λj d tt a=>h.cC j d tt (e.1 a),λj d tt a=>h.one j d tt (e.1 a),λj d tt a p=>by rw[g.ow];exact h.ow j d tt (e.1 a) p,
  λp=>by rw[g.ow,g.runs];exact h.ji p,λp=>by rw[g.ow,g.tb];exact h.py p,by rw[g.runs];exact h.gS,by rw[g.runs];exact h.jS,by rw[g.cE];exact h.oW,λj d tt t a b=>h.lM j d tt t (e.1 a) (by rw[←g.cE];exact b),by rw[g.tb,g.cE];exact h.nS⟩
theorem Grown.st (h:GA A)(hw:Ow A sp){B:AR}{sp':Sp}{s size:Nat}(g:Grown A B sp sp' s size):St A B sp sp':=by
 have d:∀p,B.f p≠A.f p->s<=p/\p<s+size:=λp b=>by
  apply Classical.byContradiction;intro hn;exact b (g.o p hn).1
 refine⟨h.grown g,⟨g.l.trans (hw.l.trans g.n.symm),λp b=>?_,λp b=>?_,λp=>?_⟩,g.n,g.tb,g.room,λp j e=>?_,λp j e=>?_,λp j e=>?_⟩
 ·by_cases a:s<=p/\p<s+size
  ·rw[(g.i p a.1 a.2).2];omega
  ·rw[(g.o p a).2];rw[(g.o p a).1]at b;exact hw.own p b
 ·by_cases a:s<=p/\p<s+size
  ·rw[(g.i p a.1 a.2).2]
  ·rw[(g.o p a).2];rw[(g.o p a).1]at b;exact hw.cl p b
 ·by_cases a:s<=p/\p<s+size
  ·rw[(g.i p a.1 a.2).2];omega
  ·rw[(g.o p a).2];exact hw.le p
 ·refine(g.o p λa=>?_).2;rw[(g.i p a.1 a.2).1]at e;omega
 ·have:=d p O;rw[(g.i p this.1 this.2).1]at e;omega
 ·have:=d p O;exact⟨g.un p this.1 this.2,by have:=g.s1;omega⟩
theorem OC {n:Nat}{S:Nat->Bool}(hb:Bounded S n)(hn:n<=1024){j q m a:Nat}(hf:full S j q=true)(hm:m<=2^j)(ha:a<=2^j):Zu n S m a≠none:=by
 intro h0;have s:S (q*2^j)=true:=YP.1 hf _ (Dh _ (lb j));obtain⟨i,g⟩:=VM hb s;have e:j<=i:=by
  apply Classical.byContradiction;intro hlt;exact QT g hf rfl (Dh _ (lb j)) O
 have r:=ZQ hb (ZL.1 g).1;have d:i<11:=by
  apply Classical.byContradiction;intro hge;have:2^11<=2^i:=oK O O;omega
 have p:2^j<=2^i:=oK O e;have:=U1 h0 i d O O;have b:=(QS hb (k:=i)).2 ⟨_,rfl,g⟩;rw[this]at b;simp at b
theorem BQ (m:Nat):Q4 m=16\/Q4 m=32\/Q4 m=64:=by
 unfold Q4;split
 ·exact .inl rfl
 ·split
  ·exact .inr (.inl rfl)
  ·exact .inr (.inr rfl)
theorem LV {m:Nat}(h:m<=64):m<=Q4 m:=by
 unfold Q4;split
 ·omega
 ·split<;>omega
theorem EW (h:GA A)(hw:Ow A sp){m a no:Nat}(h1:1<=m)(h2:m<=64)(ha:1<=a/\a<=16) :
 (cZ A sp m a no=(none,A,sp)/\Zu A.n A.S m a=none/\cY sp (Q4 (max m a))=none) ∨
 ∃x A1 sp1,cZ A sp m a no=(some x,dU A1 x m no,sp1)/\Zu A1.n A1.S m a=some x/\(A1=A/\sp1=sp\/Zu A.n A.S m a=none/\∃s,cY sp (Q4 (max m a))=some s/\Grown A A1 sp sp1 s (Q4 (max m a))):=by
 cases ht:Zu A.n A.S m a with
 | some x=>exact .inr ⟨x,A,sp,by unfold cZ;rw[ht],ht,.inl ⟨rfl,rfl⟩⟩
 | none=>
  cases hg:UO A sp (Q4 (max m a))with
  | none=>
   refine .inl ⟨by unfold cZ;rw[ht,hg],rfl,?_⟩;unfold UO at hg;split at hg
   ·assumption
   ·cases hg
  | some r=>
   obtain⟨A1,sp1⟩:=r;obtain⟨s,w,g⟩:=RE h.pg hw.l (λp b=>Classical.byContradiction λz=>hw.own p z b) (BQ _) hg;have d:Zu A1.n A1.S m a≠none:=by
    have C:=LV (m:=max m a) O;obtain⟨_,_,⟨i,B⟩,_⟩:=UU (by have:=BQ (max m a);omega) w;have key:∃j,Q4 (max m a)=2^j:=by
     rcases BQ (max m a)with e|e|e
     ·exact⟨4,e⟩
     ·exact⟨5,e⟩
     ·exact⟨6,e⟩
    obtain⟨j,y⟩:=key;refine OC g.pg.jG g.pg.n2 (j:=j) (q:=i) (YP.2 λp b=>?_) O O;rw[g.pg.fr];rw[Qe,←y,←B]at b;rw[(g.i p b.1 b.2).1];omega
   obtain⟨x,u⟩:=Option.ne_none_iff_exists'.1 d;exact .inr ⟨x,A1,sp1,by unfold cZ;rw[ht,hg];simp only;rw[u],u,.inr ⟨rfl,s,w,g⟩⟩
theorem E6 (h:PG A){m a x:Nat}(hx:Zu A.n A.S m a=some x):∀p,x<=p->p<x+m->A.S p=true:=λp b d=>(lH h.jG hx).2 p b d
theorem NY (h:PG A){m a x:Nat}(h1:1<=m)(h4:m<=4)(hx:Zu A.n A.S m a=some x):x/16=(x+m-1)/16:=by
 obtain⟨j,_,b,_,d,_⟩:=V7 hx;obtain⟨q,rfl,g⟩:=(QS h.jG).1 (List.mem_of_head? d)
 match j,b with
 | 0,b=>
  have:m=1:=by omega
  subst this;rfl
 | 1,b=>
  have:m<=2:=by omega
  simp only[Nat.pow_one]at *;omega
 | j+2,b=>
  have e:2^(j+2)=4*2^j:=by rw[Nat.pow_add];omega
  rw[e,←xe,Nat.mul_comm q 4,xe];generalize q*2^j=z;omega
theorem Ew (h:PG A){a m no:Nat}(h1:1<=m)(hn:no≠0)(hS:∀p,a<=p->p<a+m->A.S p=true):Kp A (dU A a m no):=by
 obtain⟨o,d,e,g⟩:=DN h h1 hn hS;refine⟨rfl,rfl,rfl,g,λp b=>?_⟩;by_cases hin:a<=p/\p<a+m
 ·rw[(d p hin.1 hin.2).1]at b;omega
 ·rw[o.f p hin]at b;exact b
theorem GA.rf (h:GA A)(hk:Cl A k c ss){x:Nat}(hS:∀p,x<=p->p<x+c.aF->A.S p=true)(h1:x/16=(x+c.aF-1)/16) :
 GA {dU A x c.aF (k+1)with cC:=(dU A x c.aF (k+1)).cC.set k (iy c ss x)}/\(∀s∈ss,s.st+c.aF<=x\/x+c.aF<=s.st):=by
 have i:=h.cC k c ss hk;have u:=i.pg;have B:=hk.lt;have E:=h.tb;obtain⟨o,m,pg,F⟩:=DN h.pg u (no:=k+1) O hS;have r:∀p,x<=p->p<x+c.aF->A.ow p=0:=λp z D=>by
  have C:=(h.pg.fr p).1 (hS p z D);apply Classical.byContradiction;intro hne;have:=(h.pg.us p).2 hne;omega
 have hd:∀s∈ss,s.st+c.aF<=x\/x+c.aF<=s.st:=λs b=>by
  apply Classical.byContradiction;intro hn;have C:=r (max x s.st) O O;have:=(h.used hk b (p:=max x s.st) O O).2;omega
 refine⟨?_,hd⟩;have e:Cl (dU A x c.aF (k+1)) k c ss:=hk;refine⟨pg.same rfl rfl rfl rfl,h.tb,by show(A.cC.set k _).length=_;simp[h.lc];rfl,h.lt,λj d g a=>?_,λj d g a s b=>?_,λj d g a p=>?_,λp=>?_,λp=>?_,h.gS,h.jS,h.oW,λj d g t a w=>?_,h.nS⟩
 ·rcases Uv e a with⟨rfl,rfl,rfl⟩|⟨hne,a⟩
  ·exact Fa i hd
  ·exact h.cC j d g a
 ·rcases Uv e a with⟨rfl,rfl,rfl⟩|⟨hne,a⟩
  ·rcases VA.1 b with rfl|b
   ·exact h1
   ·exact h.one _ _ _ hk s b
  ·exact h.one j d g a s b
 ·show(dU A x c.aF (k+1)).ow p=j+1↔_;by_cases hp:x<=p/\p<x+c.aF
  ·rw[(m p hp.1 hp.2).2];rcases Uv e a with⟨rfl,rfl,rfl⟩|⟨hne,a⟩
   ·exact⟨λ_=>⟨_,VA.2 (.inl rfl),hp.1,hp.2⟩,λ_=>rfl⟩
   ·rw[←h.ow j d g a p,r p hp.1 hp.2];omega
  ·rw[o.ow p hp];rcases Uv e a with⟨rfl,rfl,rfl⟩|⟨hne,a⟩
   ·rw[h.ow _ _ _ hk p];constructor
    ·rintro⟨s,b,h3⟩;exact⟨s,VA.2 (.inr b),h3⟩
    ·rintro⟨s,b,h3⟩;rcases VA.1 b with rfl|b
     ·exact(hp h3).elim
     ·exact⟨s,b,h3⟩
   ·exact h.ow j d g a p
 ·show(dU A x c.aF (k+1)).ow p=41↔iQ A.runs p;by_cases hp:x<=p/\p<x+c.aF
  ·rw[(m p hp.1 hp.2).2,←h.ji,r p hp.1 hp.2];omega
  ·rw[o.ow p hp];exact h.ji p
 ·show(dU A x c.aF (k+1)).ow p=41\/(dU A x c.aF (k+1)).ow p<=A.tb.length;by_cases hp:x<=p/\p<x+c.aF
  ·rw[(m p hp.1 hp.2).2];omega
  ·rw[o.ow p hp];exact h.py p
 ·rcases Uv e a with⟨rfl,rfl,rfl⟩|⟨hne,a⟩
  ·intro y hy;exact(F2 i hd).2 (h.lM _ _ _ t hk w y hy)
  ·exact h.lM j d g t a w
theorem GA.sT (h:GA A){x m:Nat}(hm:1<=m)(hS:∀p,x<=p->p<x+m->A.S p=true):GA {dU A x m 41 with runs:=A.runs++[(x,m)]}:=by
 have w:=h.tb;obtain⟨o,e,pg,B⟩:=DN h.pg hm (no:=41) O hS;have i:∀p,x<=p->p<x+m->A.ow p=0:=λp u z=>by
  have y:=(h.pg.fr p).1 (hS p u z);apply Classical.byContradiction;intro hne;have:=(h.pg.us p).2 hne;omega
 refine⟨pg.same rfl rfl rfl rfl,h.tb,h.lc,h.lt,h.cC,h.one,λj d tt b p=>?_,λp=>?_,λp=>?_,λr a=>?_,?_,h.oW,h.lM,h.nS⟩
 ·have b:Cl A j d tt:=b;have:=b.lt;show(dU A x m 41).ow p=j+1↔_;by_cases hp:x<=p/\p<x+m
  ·rw[(e p hp.1 hp.2).2,←h.ow j d tt b p,i p hp.1 hp.2];omega
  ·rw[o.ow p hp];exact h.ow j d tt b p
 ·show(dU A x m 41).ow p=41↔iQ (A.runs++[(x,m)]) p;by_cases hp:x<=p/\p<x+m
  ·rw[(e p hp.1 hp.2).2];exact⟨λ_=>⟨(x,m),by simp,hp⟩,λ_=>rfl⟩
  ·rw[o.ow p hp,h.ji];constructor
   ·rintro⟨r,a,h3⟩;exact⟨r,by simp[a],h3⟩
   ·rintro⟨r,a,h3⟩;rcases zR.1 a with a|a
    ·exact⟨r,a,h3⟩
    ·simp only[zW]at a;subst a;exact(hp h3).elim
 ·show(dU A x m 41).ow p=41\/(dU A x m 41).ow p<=A.tb.length;by_cases hp:x<=p/\p<x+m
  ·rw[(e p hp.1 hp.2).2];omega
  ·rw[o.ow p hp];exact h.py p
 ·rcases zR.1 a with a|a
  ·exact h.gS r a
  ·simp only[zW]at a;subst a;exact hm
 ·refine pq.2 ⟨h.jS,by simp,λr a s g=>?_⟩;simp only[zW]at g;subst g;apply Classical.byContradiction;intro hn;simp only at hn;have:=h.gS r a;have y:=i (max x r.1) O O;have:=(h.jA a (p:=max x r.1) O O).2;omega
theorem OW {l:List (Nat×Nat)}{x m:Nat}(h:∀r∈l,r.1≠x):cD.mset2 l x m=l++[(x,m)]:=by
 unfold cD.mset2;rw[zA];simp only[ka,zX,not_exists,not_and];exact h
theorem F3 (h:GA A)(hw:Ow A sp)(k:Int) :
 ((cO A sp k=(A,sp))/\KN A sp k≠0) ∨
 ∃(j:Nat) (c:bW) (ss:List cH) (x:Nat) (A1:AR) (sp1:Sp),k=j/\Cl A j c ss/\Cl A1 j c ss/\KN A sp k=0/\cO A sp k=({dU A1 x c.aF (j+1)with cC:=(dU A1 x c.aF (j+1)).cC.set j (iy c ss x)},sp1) ∧
  St A A1 sp sp1/\A1.runs=A.runs/\A1.cE=A.cE/\A1.cC=A.cC/\Zu A1.n A1.S c.aF 1=some x/\(∀s∈ss,s.st+c.aF<=x\/x+c.aF<=s.st)/\St A (cO A sp k).1 sp (cO A sp k).2:=by
 by_cases hck:A.ck k=true
 ·obtain⟨j,rfl,G⟩:=Hu.1 hck;obtain⟨c,ss,t,b,H⟩:=h.cl G;have F:=h.cC j c ss b;have y:=F.ok;unfold bW.ok at y;have C:=b.lt;rcases EW h hw (m:=c.aF) (a:=1) (no:=j+1) O O O with⟨hg,_⟩|⟨x,A1,sp1,hg,htk,hor⟩
  ·left;have w:KN A sp (j:Int)=6:=by unfold KN;rw[hck,zB rfl,dC,b.1,b.2];simp only;rw[hg]
   have D:cO A sp (j:Int)=(A,sp):=by unfold cO;rw[hck,zB rfl,dC,b.1,b.2];simp only;rw[hg]
   rw[D,w];exact⟨rfl,by simp⟩
  ·right;have w:KN A sp (j:Int)=GT c ss x:=by unfold KN;rw[hck,zB rfl,dC,b.1,b.2];simp only;rw[hg]
   have u:GA A1:=by
    rcases hor with⟨rfl,rfl⟩|⟨_,s,_,g⟩
    ·exact h
    ·exact h.grown g
   have d:St A A1 sp sp1:=by
    rcases hor with⟨rfl,rfl⟩|⟨_,s,_,g⟩
    ·exact St.refl h hw
    ·exact g.st h hw
   have e:A1.runs=A.runs/\A1.cE=A.cE/\A1.cC=A.cC:=by
    rcases hor with⟨rfl,rfl⟩|⟨_,s,_,g⟩
    ·exact⟨rfl,rfl,rfl⟩
    ·exact⟨g.runs,g.cE,g.cC⟩
   have i:Cl A1 j c ss:=⟨by rw[d.tb];exact b.1,by rw[e.2.2];exact b.2⟩;have z:=E6 u.pg htk;obtain⟨E,hd⟩:=u.rf i z (NY u.pg O O htk);have B:=TA hd;have r:cO A sp (j:Int)=({dU A1 x c.aF (j+1)with cC:=(dU A1 x c.aF (j+1)).cC.set j (iy c ss x)},sp1):=by
    unfold cO;rw[hck,zB rfl,dC,b.1,b.2];simp only;rw[hg];simp only;rw[zB B]
   refine⟨j,c,ss,x,A1,sp1,rfl,b,i,by rw[w];exact B,r,d,e.1,e.2.1,e.2.2,htk,hd,?_⟩;rw[r];have kp:=Ew u.pg (no:=j+1) O O z;exact d.trans (St.kp E d.ow (kp.trans (Kp.aF rfl rfl rfl rfl)))
 ·left;have p:A.ck k=false:=by simpa using hck
  unfold cO KN;rw[p];exact⟨rfl,by simp⟩
theorem PN (h:GA A)(hw:Ow A sp)(k:Int):St A (cO A sp k).1 sp (cO A sp k).2/\(cO A sp k).1.runs=A.runs/\(cO A sp k).1.cE=A.cE/\(∀j y,eZ (cO A sp k).1 j y↔eZ A j y)/\(KN A sp k≠0->cO A sp k=(A,sp)):=by
 rcases F3 h hw k with⟨e,_⟩|⟨j,c,ss,x,A1,sp1,rfl,hk,hk1,hE,e,hst,r1,r2,r3,_,hd,hS⟩
 ·rw[e];exact⟨St.refl h hw,rfl,rfl,λ_ _=>Iff.rfl,λ_=>rfl⟩
 ·refine⟨hS,by rw[e];exact r1,by rw[e];exact r2,λi y=>?_,λg=>(g hE).elim⟩;rw[e];have b:Cl (dU A1 x c.aF (j+1)) j c ss:=hk1;rw[yC b,F2 (h.cC j c ss hk) hd];have d:eZ (dU A1 x c.aF (j+1)) i y↔eZ A i y:=by
   have:(dU A1 x c.aF (j+1)).tb=A.tb/\(dU A1 x c.aF (j+1)).cC=A.cC:=⟨hst.tb,r3⟩;unfold eZ Cl;rw[this.1,this.2]
  rw[d];by_cases hij:i=j
  ·subst hij;rw[KR hk];exact⟨λa=>by rcases a with⟨_,a⟩|⟨a,_⟩;exact a;exact(a rfl).elim,λa=>.inl ⟨rfl,a⟩⟩
  ·exact⟨λa=>by rcases a with⟨a,_⟩|⟨_,a⟩;exact(hij a).elim;exact a,λa=>.inr ⟨hij,a⟩⟩
theorem Oh {m a:Int}(h:Kc m a=true):∃x y:Nat,m=x/\a=y/\1<=x/\x<=64/\(y=1\/y=2\/y=4\/y=8\/y=16):=by
 unfold Kc at h;simp only[zF,zS,nV,zX]at h;exact⟨m.toNat,a.toNat,O,O,O,O,O⟩
theorem Nh (h:GA A)(hw:Ow A sp)(m a:Int) :
 (cD A sp m a=(A,sp)/\Qz A sp m a≠0/\(Kc m a=true->Qz A sp m a=6/\Zu A.n A.S m.toNat a.toNat=none/\cY sp (Q4 (max m.toNat a.toNat))=none)) ∨
 ∃(x:Nat) (A1:AR) (sp1:Sp),Kc m a=true/\Qz A sp m a=0/\Z6 A sp m a=x/\cD A sp m a=({dU A1 x m.toNat 41 with runs:=A.runs++[(x,m.toNat)]},sp1) ∧
  Zu A1.n A1.S m.toNat a.toNat=some x/\(A1=A/\sp1=sp\/Zu A.n A.S m.toNat a.toNat=none/\∃s,cY sp (Q4 (max m.toNat a.toNat))=some s/\Grown A A1 sp sp1 s (Q4 (max m.toNat a.toNat))) ∧
  St A (cD A sp m a).1 sp (cD A sp m a).2/\(cD A sp m a).1.cE=A.cE/\(∀j y,eZ (cD A sp m a).1 j y↔eZ A j y):=by
 by_cases hp:Kc m a=true
 ·obtain⟨b,w,rfl,rfl,Q,K,V⟩:=Oh hp;have G:Qz A sp (b:Int) (w:Int)=if(cZ A sp b w 41).1.isSome then 0 else 6:=by unfold Qz;rw[zB hp,dC,dC]
  have N:Z6 A sp (b:Int) (w:Int)=(cZ A sp b w 41).1.getD 0:=by unfold Z6;rw[zB hp,dC,dC]
  rcases EW h hw (m:=b) (a:=w) (no:=41) Q K O with⟨hg,hn1,hn2⟩|⟨x,A1,sp1,hg,htk,hor⟩
  ·left;have H:cD A sp (b:Int) (w:Int)=(A,sp):=by unfold cD;rw[zB hp,dC,dC,hg]
   rw[H,G,hg,dC,dC];exact⟨rfl,by simp,λ_=>⟨rfl,hn1,hn2⟩⟩
  ·right;have z:GA A1:=by
    rcases hor with⟨rfl,rfl⟩|⟨_,s,_,g⟩
    ·exact h
    ·exact h.grown g
   have u:St A A1 sp sp1:=by
    rcases hor with⟨rfl,rfl⟩|⟨_,s,_,g⟩
    ·exact St.refl h hw
    ·exact g.st h hw
   have d:A1.runs=A.runs/\A1.cE=A.cE/\A1.cC=A.cC:=by
    rcases hor with⟨rfl,rfl⟩|⟨_,s,_,g⟩
    ·exact⟨rfl,rfl,rfl⟩
    ·exact⟨g.runs,g.cE,g.cC⟩
   have D:=E6 z.pg htk;have C:∀r∈A.runs,r.1≠x:=λr L e=>by
    have B:r∈A1.runs:=by rw[d.1];exact L
    have:=z.gS r B;have U:=(z.jA B (p:=x) O O).1;have R:=(z.pg.fr x).1 (D x O O);omega
   have i:cD A sp (b:Int) (w:Int)=({dU A1 x b 41 with runs:=A.runs++[(x,b)]},sp1):=by
    unfold cD;rw[zB hp,dC,dC,hg];show({dU A1 x b 41 with runs:=cD.mset2 A1.runs x b},sp1)=_;rw[d.1,OW C]
   have F:=z.sT O D;rw[d.1]at F;have kp:=Ew z.pg (no:=41) O O D;refine⟨x,A1,sp1,hp,by rw[G,hg];rfl,by rw[N,hg];rfl,by rw[dC];exact i,by rw[dC,dC];exact htk,by rw[dC,dC];exact hor,?_,by rw[i];exact d.2.1,λj y=>?_⟩
   ·rw[i];exact u.trans (St.kp F u.ow (kp.trans (Kp.aF rfl rfl rfl rfl)))
   ·rw[i];have P:({dU A1 x b 41 with runs:=A.runs++[(x,b)]}:AR).tb=A.tb:=u.tb;have J:({dU A1 x b 41 with runs:=A.runs++[(x,b)]}:AR).cC=A.cC:=d.2.2;unfold eZ Cl;rw[P,J]
 ·left;have E:Kc m a=false:=by simpa using hp
  unfold cD Qz;rw[E];exact⟨rfl,by simp,λM=>by cases M⟩
theorem Sq {x:Int}{r:Nat×Nat}(h:qC A x=some r):r∈A.runs/\x=(r.1:Int):=by
 unfold qC at h;exact⟨tQ h,by have:=ue h;simpa using Eq.symm (by simpa using this)⟩
theorem Tb (h:GA A)(x:Int):(Kp A (QG A x)/\GA (QG A x))/\(QG A x).cE=A.cE/\(∀j y,eZ (QG A x) j y↔eZ A j y)/\(KQ A x≠0->QG A x=A) ∧
 (KQ A x=0->∃r∈A.runs,x=(r.1:Int)/\(QG A x).runs=A.runs.filter λq=>!(q==r)):=by
 cases hr:qC A x with
 | none=>
  have e:QG A x=A:=by unfold QG;rw[hr]
  have D:KQ A x=8:=by unfold KQ;rw[hr];rfl
  rw[e,D];exact⟨⟨Kp.refl A,h⟩,rfl,λ_ _=>Iff.rfl,λ_=>rfl,λi=>by cases i⟩
 | some r=>
  obtain⟨b,i⟩:=Sq hr;have s:=h.gS r b;have u:A.runs.filter (λq=>!((q.1:Int)==x))=A.runs.filter λq=>!(q==r):=by
   apply Ac;intro q g;have:((q.1:Int)==x)=(q==r):=by
    rw[nG];simp only[zX];constructor
    ·intro e;have G:=h.gS q g;exact h.ia g b (x:=q.1) O O O O
    ·rintro rfl;exact i.symm
   rw[this]
  have e:QG A x=VX {A with runs:=A.runs.filter λq=>!(q==r)} r:=by unfold QG;rw[hr];simp only;rw[u]
  have D:KQ A x=0:=by unfold KQ;rw[hr];rfl
  obtain⟨a,m⟩:=r;obtain⟨o,B,pg,J⟩:=IL (A:={A with runs:=A.runs.filter λq=>!(q==(a,m))}) (h.pg.same rfl rfl rfl rfl) s (λp C E=>(h.jA b C E).1);have own:∀p,a<=p->p<a+m->A.ow p=41:=λp C E=>(h.jA b C E).2;have H:=h.tb;rw[e,D];refine⟨⟨⟨rfl,rfl,rfl,J,λp F=>?_⟩,?_⟩,rfl,λ_ _=>Iff.rfl,λi=>(i rfl).elim,λ_=>⟨_,b,i,rfl⟩⟩
  ·by_cases hin:a<=p/\p<a+m
   ·rw[(B p hin.1 hin.2).1]at F;omega
   ·rw[o.f p hin]at F;exact F
  ·refine⟨pg,h.tb,h.lc,h.lt,h.cC,h.one,λj d tt w p=>?_,λp=>?_,λp=>?_,λq g=>h.gS q (zH.1 g).1,h.jS.filter _,h.oW,h.lM,h.nS⟩
   ·have w:Cl A j d tt:=w;have:=w.lt;by_cases hin:a<=p/\p<a+m
    ·rw[(B p hin.1 hin.2).2,←h.ow j d tt w p,own p hin.1 hin.2];omega
    ·rw[o.ow p hin];exact h.ow j d tt w p
   ·show _↔iQ (A.runs.filter λq=>!(q==(a,m))) p;by_cases hin:a<=p/\p<a+m
    ·rw[(B p hin.1 hin.2).2];constructor
     ·intro i;omega
     ·rintro⟨q,g,q1,q2⟩;have z:=zH.1 g;have:=h.ia z.1 b q1 q2 hin.1 hin.2;subst this;simp at z
    ·rw[o.ow p hin];show A.ow p=41↔_;rw[h.ji];constructor
     ·rintro⟨q,g,q1⟩;refine⟨q,zH.2 ⟨g,?_⟩,q1⟩;have:q≠(a,m):=by rintro rfl;exact hin q1
      simpa using this
     ·rintro⟨q,g,q1⟩;exact⟨q,(zH.1 g).1,q1⟩
   ·by_cases hin:a<=p/\p<a+m
    ·rw[(B p hin.1 hin.2).2];omega
    ·rw[o.ow p hin];exact h.py p
theorem TP (hk:Cl A k c ss):QM A k=swp A k c ss:=by unfold QM swp;rw[hk.1,hk.2]
theorem FQ (h:GA A):∀m,m<=A.tb.length->Ob A ((List.range m).foldl QM A)/\((List.range m).foldl QM A).cE=A.cE/\∀j y,eZ ((List.range m).foldl QM A) j y↔eZ A j y
 | 0,_=>⟨⟨h,Kp.refl A,rfl⟩,rfl,λ_ _=>Iff.rfl⟩
 | m+1,hm=>by
  obtain⟨o,e,t⟩:=FQ h m O;rw[zz,mN,lp,List.foldl_nil];generalize (List.range m).foldl QM A=B at o e t;obtain⟨c,d,_,a,_⟩:=o.ga.cl (k:=m) (by rw[o.kp.tb];omega);rw[TP a];have b:=o.ga.pR a;exact⟨⟨o.ga.swp a,o.kp.trans (o.ga.vZ a),b.runs.trans o.runs⟩,b.cE.trans e,λj y=>(o.ga.wX a).trans (t j y)⟩
theorem Uq (h:GA A):Ob A (YL A)/\(YL A).cE=A.cE/\∀j y,eZ (YL A) j y↔eZ A j y:=FQ h _ (zD _)
theorem C2 (k:Nat):∀(outs:List (List Int)) {A:AR},GA A->outs.flatten.Nodup->(∀x∈outs.flatten,eZ A k x/\¬ij A k x) →
 Ob A (outs.foldl (λA' xs=>Ze A' (k:Int) xs) A)/\(outs.foldl (λA' xs=>Ze A' (k:Int) xs) A).cE=A.cE/\∀j y,eZ (outs.foldl (λA' xs=>Ze A' (k:Int) xs) A) j y↔eZ A j y/\¬(j=k/\y∈outs.flatten)
 | [],A,h,_,_=>⟨⟨h,Kp.refl A,rfl⟩,rfl,by simp⟩
 | xs::outs,A,h,hn,ht=>by
  rw[vu]at hn ht;have hn':=oD.1 hn;have p:∀x∈xs,eZ A k x/\¬ij A k x:=λx i=>ht x (nB _ i);rw[lp];cases xs with
  | nil=>
   have u:Ze A (k:Int) []=A\/QW A (k:Int) []=0:=by
    by_cases w:QW A (k:Int) []=0
    ·exact .inr w
    ·exact .inl (by unfold Ze;rw[zA w])
   obtain⟨o,e,t,_⟩:=DF h (k:=(k:Int)) (xs:=[]) (λ_=>by simp);have s:∀j y,eZ (Ze A (k:Int) []) j y↔eZ A j y:=λj y=>by
    rcases u with u|u
    ·rw[u]
    ·rw[t u];simp
   have m:∀j y,ij (Ze A (k:Int) []) j y↔ij A j y:=λj y=>by unfold ij;rw[e]
   obtain⟨o2,B,z⟩:=C2 k outs o.ga hn'.2.1 λx i=>by rw[s,m];exact ht x (pV _ i)
   exact⟨⟨o2.ga,o.kp.trans o2.kp,o2.runs.trans o.runs⟩,B.trans e,λj y=>by rw[z,s];simp⟩
  | cons x0 xs=>
   obtain⟨c,D,C,_⟩:=(p x0 aA).1;have w:QW A (k:Int) (x0::xs)=0:=by
    rw[Gg h C];exact Ih ⟨λx i=>(KR C).1 (p x i).1,hn'.1⟩
   obtain⟨o,e,t,_⟩:=DF h (k:=(k:Int)) (xs:=x0::xs) (λ_ x i=>by rw[dC];exact(p x i).2);have s:=t w;have m:∀j y,ij (Ze A (k:Int) (x0::xs)) j y↔ij A j y:=λj y=>by unfold ij;rw[e]
   obtain⟨o2,B,z⟩:=C2 k outs o.ga hn'.2.1 λx i=>by
    rw[s,m];have:=ht x (pV _ i);exact⟨⟨this.1,λg=>hn'.2.2 x g.2 x i rfl⟩,this.2⟩
   refine⟨⟨o2.ga,o.kp.trans o2.kp,o2.runs.trans o.runs⟩,B.trans e,λj y=>?_⟩;rw[z,s,dC,vu,zR];constructor
   ·rintro⟨⟨a,b⟩,d⟩;refine⟨a,λ⟨r,g⟩=>?_⟩;rcases g with g|g
    ·exact b ⟨r,g⟩
    ·exact d ⟨r,g⟩
   ·rintro⟨a,b⟩;exact⟨⟨a,λ⟨r,g⟩=>b ⟨r,.inl g⟩⟩,λ⟨r,g⟩=>b ⟨r,.inr g⟩⟩
structure tv (A B:AR):Prop where
 ob:Ob A B
 sub:∀j y,ij B j y->ij A j y
 tk:∀j y,eZ B j y↔eZ A j y/\(ij A j y->ij B j y)
theorem tv.trans {B C:AR}(h:tv A B)(k:tv B C):tv A C:=
 ⟨⟨k.ob.ga,h.ob.kp.trans k.ob.kp,k.ob.runs.trans h.ob.runs⟩,λj y g=>h.sub j y (k.sub j y g),λj y=>by
  rw[k.tk,h.tk];exact⟨λ⟨⟨a,b⟩,d⟩=>⟨a,λe=>d (b e)⟩,λ⟨a,b⟩=>⟨⟨a,λe=>k.sub j y (b e)⟩,λe=>b (h.sub j y e)⟩⟩⟩
theorem RX (h:GA A)(hk:k<A.tb.length):tv A (Ku A k):=by
 obtain⟨c,H,t,F,m⟩:=h.cl hk;have p:k<A.cE.length:=by rw[h.lt];exact hk
 have e:Ku A k=t.out.foldl (λA' w=>Ze A' (k:Int) w) {A with cE:=A.cE.set k t.tick}:=by unfold Ku;rw[m]
 have C:t.bs=t.out++t.tick.bs:=(nu ((t.low+1)/2) t.bs).symm;have i:t.bs.flatten=t.out.flatten++t.tick.bs.flatten:=by conv=>lhs;rw[C];rw[AX]
 have u:=h.oW k t m;rw[i]at u;have g:=oD.1 u;have s:∀x∈t.bs.flatten,eZ A k x:=λx d=>(KR F).2 (h.lM k c H t F m x d);have J:GA {A with cE:=A.cE.set k t.tick}:=h.kc g.2.1 (λx d=>s x (by rw[i];exact pV _ d)) λG B w z=>h.nS k G t B m w (t.mj w z);obtain⟨o,D,E⟩:=C2 k t.out J g.1 λx d=>by
  refine⟨s x (by rw[i];exact nB _ d),?_⟩;rw[yY p];rintro(⟨_,hy⟩|⟨hy,_⟩)
  ·exact g.2.2 x d x hy rfl
  ·exact hy rfl
 rw[←e]at o D E;have r:∀j y,ij (Ku A k) j y↔(j=k/\y∈t.tick.bs.flatten)\/(j≠k/\ij A j y):=λj y=>by
  rw[←yY p];unfold ij;rw[D]
 refine⟨⟨o.ga,(Kp.aF rfl rfl rfl rfl:Kp A {A with cE:=A.cE.set k t.tick}).trans o.kp,o.runs⟩,λj y d=>?_,λj y=>?_⟩
 ·rcases(r j y).1 d with⟨rfl,hy⟩|⟨_,hy⟩
  ·rw[GD m,i];exact pV _ hy
  ·exact hy
 ·rw[E,r];show eZ A j y/\_↔_;by_cases hjk:j=k
  ·subst hjk;rw[GD m,i,zR];constructor
   ·rintro⟨a,b⟩;refine⟨a,λd=>?_⟩;rcases d with d|d
    ·exact(b ⟨rfl,d⟩).elim
    ·exact .inl ⟨rfl,d⟩
   ·rintro⟨a,b⟩;refine⟨a,λ⟨_,d⟩=>?_⟩;rcases b (.inl d)with⟨_,hy⟩|⟨hy,_⟩
    ·exact g.2.2 y d y hy rfl
    ·exact hy rfl
  ·exact⟨λ⟨a,_⟩=>⟨a,λd=>.inr ⟨hjk,d⟩⟩,λ⟨a,_⟩=>⟨a,λ⟨d,_⟩=>hjk d⟩⟩
theorem EP (h:GA A):∀m,m<=A.tb.length->tv A ((List.range m).foldl Ku A)
 | 0,_=>⟨⟨h,Kp.refl A,rfl⟩,λ_ _=>id,λ_ _=>⟨λa=>⟨a,id⟩,λa=>a.1⟩⟩
 | m+1,hm=>by
  have t:=EP h m O;rw[zz,mN,lp,List.foldl_nil];exact t.trans (RX t.ob.ga (by rw[t.ob.kp.tb];omega))
theorem ο (h:GA A):tv A (UV A):=EP h _ (by rw[h.lt];exact zD _)
end Go.Ar
namespace Go.Ar
open Go.Bu (Zf QO j6 Zu qv iB Vm V8 dI take Ki Kj Bounded)
variable {A:AR}{sp:Sp}{k:Nat}{c:bW}{ss:List cH}
theorem DW {st:List Nat}{a m v:Nat}(hl:a+m<=st.length):v∈(st.drop a).take m↔∃p,a<=p/\p<a+m/\gf st p=v:=by
 constructor
 ·intro hm;obtain⟨i,b⟩:=zN hm;rw[zY]at b;split at b
  ·rename_i hlt;rw[zo]at b;refine⟨a+i,O,O,?_⟩;unfold gf;rw[zL,b];rfl
  ·cases b
 ·rintro⟨p,h1,h2,h3⟩;have d:p<st.length:=by omega
  unfold gf at h3;rw[zL,cM d]at h3;refine zE (i:=p-a) ?_;rw[zY,zB O,zo,show a+(p-a)=p by omega,cM d];exact congrArg some h3
theorem HA {st:List Nat}{a b v:Nat}(hab:a<=b)(hb:b<=st.length):gA st a b v=0↔∀p,a<=p->p<b->gf st p≠v:=by
 unfold gA;rw[xO,DW O];constructor
 ·intro h p d g e;exact h ⟨p,d,O,e⟩
 ·rintro h ⟨p,d,g,e⟩;exact h p d O e
theorem Ip {s m v:Nat}(h1:1<=m)(h2:s+m<=sp.st.length)(h:∀p,s<=p->p<s+m->gf sp.st p≠0):dX sp (s:Int) (m:Int) v=sp.set s m v:=by
 unfold dX fI;rw[zB (Vn.2 ⟨h1,h2⟩),dC,dC,(RJ h2).2 h];rfl
theorem F9 {s m v:Nat}(h2:s+m<=sp.st.length)(p:Nat):gf (sp.set s m v).st p=if s<=p/\p<s+m then v else gf sp.st p:=Hx h2
theorem E9 {s m v x:Nat}(h:¬(s<=x/32/\x/32<s+m)):(sp.set s m v).wd x=sp.wd x:=by
 show(if s*32<=x/\x<(s+m)*32 then 0 else sp.wd x)=_
 rw[zA O]
structure Bq (A B:AR) (sp sp':Sp) (l:List Nat):Prop where
 st:St A B sp sp'
 f:∀p,B.f p=if p/16∈l then 0 else A.f p
 ow:B.ow=A.ow
 cE:B.cE=A.cE
 cC:B.cC=A.cC
 runs:B.runs=A.runs
 wd:∀x,x/32/16∉l->sp'.wd x=sp.wd x
 gf:∀p,p/16∉l->gf sp'.st p=gf sp.st p
 pk:sp'.pk=sp.pk
theorem PX (h:GA A)(hw:Ow A sp){g:Nat}(hg:16*g+16<=A.n)(hi:∀p,p/16=g->2<=A.f p):Bq A (Vh (A,sp) g).1 sp (Vh (A,sp) g).2 [g]:=by
 have w:∀p,16*g<=p/\p<16*g+16↔p/16=g:=λp=>by omega
 have F:(Vh (A,sp) g).1.st=fW A.st (16*g) (16*g+16) 0:=by
  show jN A.st (g:Int)=_;have B:vG A.st g=true:=by
   unfold vG;have r:=hi (16*g) O;have i:=(HA (st:=A.st) (a:=16*g) (b:=16*g+16) (v:=1) O (by rw[h.pg.len];exact hg)).2 λp D E e=>by
    have:=hi p O;unfold AR.f at this;omega
   unfold AR.f gf at r;have z:A.st.getD (16*g) 0≠0:=by omega
   rw[i,bne_iff_ne.2 z];rfl
  unfold jN lN;rw[UL (by rw[h.pg.len];exact hg),zB rfl,dC,B];rfl
 have J:(Vh (A,sp) g).1.S=take A.S (g*16) (g*16+16):=M9 (n:=A.n) (S:=A.S) (a:=g*16) (m:=16) O O λp D E=>by rw[h.pg.fr];exact hi p O
 have y:(Vh (A,sp) g).2=sp.set (g*16) 16 0:=Ip (sp:=sp) (s:=g*16) (m:=16) (v:=0) O (by rw[hw.l];omega) λp D E=>hw.own p (by have:=hi p O;omega);have C:g*16+16<=sp.st.length:=by rw[hw.l];omega
 have j:∀p,(Vh (A,sp) g).1.f p=if p/16=g then 0 else A.f p:=λp=>by
  unfold AR.f;rw[F,Hx (by rw[h.pg.len];exact hg)];by_cases hp:p/16=g
  ·rw[zB hp,zB ((w p).2 hp)]
  ·rw[zA hp,zA (λd=>hp ((w p).1 d))]
 have u:∀p,gf (Vh (A,sp) g).2.st p=if p/16=g then 0 else gf sp.st p:=λp=>by
  rw[y,F9 C];by_cases hp:p/16=g
  ·rw[zB hp,zB O]
  ·rw[zA hp,zA O]
 have pg:PG (Vh (A,sp) g).1:=by
  refine⟨by rw[F,Qj];exact h.pg.len,h.pg.n1,h.pg.n2,h.pg.n16,λp=>?_,λp=>?_,λp=>?_,λp=>?_⟩
  ·rw[j];have:=h.pg.le p;split<;>omega
  ·rw[j];show _↔A.ow p≠0;have:=h.pg.us p;by_cases hp:p/16=g
   ·rw[zB hp];have:=hi p hp;constructor
    ·intro d;omega
    ·intro d;have:=(h.pg.us p).2 d;omega
   ·rw[zA hp];exact this
  ·rw[j,J,Kj];have:=h.pg.fr p;by_cases hp:p/16=g
   ·rw[zB hp];constructor
    ·rintro⟨_,d⟩;exact(d O).elim
    ·intro d;omega
   ·rw[zA hp];constructor
    ·rintro⟨d,_⟩;exact this.1 d
    ·intro d;exact⟨this.2 d,O⟩
  ·rw[j,j];have e:p/16*16/16=p/16:=by omega
   rw[e];split
   ·exact Iff.rfl
   ·exact h.pg.hp p
 have G:GA (Vh (A,sp) g).1:=⟨pg,h.tb,h.lc,h.lt,h.cC,h.one,h.ow,h.ji,h.py,h.gS,h.jS,h.oW,h.lM,h.nS⟩;refine⟨⟨G,⟨by rw[y];show(fW _ _ _ _).length=A.n;rw[Qj];exact hw.l,λp hp=>?_,λp hp=>?_,λp=>?_⟩,rfl,rfl,rfl,λp r i=>?_,λp r i=>?_,λp r i=>?_⟩,λp=>?_,rfl,rfl,rfl,rfl,λx d=>?_,λp hp=>?_,?_⟩
 ·rw[j]at hp;rw[u];split at hp
  ·exact(hp rfl).elim
  ·rename_i hn;rw[zA hn];exact hw.own p hp
 ·rw[j]at hp;rw[u];split at hp
  ·cases hp
  ·rename_i hn;rw[zA hn];exact hw.cl p hp
 ·rw[u];have:=hw.le p;split<;>omega
 ·rw[u];by_cases hp:p/16=g
  ·have:=hi p hp;omega
  ·rw[zA hp]
 ·rw[j]at i;rw[u];split at i
  ·rename_i hp;rw[zB hp]
  ·exact(r i).elim
 ·rw[j]at i;split at i
  ·exact(i rfl).elim
  ·exact(i r).elim
 ·rw[j];simp
 ·rw[y];exact E9 λH=>d aE
 ·rw[u,zA (by simpa using hp)]
 ·rw[y];rfl
theorem EX:∀(l:List Nat) {A:AR} {sp:Sp},GA A->Ow A sp->l.Nodup->(∀g∈l,16*g+16<=A.n/\∀p,p/16=g->2<=A.f p)->Bq A (l.foldl Vh (A,sp)).1 sp (l.foldl Vh (A,sp)).2 l
 | [],A,sp,h,hw,_,_=>⟨St.refl h hw,λp=>by simp,rfl,rfl,rfl,rfl,λ_ _=>rfl,λ_ _=>rfl,rfl⟩
 | g::l,A,sp,h,hw,hn,hi=>by
  have hn':=zp.1 hn;have t:=PX h hw (hi g aA).1 (hi g aA).2;have k:=EX l (A:=(Vh (A,sp) g).1) (sp:=(Vh (A,sp) g).2) t.st.ga t.st.ow hn'.2 λe a=>by
   refine⟨by rw[t.st.n];exact(hi e (by simp[a])).1,λp b=>?_⟩;rw[t.f,zA (by simp;rintro rfl;exact hn'.1 (b▸a))];exact(hi e (by simp[a])).2 p b
  rw[lp];refine⟨t.st.trans k.st,λp=>?_,k.ow.trans t.ow,k.cE.trans t.cE,k.cC.trans t.cC,k.runs.trans t.runs,λx d=>?_,λp b=>?_,k.pk.trans t.pk⟩
  ·rw[k.f,t.f];by_cases h1:p/16∈l
   ·rw[zB h1,zB (by simp[h1])]
   ·rw[zA h1];by_cases h2:p/16=g
    ·rw[zB (by simp[h2]),zB (by simp[h2])]
    ·rw[zA (by simp[h2]),zA (by simp[h1,h2])]
  ·simp only[zQ,not_or]at d;exact(k.wd x d.2).trans (t.wd x (by simpa using d.1))
  ·simp only[zQ,not_or]at b;exact(k.gf p b.2).trans (t.gf p (by simpa using b.1))
theorem IK (h:GA A){g:Nat}:g∈Kg A.st 0↔16*g+16<=A.n/\∀p,p/16=g->2<=A.f p:=by
 have r:=h.pg.n16;unfold Kg;rw[zH,zU,h.pg.len];have m:∀(d:16*g+16<=A.n),(KP A.st g==0)=true↔∀p,p/16=g->A.f p≠1:=λd=>by
  have i:=HA (st:=A.st) (a:=16*g) (b:=16*g+16) (v:=1) O (by rw[h.pg.len];exact d);have e:(KP A.st g==0)=true↔gA A.st (16*g) (16*g+16) 1=0:=by
   unfold KP;split
   ·rename_i hx;simp[hx]
   ·rename_i hx;constructor
    ·intro hy;split at hy<;>simp at hy
    ·intro hy;exact(hx hy).elim
  rw[e,i];constructor
  ·intro hx p j;exact hx p O O
  ·intro hx p p1 p2;exact hx p O
 simp only[zF,bne_iff_ne,ne_eq];constructor
 ·rintro⟨h1,i,h3⟩;have d:16*g+16<=A.n:=by omega
  refine⟨d,λp j=>?_⟩;have s:=(m d).1 h3 p j;have u:A.f p≠0:=λe=>i ((h.pg.kB (q:=16*g) O).1 e);omega
 ·rintro⟨d,i⟩;refine⟨O,λe=>?_,(m d).2 λp j e=>?_⟩
  ·have e:A.f (16*g)=0:=e;have:=i (16*g) O;omega
  ·have:=i p j;omega
theorem MH (st:List Nat)(k:Nat):(Kg st k).Nodup:=List.nodup_range.filter _
theorem WkR (h:GA A)(hw:Ow A sp):Bq A (eJ A sp).1 sp (eJ A sp).2 (Kg A.st 0):=EX _ h hw (MH _ _) λg a=>(IK h).1 a
structure AM (A B:AR) (sp sp':Sp) (rs:List (Nat×Nat)):Prop where
 st:St A B sp sp'
 i:∀p,iQ rs p->A.f p=2/\B.f p=3/\gf sp'.st p=1
 o:∀p,¬iQ rs p->B.f p=A.f p/\gf sp'.st p=gf sp.st p
 ow:B.ow=A.ow
 cE:B.cE=A.cE
 cC:B.cC=A.cC
 runs:B.runs=A.runs
 wd:∀x,¬iQ rs (x/32)->sp'.wd x=sp.wd x
 pk:sp'.pk=sp.pk
theorem Pq (h:GA A)(hw:Ow A sp){a m:Nat}(h1:1<=m)(hi:∀p,a<=p->p<a+m->A.f p=2):AM A (fE (A,sp) (a,m)).1 sp (fE (A,sp) (a,m)).2 [(a,m)]:=by
 have y:a+m<=A.n:=by have:=h.pg.lt (p:=a+m-1) (by rw[hi _ O O];omega);omega
 have d:∀p,iQ [(a,m)] p↔a<=p/\p<a+m:=λp=>by simp[iQ]
 have C:(fE (A,sp) (a,m)).1.st=fW A.st a (a+m) 3:=Ci h1 (by rw[h.pg.len];exact y) λp w z=>by
  have:=hi p w z;unfold AR.f at this;rw[this];simp
 have j:a+m<=sp.st.length:=by rw[hw.l];exact y
 have s:(fE (A,sp) (a,m)).2=sp.set a m 1:=Ip h1 j λp w z=>hw.own p (by rw[hi p w z];omega);have g:∀p,(fE (A,sp) (a,m)).1.f p=if a<=p/\p<a+m then 3 else A.f p:=λp=>by unfold AR.f;rw[C,Hx (by rw[h.pg.len];exact y)]
 have i:∀p,gf (fE (A,sp) (a,m)).2.st p=if a<=p/\p<a+m then 1 else gf sp.st p:=λp=>by rw[s,F9 j]
 have u:∀p,(fE (A,sp) (a,m)).1.f p=0↔A.f p=0:=λp=>by
  rw[g];split
  ·rename_i b;rw[hi p b.1 b.2];omega
  ·exact Iff.rfl
 have pg:PG (fE (A,sp) (a,m)).1:=by
  refine⟨by rw[C,Qj];exact h.pg.len,h.pg.n1,h.pg.n2,h.pg.n16,λp=>?_,λp=>?_,λp=>?_,Ck h.pg u⟩
  ·rw[g];have:=h.pg.le p;split<;>omega
  ·rw[g];show _↔A.ow p≠0;rw[←h.pg.us p];split
   ·rename_i b;rw[hi p b.1 b.2];omega
   ·exact Iff.rfl
  ·rw[g];show A.S p=true↔_;rw[h.pg.fr p];split
   ·rename_i b;rw[hi p b.1 b.2];omega
   ·exact Iff.rfl
 have D:GA (fE (A,sp) (a,m)).1:=⟨pg,h.tb,h.lc,h.lt,h.cC,h.one,h.ow,h.ji,h.py,h.gS,h.jS,h.oW,h.lM,h.nS⟩;refine⟨⟨D,⟨by rw[s];show(fW _ _ _ _).length=A.n;rw[Qj];exact hw.l,λp b=>?_,λp b=>?_,λp=>?_⟩,rfl,rfl,rfl,λp h1 r=>?_,λp h1 r=>(h1 ((u p).1 r)).elim,λp h1 r=>(r ((u p).2 h1)).elim⟩,λp b=>?_,λp b=>?_,rfl,rfl,rfl,rfl,λx B=>?_,?_⟩
 ·rw[i];split
  ·omega
  ·rename_i hn;exact hw.own p λe=>b ((u p).2 e)
 ·rw[g]at b;rw[i];split at b
  ·rename_i hn;rw[zB hn]
  ·rename_i hn;rw[zA hn];exact hw.cl p b
 ·rw[i];have:=hw.le p;split<;>omega
 ·rw[i,zA λb=>by have:=hi p b.1 b.2;omega]
 ·rw[d]at b;rw[g,i,zB b,zB b];exact⟨hi p b.1 b.2,rfl,rfl⟩
 ·rw[d]at b;rw[g,i,zA b,zA b];exact⟨rfl,rfl⟩
 ·rw[d]at B;rw[s];exact E9 B
 ·rw[s];rfl
theorem FO:∀(rs:List (Nat×Nat)) {A:AR} {sp:Sp},GA A->Ow A sp->(∀r∈rs,1<=r.2/\∀p,r.1<=p->p<r.1+r.2->A.f p=2)->rs.Pairwise (λa b=>a.1+a.2<=b.1\/b.1+b.2<=a.1) →
 AM A (rs.foldl fE (A,sp)).1 sp (rs.foldl fE (A,sp)).2 rs
 | [],A,sp,h,hw,_,_=>⟨St.refl h hw,λp ⟨r,hr,_⟩=>by simp at hr,λp _=>⟨rfl,rfl⟩,rfl,rfl,rfl,rfl,λ_ _=>rfl,rfl⟩
 | (a,m)::rs,A,sp,h,hw,hi,hd=>by
  have hd':=mR.1 hd;have j:=hi (a,m) (kX ..);have t:=Pq h hw j.1 j.2;have e:∀p,iQ [(a,m)] p↔a<=p/\p<a+m:=λp=>by simp[iQ]
  have d:∀p,iQ ((a,m)::rs) p↔(a<=p/\p<a+m)\/iQ rs p:=λp=>by simp[iQ]
  have k:=FO rs (A:=(fE (A,sp) (a,m)).1) (sp:=(fE (A,sp) (a,m)).2) t.st.ga t.st.ow (λr hr=>by
   have:=hi r (kL _ hr);refine⟨this.1,λp B C=>?_⟩;have u:=hd'.1 r hr;simp only at u;rw[(t.o p (by rw[e];omega)).1];exact this.2 p B C) hd'.2
  rw[lp];refine⟨t.st.trans k.st,λp w=>?_,λp w=>?_,k.ow.trans t.ow,k.cE.trans t.cE,k.cC.trans t.cC,k.runs.trans t.runs,λx u=>?_,k.pk.trans t.pk⟩
  ·by_cases s:iQ rs p
   ·have:=k.i p s;refine⟨?_,this.2⟩;by_cases g:a<=p/\p<a+m
    ·exact j.2 p g.1 g.2
    ·rw[←(t.o p (by rw[e];exact g)).1];exact this.1
   ·have g:a<=p/\p<a+m:=((d p).1 w).resolve_right s;have y:=t.i p ((e p).2 g);have z:=k.o p s;exact⟨y.1,z.1.trans y.2.1,z.2.trans y.2.2⟩
  ·rw[d]at w;have s:¬iQ rs p:=λh=>w (.inr h);have g:¬iQ [(a,m)] p:=λh=>w (.inl ((e p).1 h));exact⟨(k.o p s).1.trans (t.o p g).1,(k.o p s).2.trans (t.o p g).2⟩
  ·rw[d]at u;exact(k.wd x λh=>u (.inr h)).trans (t.wd x λh=>u (.inl ((e _).1 h)))
theorem MT {st:List Nat}{p m:Nat}(hl:p+m<=st.length):gp st p m<=m/\(∀x,p<=x->x<p+gp st p m->gf st x=2)/\(gp st p m<m->gf st (p+gp st p m)≠2):=by
 have key:∀(l:List Nat),(l.takeWhile (· == 2)).length<=l.length/\(∀i,i<(l.takeWhile (· == 2)).length->l[i]?=some 2)/\((l.takeWhile (· == 2)).length<l.length->l[(l.takeWhile (· == 2)).length]?≠some 2):=by
  intro l
  induction l with
  | nil=>simp
  | cons x l ih=>
   rw[xE];by_cases hx:x=2
   ·subst hx;simp only[beq_self_eq_true,zT,zP];refine⟨O,λi g=>?_,λa=>?_⟩
    ·cases i with
     | zero=>rfl
     | succ i=>simpa using ih.2.1 i O
    ·simpa using ih.2.2 O
   ·have:(x==2)=false:=by simpa using hx
    simp[this,hx]
 have k:=key ((st.drop p).take m);have d:((st.drop p).take m).length=m:=by simp;omega
 have get:∀i,i<m->((st.drop p).take m)[i]?=some (gf st (p+i)):=λi g=>by
  rw[zY,zB g,zo];unfold gf;rw[zL,cM O];rfl
 rw[d]at k;refine⟨k.1,λx s r=>?_,λa=>?_⟩
 ·have b:=k.2.1 (x-p) (by unfold gp at r;omega);have j:gp st p m<=m:=k.1;rw[get _ O,show p+(x-p)=x by omega]at b;exact Option.some.inj b
 ·have b:=k.2.2 a;have e:(((st.drop p).take m).takeWhile (· == 2)).length=gp st p m:=rfl;rw[e,get _ a]at b;exact λe=>b (congrArg some e)
theorem Vu {st:List Nat}{e:Nat}(he:e<=st.length):∀(f p:Nat),(∀r∈QX st e f p,1<=r.2/\p<=r.1/\r.1+r.2<=e/\∀x,r.1<=x->x<r.1+r.2->gf st x=2)/\(QX st e f p).Pairwise (λa b=>a.1+a.2<=b.1) ∧
 (e-p<f->∀x,p<=x->x<e->gf st x=2->iQ (QX st e f p) x)/\((QX st e f p).map (·.2)).sum<=e-p
 | 0,p=>⟨by simp[QX],by simp[QX],λh=>O,by simp[QX]⟩
 | f+1,p=>by
  rw[QX];split
  ·rename_i hp;exact⟨by simp,by simp,λ_ x h1 h2=>O,by simp⟩
  ·rename_i hp;have hr:=MT (st:=st) (p:=p) (m:=e-p) O;split
   ·rename_i h0;obtain⟨i,s,j,u⟩:=Vu he f (p+1);refine⟨λr d=>?_,s,λw x h1 h2 g=>?_,O⟩
    ·have:=i r d;exact⟨this.1,O,this.2.2⟩
    ·by_cases hx:x=p
     ·subst hx;rw[h0]at hr;exact(hr.2.2 O (by simpa using g)).elim
     ·exact j O x O h2 g
   ·rename_i h0;obtain⟨i,s,j,u⟩:=Vu he f (p+gp st p (e-p)+1);refine⟨λr d=>?_,mR.2 ⟨λr d=>?_,s⟩,λw x h1 h2 g=>?_,?_⟩
    ·rcases zQ.1 d with rfl|d
     ·exact⟨by simp only;omega,zD _,by simp only;omega,hr.2.1⟩
     ·have:=i r d;exact⟨this.1,O,this.2.2⟩
    ·have:=i r d;simp only;omega
    ·by_cases hx:x<p+gp st p (e-p)
     ·exact⟨_,kX ..,h1,hx⟩
     ·by_cases hx2:x=p+gp st p (e-p)
      ·subst hx2;exact(hr.2.2 O g).elim
      ·obtain⟨r,d,y⟩:=j O x O h2 g;exact⟨r,kL _ d,y⟩
    ·simp only[zJ,zm];omega
theorem Wjj (st:List Nat)(l:List Nat)(h:Nat):(mY st l h).Perm (h::l):=by
 unfold mY;refine List.perm_middle.trans ?_;rw[Cr]
theorem LI (st:List Nat):(eM st).Perm ((List.range (st.length/16)).filter λh=>0<gA st (16*h) (16*h+16) 2):=by
 unfold eM;have key:∀(l m:List Nat),(l.foldl (mY st) m).Perm (l++m):=by
  intro l
  induction l with
  | nil=>intro m;exact List.Perm.refl _
  | cons x l ih=>
   intro m;rw[lp,lL];refine(ih _).trans ?_;refine((Wjj st m x).append_left l).trans ?_;exact List.perm_middle
 simpa using key _ []
theorem AG (want:Int):∀(x:Nat) (l:List (Nat×Nat)),(gP want x l).Sublist l
 | x,[]=>by simp[gP]
 | x,r::l=>by
  rw[gP];split
  ·exact List.nil_sublist _
  ·exact(AG want (x+r.2) l).cons_cons r
theorem FG {want:Int}:∀(x:Nat) (l:List (Nat×Nat)),(∀r∈l,1<=r.2)->((x+(l.map (·.2)).sum:Nat):Int)<=want->gP want x l=l
 | x,[],_,_=>by simp[gP]
 | x,r::l,hp,hs=>by
  have:=hp r aA;simp only[zJ,zm]at hs;rw[gP,zA O,FG (x+r.2) l (λq a=>hp q (by simp[a])) O]
theorem Sw {st:List Nat}(h16:st.length%16=0):(∀r∈(eM st).flatMap (KM st),1<=r.2/\∀x,r.1<=x->x<r.1+r.2->gf st x=2)/\((eM st).flatMap (KM st)).Pairwise (λa b=>a.1+a.2<=b.1\/b.1+b.2<=a.1) ∧
 (∀x,gf st x=2->iQ ((eM st).flatMap (KM st)) x)/\(((eM st).flatMap (KM st)).map (·.2)).sum<=st.length:=by
 have s:=LI st;have d:∀h∈eM st,16*h+16<=st.length:=λh w=>by
  have:=(zH.1 (s.subset w)).1;rw[zU]at this;omega
 have u:(eM st).Nodup:=s.nodup_iff.2 (List.nodup_range.filter _);have D:(eM st).length<=st.length/16:=by
  rw[s.length_eq];exact zI (m5 _ _) aA
 refine⟨λr j=>?_,?_,λx A=>?_,?_⟩
 ·obtain⟨h,w,j⟩:=rq.1 j;have:=(Vu (d h w) 17 (16*h)).1 r j;exact⟨this.1,this.2.2.2⟩
 ·have key:∀l:List Nat,l.Nodup->(∀h∈l,16*h+16<=st.length)->(l.flatMap (KM st)).Pairwise (λa b=>a.1+a.2<=b.1\/b.1+b.2<=a.1):=by
   intro l
   induction l with
   | nil=>intro _ _;simp
   | cons h l ih=>
    intro p hl;have p:=zp.1 p;rw[mO];refine pq.2 ⟨(Vu (hl h aA) 17 (16*h)).2.1.imp λ{a b} y=>.inl y,ih p.2 λg i=>hl g (by simp[i]),λa H b z=>?_⟩;obtain⟨g,i,z⟩:=rq.1 z;have m:=(Vu (hl h aA) 17 (16*h)).1 a H;have E:=(Vu (hl g (by simp[i])) 17 (16*g)).1 b z;have G:h≠g:=λe=>p.1 (e▸i);omega
  exact key _ u d
 ·have F:x<st.length:=Lc O;have B:x/16∈eM st:=s.symm.subset (zH.2 ⟨zU.2 O,by
   have:gA st (16*(x/16)) (16*(x/16)+16) 2≠0:=λC=>by
    rw[HA O O]at C;exact C x O O A
   simp;omega⟩)
  obtain⟨r,j,m⟩:=(Vu (d _ B) 17 (16*(x/16))).2.2.1 O x O O A;exact⟨r,rq.2 ⟨_,B,j⟩,m⟩
 ·have key:∀l:List Nat,(∀h∈l,16*h+16<=st.length)->((l.flatMap (KM st)).map (·.2)).sum<=16*l.length:=by
   intro l
   induction l with
   | nil=>intro _;simp
   | cons h l ih=>
    intro hl;have m:=(Vu (hl h aA) 17 (16*h)).2.2.2;have E:=ih λg i=>hl g (by simp[i]);rw[mO,zu,qo,zP];have m:((KM st h).map (·.2)).sum<=16*h+16-16*h:=m;omega
  have:=key _ d;omega
theorem Fc (h:GA A)(hw:Ow A sp){want:Int}(h0:0<=want):AM (YL A) (dV A sp want).1 sp (dV A sp want).2 (V3 A want)/\(1024<=want->∀p,(dV A sp want).1.f p≠2):=by
 obtain⟨o,_,_⟩:=Uq h;have d:(YL A).st.length%16=0:=by rw[o.ga.pg.len];exact o.ga.pg.n16
 obtain⟨m,w,x,u⟩:=Sw d;have a:=AG want 0 ((eM (YL A).st).flatMap (KM (YL A).st));have e:dV A sp want=(V3 A want).foldl fE (YL A,sp):=by unfold dV;rw[zA O]
 rw[e];have t:=FO (V3 A want) o.ga (hw.kp o.kp) (λr j=>m r (a.subset j)) (w.sublist a);refine⟨t,λs p g=>?_⟩;have y:=o.ga.pg.n2;have b:V3 A want=(eM (YL A).st).flatMap (KM (YL A).st):=FG 0 _ (λr j=>(m r j).1) (by
  rw[o.ga.pg.len]at u;omega)
 by_cases hi:iQ (V3 A want) p
 ·rw[(t.i p hi).2.1]at g;omega
 ·rw[(t.o p hi).1]at g;exact hi (by rw[b];exact x p g)
theorem Pv (h:GA A)(hw:Ow A sp)(want:Int):St A (dV A sp want).1 sp (dV A sp want).2/\(dV A sp want).1.runs=A.runs/\(dV A sp want).1.cE=A.cE/\∀j y,eZ (dV A sp want).1 j y↔eZ A j y:=by
 by_cases h0:0<=want
 ·obtain⟨t,_⟩:=Fc h hw h0;obtain⟨o,e,k⟩:=Uq h;refine⟨(o.st hw).trans t.st,t.runs.trans o.runs,t.cE.trans e,λj y=>?_⟩;rw[←k];unfold eZ Cl;rw[t.cC,t.st.tb]
 ·have e:dV A sp want=(A,sp):=by unfold dV;rw[zB O]
  rw[e];exact⟨St.refl h hw,rfl,rfl,λ_ _=>Iff.rfl⟩
end Go.Ar
namespace Go.Ar
structure Pc where
 k:Nat
 cls:Int
 addr:Nat
 size:Nat
 dZ:Bool
 deriving DecidableEq
structure Wd where
 tb:List bW
 sp:Sp
 bT:List AR
 held:List Pc
structure Act where
 kd:Int
 ar:Int
 cl:Int
 a:Int
 b:Int
 l:List Int
abbrev Key:=Nat×Int×Nat
def Pc.key (p:Pc):Key:=(p.k,p.cls,p.addr)
def mE (k:Nat)(cls x:Int)(p:Pc):Bool:=p.k==k&&(p.cls==cls&&((p.addr:Int)==x && !p.dZ))
def uJ (held:List Pc)(k:Nat)(cls x:Int):Option Nat:=held.findIdx? (mE k cls x)
def jR (held:List Pc)(k:Nat)(cls:Int)(l:List Int):Bool:=l.all (λx=>(uJ held k cls x).isSome)&&decide l.Nodup
def mH (k:Nat)(cls:Int)(held:List Pc)(x:Int):List Pc:=match uJ held k cls x with
 | some i=>held.take i++held.drop (i+1)
 | none=>held
def wQ (held:List Pc)(k:Nat)(cls:Int)(l:List Int):List Pc:=l.foldl (mH k cls) held
def eI (k:Nat)(cls:Int)(l:List Int)(p:Pc):Bool:=p.k==k&&(p.cls==cls&&l.contains (p.addr:Int))
def Gs (held:List Pc)(k:Nat)(cls:Int)(l:List Int)(m:Bool):List Pc:=held.map λp=>if eI k cls l p then{p with dZ:=m}else p
def vz (us:List AR)(held:List Pc):List Pc:=held.filter λp=>!p.dZ||(match us[p.k]? with
 | some A=>wZ A (p.addr:Int)
 | none=>false)
def pB (tb:List bW)(k:Int):Nat:=((tb[k.toNat]?).map (·.size)).getD 0
def Wd.put (W:Wd)(k:Nat)(A:AR)(sp:Sp)(held:List Pc):Wd:={W with sp:=sp,bT:=W.bT.set k A,held:=held}
def Hd (A:AR)(p:Pc):Prop:=(p.cls = -1/\p.dZ=false/\∃r∈A.runs,p.addr=r.1*256/\p.size=r.2*256) ∨
 ∃(j:Nat) (c:bW),p.cls=j/\A.tb[j]?=some c/\p.size=c.size/\eZ A j (p.addr:Int)/\(p.dZ=true↔ij A j (p.addr:Int))
structure WI (W:Wd):Prop where
 ga:∀(k:Nat) (A:AR),W.bT[k]?=some A->GA A
 ow:∀(k:Nat) (A:AR),W.bT[k]?=some A->Ow A W.sp
 tb:∀(k:Nat) (A:AR),W.bT[k]?=some A->A.tb=W.tb
 low:∀(k:Nat) (A:AR),W.bT[k]?=some A->∀p,p<16->A.f p=0
 own:∀p,gf W.sp.st p≠0->∃(k:Nat) (A:AR),W.bT[k]?=some A/\A.f p≠0
 one:∀p (k l:Nat) (A B:AR),W.bT[k]?=some A->W.bT[l]?=some B->A.f p≠0->B.f p≠0->k=l
 hk:(W.held.map Pc.key).Nodup
 hf:∀p∈W.held,∃A,W.bT[p.k]?=some A/\Hd A p
 ht:∀(k:Nat) (A:AR),W.bT[k]?=some A->∀(j:Nat) (y:Int),eZ A j y->∃p∈W.held,p.k=k/\p.cls=j/\(p.addr:Int)=y
 hr:∀(k:Nat) (A:AR),W.bT[k]?=some A->∀r∈A.runs,∃p∈W.held,p.k=k/\p.cls = -1/\p.addr=r.1*256
variable {W:Wd}{k:Nat}{A:AR}
theorem Vb {α:Type}{l:List α}{k j:Nat}{x y:α}(h:(l.set k x)[j]?=some y):(j=k/\y=x/\k<l.length)\/(j≠k/\l[j]?=some y):=by
 by_cases hjk:j=k
 ·subst hjk;have a:j<l.length:=by have:=(cQ.1 h).1;simpa using this
  rw[zM a]at h;exact .inl ⟨rfl,(Option.some.inj h).symm,a⟩
 ·rw[zj (Ne.symm hjk)]at h;exact .inr ⟨hjk,h⟩
theorem WI.unique (h:WI W){p q:Pc}(hp:p∈W.held)(hq:q∈W.held)(e:p.key=q.key):p=q:=by
 obtain⟨i,d⟩:=zN hp;obtain⟨j,g⟩:=zN hq;obtain⟨b,rfl⟩:=cQ.1 d;obtain⟨a,rfl⟩:=cQ.1 g;have:=kP.1 h.hk;rcases qx i j with hl|hl|hl
 ·exact(this i j (by simpa using b) (by simpa using a) hl (by simpa using e)).elim
 ·subst hl;rfl
 ·exact(this j i (by simpa using a) (by simpa using b) hl (by simpa using e.symm)).elim
theorem WI.step (h:WI W)(hk:W.bT[k]?=some A){B:AR}{sp':Sp}{held':List Pc}(s:St A B W.sp sp')(h1:(held'.map Pc.key).Nodup)(h2:∀p∈held',p.k=k->Hd B p)(h3:∀p,p.k≠k->(p∈held'↔p∈W.held))
 (h4:∀(j:Nat) (y:Int),eZ B j y->∃p∈held',p.k=k/\p.cls=j/\(p.addr:Int)=y) (h5:∀r∈B.runs,∃p∈held',p.k=k/\p.cls = -1/\p.addr=r.1*256):WI (W.put k B sp' held'):=by
 have E:=(cQ.1 hk).1;have m:(W.bT.set k B)[k]?=some B:=zM E;have J:∀{j:Nat} {C:AR},j≠k->W.bT[j]?=some C->(W.bT.set k B)[j]?=some C:=λa e=>(zj (Ne.symm a)).trans e;have g:∀{j:Nat} {C:AR},j≠k->W.bT[j]?=some C->∀p,C.f p≠0->A.f p=0/\B.f p=0/\gf sp'.st p=gf W.sp.st p:=by
  intro j C a e p b;have u:A.f p=0:=Classical.byContradiction λx=>a (h.one p j k C A e hk b x);have w:B.f p=0:=Classical.byContradiction λx=>by
   have:=(s.new p u x).1;exact(h.ow j C e).own p b this
  exact⟨u,w,s.same p u w⟩
 refine⟨λj C a=>?_,λj C a=>?_,λj C a=>?_,λj C a p b=>?_,λp b=>?_,λp j l C D a L e G=>?_,h1,λp b=>?_,λj C a i y K=>?_,λj C a r hr=>?_⟩
 ·rcases Vb a with⟨rfl,rfl,_⟩|⟨_,a⟩
  ·exact s.ga
  ·exact h.ga j C a
 ·rcases Vb a with⟨rfl,rfl,_⟩|⟨d,a⟩
  ·exact s.ow
  ·have o:=h.ow j C a;have M:=h.ow k A hk;refine⟨?_,λp b=>?_,λp b=>?_,s.ow.le⟩
   ·show sp'.st.length=C.n;rw[s.ow.l,s.n,←M.l,o.l]
   ·show gf sp'.st p≠0;rw[(g d a p b).2.2];exact o.own p b
   ·show gf sp'.st p=1;rw[(g d a p O).2.2];exact o.cl p b
 ·rcases Vb a with⟨rfl,rfl,_⟩|⟨_,a⟩
  ·exact s.tb.trans (h.tb _ A hk)
  ·exact h.tb j C a
 ·rcases Vb a with⟨rfl,rfl,_⟩|⟨_,a⟩
  ·apply Classical.byContradiction;intro x;have:=s.new p (h.low _ A hk p b) x;omega
  ·exact h.low j C a p b
 ·have b:gf sp'.st p≠0:=b;by_cases w:B.f p=0
  ·by_cases u:A.f p=0
   ·rw[s.same p u w]at b;obtain⟨j,C,a,e⟩:=h.own p b;have d:j≠k:=by
     rintro rfl;rw[hk]at a;cases a;exact e u
    exact⟨j,C,J d a,e⟩
   ·exact(b (s.gone p u w)).elim
  ·exact⟨k,B,m,w⟩
 ·rcases Vb a with⟨rfl,rfl,_⟩|⟨d,hj'⟩
  ·rcases Vb L with⟨rfl,rfl,_⟩|⟨hne2,hl'⟩
   ·rfl
   ·exact(e (g hne2 hl' p G).2.1).elim
  ·rcases Vb L with⟨rfl,rfl,_⟩|⟨hne2,hl'⟩
   ·exact(G (g d hj' p e).2.1).elim
   ·exact h.one p j l C D hj' hl' e G
 ·by_cases hpk:p.k=k
  ·exact⟨B,by rw[hpk];exact m,h2 p b hpk⟩
  ·obtain⟨C,e,N⟩:=h.hf p ((h3 p hpk).1 b);exact⟨C,J hpk e,N⟩
 ·rcases Vb a with⟨rfl,rfl,_⟩|⟨d,a⟩
  ·exact h4 i y K
  ·obtain⟨p,b,z,H,F⟩:=h.ht j C a i y K;exact⟨p,(h3 p (by rw[z];exact d)).2 b,z,H,F⟩
 ·rcases Vb a with⟨rfl,rfl,_⟩|⟨d,a⟩
  ·exact h5 r hr
  ·obtain⟨p,b,z,H,F⟩:=h.hr j C a r hr;exact⟨p,(h3 p (by rw[z];exact d)).2 b,z,H,F⟩
theorem Hd.to {B:AR}{p:Pc}(h:Hd A p)(e1:B.tb=A.tb)(e2:B.runs=A.runs)(e3:∀j y,eZ A j y->eZ B j y)(e4:∀j y,ij B j y↔ij A j y):Hd B p:=by
 rcases h with⟨h1,h2,r,hr,h3⟩|⟨j,c,h1,h2,h3,h4,h5⟩
 ·exact .inl ⟨h1,h2,r,by rw[e2];exact hr,h3⟩
 ·exact .inr ⟨j,c,h1,by rw[e1];exact h2,h3,e3 _ _ h4,by rw[e4];exact h5⟩
theorem WI.hd (h:WI W)(hk:W.bT[k]?=some A){p:Pc}(hp:p∈W.held)(e:p.k=k):Hd A p:=by
 obtain⟨C,a,b⟩:=h.hf p hp;rw[e,hk]at a;cases a;exact b
theorem WI.jx (h:WI W)(hk:W.bT[k]?=some A){B:AR}{sp':Sp}(s:St A B W.sp sp')(e2:B.runs=A.runs)(e3:∀j y,eZ B j y↔eZ A j y)(e4:B.cE=A.cE):WI (W.put k B sp' W.held):=
 h.step hk s h.hk (λp b e=>(h.hd hk b e).to s.tb e2 (λj y=>(e3 j y).2) λj y=>by unfold ij;rw[e4]) (λ_ _=>Iff.rfl) (λj y a=>h.ht k A hk j y ((e3 j y).1 a)) λr hr=>h.hr k A hk r (by rw[←e2];exact hr)
theorem WI.cls (h:WI W){p:Pc}(hp:p∈W.held){j:Nat}(e:p.cls=j)(hk:W.bT[p.k]?=some A):∃c,A.tb[j]?=some c/\p.size=c.size/\eZ A j (p.addr:Int)/\(p.dZ=true↔ij A j (p.addr:Int)):=by
 rcases h.hd hk hp rfl with⟨h1,_⟩|⟨i,c,h1,h2,h3,h4,h5⟩
 ·omega
 ·obtain rfl:i=j:=by omega
  exact⟨c,h2,h3,h4,h5⟩
theorem WI.run (h:WI W){p:Pc}(hp:p∈W.held)(e:p.cls = -1)(hk:W.bT[p.k]?=some A):p.dZ=false/\∃r∈A.runs,p.addr=r.1*256/\p.size=r.2*256:=by
 rcases h.hd hk hp rfl with⟨_,h2⟩|⟨i,c,h1,_⟩
 ·exact h2
 ·omega
theorem KE {k:Nat}{cls x:Int}{p:Pc}:mE k cls x p=true↔p.k=k/\p.cls=cls/\(p.addr:Int)=x/\p.dZ=false:=by
 simp[mE]
theorem Z4 {k:Nat}{cls:Int}{l:List Int}{p:Pc}:eI k cls l p=true↔p.k=k/\p.cls=cls/\(p.addr:Int)∈l:=by
 simp[eI]
theorem Tv {held:List Pc}{k:Nat}{cls x:Int}{i:Nat}(h:uJ held k cls x=some i):∃p,held[i]?=some p/\mE k cls x p=true:=by
 obtain⟨b,a,_⟩:=oF.1 h;exact⟨held[i],cM b,a⟩
theorem Α {held:List Pc}{k:Nat}{cls x:Int}{p:Pc}(hp:p∈held)(h:mE k cls x p=true):(uJ held k cls x).isSome=true:=by
 unfold uJ;rw[List.findIdx?_isSome,ka];exact⟨p,hp,h⟩
theorem KA {held:List Pc}{k:Nat}{cls:Int}{l:List Int}:jR held k cls l=true↔(∀x∈l,∃p∈held,mE k cls x p=true)/\l.Nodup:=by
 unfold jR;rw[zF,kM,zS];refine and_congr_left λ_=>forall_congr' λx=>imp_congr_right λa=>?_;unfold uJ;rw[List.findIdx?_isSome,ka]
theorem Κ {held:List Pc}(hn:(held.map Pc.key).Nodup){i:Nat}{p:Pc}(hi:held[i]?=some p):held.take i++held.drop (i+1)=held.filter λq=>!(q.key==p.key):=by
 induction held generalizing i with
 | nil=>simp at hi
 | cons q l ih=>
  rw[zJ,zp]at hn;cases i with
  | zero=>
   simp only[uP,Option.some.injEq]at hi;subst hi;have:l.filter (λr=>!(r.key==q.key))=l:=by
    rw[oz];intro r hr;have:r.key≠q.key:=λe=>hn.1 (zC.2 ⟨r,hr,e⟩);simpa using this
   simp[this]
  | succ i=>
   have hi:l[i]?=some p:=by simpa using hi
   have a:q.key≠p.key:=λe=>hn.1 (zC.2 ⟨p,zE hi,e.symm⟩);rw[sy,yw,lL,ih hn.2 hi,rK];have:(!(q.key==p.key))=true:=by simpa using a
   rw[this];rfl
theorem VY {held:List Pc}(hn:(held.map Pc.key).Nodup)(f:Pc->Bool):((held.filter f).map Pc.key).Nodup:=hn.sublist (List.filter_sublist.map _)
theorem EM {k:Nat}{cls:Int}:∀(l:List Int) {held:List Pc},(held.map Pc.key).Nodup->(∀x∈l,∃p∈held,mE k cls x p=true)->l.Nodup->wQ held k cls l=held.filter λp=>!eI k cls l p
 | [],held,_,_,_=>by
  have:∀p,eI k cls [] p=false:=λp=>by simp[eI]
  exact(oz.2 λp _=>by rw[this];rfl).symm
 | x::l,held,hn,ho,hl=>by
  obtain⟨p,A,B⟩:=ho x aA;obtain⟨i,u⟩:=qj.1 (Α A B);obtain⟨q,D,j⟩:=Tv u;have g:=zp.1 hl;have C:mH k cls held x=held.filter λr=>!(r.key==q.key):=by unfold mH;rw[u];exact Κ hn D
  obtain⟨G,H,J,E⟩:=KE.1 j;have s:=EM l (held:=held.filter λr=>!(r.key==q.key)) (VY hn _) (λy m=>by
   obtain⟨r,w,d⟩:=ho y (by simp[m]);refine⟨r,zH.2 ⟨w,?_⟩,d⟩;have:r.key≠q.key:=λe=>by
    have F:r.addr=q.addr:=congrArg (λz:Key=>z.2.2) e;have:=(KE.1 d).2.2.1;have:y=x:=by omega
    subst this;exact g.1 m
   simpa using this) g.2
  unfold wQ at s ⊢;rw[lp,C,s,CX];apply Ac;intro r w;have e:(r.key==q.key)=(r.k==k&&(r.cls==cls&&(r.addr:Int)==x)):=by
   rw[nG];simp only[Pc.key,zX,zF,Prod.mk.injEq];constructor
   ·rintro⟨a,b,c⟩;exact⟨O,O,O⟩
   ·rintro⟨a,b,c⟩;exact⟨O,O,O⟩
  rw[e];unfold eI;rw[List.contains_cons];cases r.k==k<;>cases r.cls==cls<;>cases((r.addr:Int)==x)<;>cases l.contains (r.addr:Int)<;>rfl
theorem QL {held:List Pc}{k:Nat}{cls:Int}{l:List Int}{m:Bool}{p:Pc}:p∈Gs held k cls l m↔∃q∈held,p=if eI k cls l q then{q with dZ:=m}else q:=by
 unfold Gs;rw[zC];constructor
 ·rintro⟨q,hq,rfl⟩;exact⟨q,hq,rfl⟩
 ·rintro⟨q,hq,rfl⟩;exact⟨q,hq,rfl⟩
theorem NT {held:List Pc}{k:Nat}{cls:Int}{l:List Int}{m:Bool}:(Gs held k cls l m).map Pc.key=held.map Pc.key:=by
 unfold Gs;rw[zt];apply kD;intro p _;simp only[Function.comp];split<;>rfl
theorem G9 (hk:W.bT[k]?=some A)(h:WI W):WI (W.put k A W.sp W.held):=h.jx hk (St.refl (h.ga k A hk) (h.ow k A hk)) rfl (λ_ _=>Iff.rfl) rfl
theorem TX (h:GA A){j:Nat}{c:bW}{ss:List cH}(hc:Cl A j c ss){l:Nat}{s:cH}{i:Nat}(hs:ss[l]?=some s)(hi:i<c.n){x:Nat}(h1:at_ c s i<=x)(h2:x<at_ c s i+c.size):U2 A (x:Int)=some ((j:Int),at_ c s i):=by
 have d:=h.cC j c ss hc;have b:=HY d.pos hi h1 h2;have a:=h.used hc (zE hs) b.1 b.2;have e:=h.pg.lt (p:=x/256) (by rw[a.1];omega);have r:=h.pg.n2;have g:=hc.lt;have m:=h.tb;unfold U2;rw[zA O,dC];simp only;rw[zB (show x/256<1024 by omega),a.2,zA O,zA O,DH,hc.1,hc.2];simp only;rw[(LK d).2 ⟨l,s,i,hs,hi,rfl,O,O⟩];rfl
theorem EE (h:GA A){r:Nat×Nat}(hr:r∈A.runs){x:Nat}(h1:r.1*256<=x)(h2:x<(r.1+r.2)*256):U2 A (x:Int)=some (-1,r.1*256):=by
 have a:=h.jA hr (p:=x/256) O O;have b:=h.pg.lt (p:=x/256) (by rw[a.1];omega);have d:=h.pg.n2;unfold U2;rw[zA O,dC];simp only;rw[zB (show x/256<1024 by omega),a.2,zA O,zB rfl,BW h.pn hr O O];rfl
theorem Oe (h:GA A){x:Int}{k:Int}{a:Nat}(hf:U2 A x=some (k,a)):(k = -1/\∃r∈A.runs,a=r.1*256/\((r.1*256:Nat):Int)<=x/\x<(((r.1+r.2)*256:Nat):Int)) ∨
 ∃(j:Nat) (c:bW) (ss:List cH) (l:Nat) (s:cH) (i:Nat),k=j/\Cl A j c ss/\ss[l]?=some s/\i<c.n/\a=at_ c s i/\((at_ c s i:Nat):Int)<=x/\x<((at_ c s i+c.size:Nat):Int):=by
 unfold U2 at hf;split at hf
 ·cases hf
 ·rename_i hx;obtain⟨y,rfl⟩:=zi (show 0<=x by omega);rw[dC]at hf;simp only at hf;by_cases hlt:y/256<1024
  ·rw[zB hlt]at hf;split at hf
   ·cases hf
   ·split at hf
    ·rename_i h0 h41;obtain⟨r,d,b⟩:=qH.1 hf;have g:=tQ d;have p:=ue d;simp at p;cases b;exact .inl ⟨rfl,r,g,rfl,O,O⟩
    ·rename_i h0 h41;split at hf
     ·rename_i c ss h1 h2;obtain⟨C,B,b⟩:=qH.1 hf;cases b;have e:Cl A (A.ow (y/256)-1) c ss:=⟨h1,h2⟩;obtain⟨l,s,i,z,w,rfl,m,u⟩:=(LK (h.cC _ _ _ e)).1 B;exact .inr ⟨_,c,ss,l,s,i,rfl,e,z,w,rfl,m,u⟩
     ·cases hf
  ·rw[zA hlt,zB rfl]at hf;cases hf
theorem eZ.find (h:GA A){j:Nat}{x:Int}(hx:eZ A j x):∃y:Nat,x=y/\U2 A x=some ((j:Int),y):=by
 obtain⟨c,d,a,e⟩:=hx;have b:=h.cC j c d a;obtain⟨l,s,i,m,g,rfl,p⟩:=(Uc b).1 e;exact⟨_,rfl,TX h a m g (zD _) (by have:=b.pos;omega)⟩
theorem Ba (h:GA A){x:Int}:wZ A x=true↔(∃j,eZ A j x)\/∃r∈A.runs,x=((r.1*256:Nat):Int):=by
 constructor
 ·intro hx;unfold wZ at hx;split at hx
  ·rename_i k a d;split at hx
   ·rename_i he;rcases Oe h d with⟨rfl,r,hr,rfl,_⟩|⟨j,c,e,l,s,i,rfl,b,hs,hi,rfl,_⟩
    ·exact .inr ⟨r,hr,he.symm⟩
    ·rw[zA O,dC,b.1,b.2]at hx;exact .inl ⟨j,c,e,b,by simpa[Tk]using hx⟩
   ·cases hx
  ·cases hx
 ·rintro(⟨j,hj⟩|⟨r,hr,rfl⟩)
  ·obtain⟨y,rfl,d⟩:=hj.find h;obtain⟨c,e,b,g⟩:=hj;unfold wZ;rw[d];simp only;rw[zB True.intro,zA O,dC,b.1,b.2];unfold Tk at g;show(eD c e (y:Int)==some true)=true;rw[g];rfl
  ·unfold wZ;have:=h.gS r hr;rw[EE h hr (zD _) O];simp
theorem WI.wI (h:WI W)(hk:W.bT[k]?=some A){cl:Int}{l:List Int}(ho:jR W.held k cl l=true){j:Nat}(e:cl=j):∀x∈l,¬ij A j x:=by
 intro x hx hin;obtain⟨p,m,a⟩:=(KA.1 ho).1 x hx;obtain⟨g,i,r,d⟩:=KE.1 a;obtain⟨c,_,_,_,b⟩:=h.cls m (j:=j) (by rw[i,e]) (by rw[g];exact hk);rw[r]at b;rw[b.2 hin]at d;cases d
theorem WI.grow (h:WI W)(hk:W.bT[k]?=some A)(x:Int):WI (W.put k (cO A W.sp x).1 (cO A W.sp x).2 W.held):=by
 obtain⟨s,d,a,b,_⟩:=PN (h.ga k A hk) (h.ow k A hk) x;exact h.jx hk s d b a
theorem WI.from (h:WI W)(hk:W.bT[k]?=some A)(cl m:Int):WI (W.put k (YQ A cl m) W.sp (W.held++(Yv A cl m).map λy=>⟨k,cl,y,pB W.tb cl,false⟩)):=by
 obtain⟨o,F,Q,L,D,C⟩:=LP (h.ga k A hk) cl m;have tb:(YQ A cl m).tb=A.tb:=o.kp.tb;have i:∀y∈Yv A cl m,∃j:Nat,cl=j/\j<A.tb.length:=λy g=>L (λe=>by rw[e]at g;simp at g);have u:∀y∈Yv A cl m,∀p∈W.held,¬(p.k=k/\p.cls=cl/\p.addr=y):=by
  rintro y g p d ⟨M,G,H⟩;obtain⟨j,rfl,_⟩:=i y g;obtain⟨c,_,_,ht,_⟩:=h.cls d G (by rw[M];exact hk);rw[H]at ht;exact D y g (by rw[dC];exact ht)
 refine h.step hk (o.st (h.ow k A hk)) ?_ (λp d e=>?_) (λp B=>?_) (λj y g=>?_) λr hr=>?_
 ·rw[zu,oD];refine⟨h.hk,?_,λa K b J e=>?_⟩
  ·rw[zt];exact List.Pairwise.map (R:=(· ≠ ·)) _ (λa b z e=>z (by simpa[Pc.key]using e)) Q
  ·subst e;obtain⟨p,d,rfl⟩:=zC.1 K;obtain⟨q,P,e⟩:=zC.1 J;obtain⟨y,g,rfl⟩:=zC.1 P;simp only[Pc.key,Prod.mk.injEq]at e;exact u y g p d ⟨e.1.symm,e.2.1.symm,e.2.2.symm⟩
 ·rcases zR.1 d with d|d
  ·exact(h.hd hk d e).to tb o.runs (λj y w=>(C j y).2 (.inl w)) λj y=>by unfold ij;rw[F]
  ·obtain⟨y,g,rfl⟩:=zC.1 d;obtain⟨j,rfl,w⟩:=i y g;refine .inr ⟨j,A.tb[j],rfl,by rw[tb];exact cM w,?_,(C j y).2 (.inr ⟨(dC j).symm,y,g,rfl⟩),?_⟩
   ·show pB W.tb (j:Int)=_;unfold pB;rw[dC,←h.tb k A hk,cM w];rfl
   ·constructor
    ·intro hx;cases hx
    ·rintro⟨t,ht,hx⟩;rw[F]at ht;obtain⟨c,N,S,E,s⟩:=(h.ga k A hk).cl w;rw[ht]at s;cases s;exact(D y g (by rw[dC];exact(KR E).2 ((h.ga k A hk).lM j c N t E ht _ hx))).elim
 ·rw[zR];constructor
  ·rintro(d|d)
   ·exact d
   ·obtain⟨y,_,rfl⟩:=zC.1 d;exact(B rfl).elim
  ·exact .inl
 ·rcases(C j y).1 g with g|⟨rfl,x,hx,rfl⟩
  ·obtain⟨p,d,q⟩:=h.ht k A hk j y g;exact⟨p,nB _ d,q⟩
  ·obtain⟨j,rfl,_⟩:=i x hx;exact⟨_,pV _ (zC.2 ⟨x,hx,rfl⟩),rfl,by simp,rfl⟩
 ·rw[o.runs]at hr;obtain⟨p,d,q⟩:=h.hr k A hk r hr;exact⟨p,nB _ d,q⟩
theorem WI.yk (h:WI W){cl:Int}{l:List Int}(ho:jR W.held k cl l=true):wQ W.held k cl l=W.held.filter λp=>!eI k cl l p:=
 EM l h.hk (KA.1 ho).1 (KA.1 ho).2
theorem WI.TF (h:WI W)(hk:W.bT[k]?=some A){cl:Int}{l:List Int}(ho:jR W.held k cl l=true):WI (W.put k (Ze A cl l) W.sp (if QW A cl l=0 then wQ W.held k cl l else W.held)):=by
 have ga:=h.ga k A hk;obtain⟨o,M,w,K⟩:=DF ga (k:=cl) (xs:=l) λm x g=>by
  obtain⟨j,c,L,rfl,_⟩:=Bp ga m;rw[dC];exact h.wI hk ho rfl x g
 by_cases m:QW A cl l=0
 ·rw[zB m,h.yk ho];obtain⟨j,c,L,rfl,P,N⟩:=Bp ga m;have w:=w m;rw[dC]at w;refine h.step hk (o.st (h.ow k A hk)) (VY h.hk _) (λp s e=>?_) (λp E=>?_) (λi y H=>?_) λr hr=>?_
  ·have u:=zH.1 s;have G:eI k (j:Int) l p=false:=by simpa using u.2
   rcases h.hd hk u.1 e with⟨h1,h2,r,hr,h3⟩|⟨i,d,h1,h2,h3,h4,h5⟩
   ·exact .inl ⟨h1,h2,r,by rw[o.runs];exact hr,h3⟩
   ·refine .inr ⟨i,d,h1,by rw[o.kp.tb];exact h2,h3,(w i _).2 ⟨h4,λ⟨a,b⟩=>?_⟩,by unfold ij at h5 ⊢;rw[M];exact h5⟩;have:eI k (j:Int) l p=true:=Z4.2 ⟨e,by rw[h1,a],b⟩;rw[G]at this;cases this
  ·rw[zH];have:eI k (j:Int) l p=false:=by
    apply mS.2;intro g;exact E (Z4.1 g).1
   rw[this];simp
  ·obtain⟨C,D⟩:=(w i y).1 H;obtain⟨p,s,F,B,z⟩:=h.ht k A hk i y C;refine⟨p,zH.2 ⟨s,?_⟩,F,B,z⟩;have:eI k (j:Int) l p=false:=by
    apply mS.2;intro g;obtain⟨_,Q,J⟩:=Z4.1 g;exact D ⟨O,by rw[←z];exact J⟩
   rw[this];rfl
  ·rw[o.runs]at hr;obtain⟨p,s,F,B,z⟩:=h.hr k A hk r hr;refine⟨p,zH.2 ⟨s,?_⟩,F,B,z⟩;have:eI k (j:Int) l p=false:=by
    apply mS.2;intro g;have:=(Z4.1 g).2.1;omega
   rw[this];rfl
 ·rw[zA m,K m];exact G9 hk h
theorem WI.move (h:WI W)(hk:W.bT[k]?=some A){B:AR}{j:Nat}{l:List Int}{m:Bool}(o:Ob A B)(e1:∀i y,eZ B i y↔eZ A i y)(e2:∀i y,ij B i y↔if i=j/\y∈l then m=true else ij A i y):WI (W.put k B W.sp (Gs W.held k (j:Int) l m)):=by
 refine h.step hk (o.st (h.ow k A hk)) (by rw[NT];exact h.hk) (λp a e=>?_) (λp b=>?_) (λi y g=>?_) λr hr=>?_
 ·obtain⟨q,z,rfl⟩:=QL.1 a;have d:q.k=k:=by
   split at e<;>exact e
  rcases h.hd hk z d with⟨h1,h2,r,hr,h3⟩|⟨i,c,h1,h2,h3,h4,h5⟩
  ·have:eI k (j:Int) l q=false:=by
    apply mS.2;intro hx;have:=(Z4.1 hx).2.1;omega
   rw[this];exact .inl ⟨h1,h2,r,by rw[o.runs];exact hr,h3⟩
  ·by_cases hx:eI k (j:Int) l q=true
   ·rw[zB hx];obtain⟨_,D,C⟩:=Z4.1 hx;have w:i=j:=by omega
    refine .inr ⟨i,c,h1,by rw[o.kp.tb];exact h2,h3,(e1 _ _).2 h4,?_⟩;show m=true↔ij B i (q.addr:Int);rw[e2,zB ⟨w,C⟩]
   ·rw[zA hx];refine .inr ⟨i,c,h1,by rw[o.kp.tb];exact h2,h3,(e1 _ _).2 h4,?_⟩;rw[e2,zA λg=>hx (Z4.2 ⟨d,by rw[h1,g.1],g.2⟩)];exact h5
 ·rw[QL];constructor
  ·rintro⟨q,z,rfl⟩;have:eI k (j:Int) l q=false:=by
    apply mS.2;intro hx;rw[zB hx]at b;exact b (Z4.1 hx).1
   rw[this];exact z
  ·intro a;refine⟨p,a,?_⟩;have:eI k (j:Int) l p=false:=by
    apply mS.2;intro hx;exact b (Z4.1 hx).1
   rw[this];rfl
 ·obtain⟨p,a,x,s,u⟩:=h.ht k A hk i y ((e1 i y).1 g);refine⟨_,QL.2 ⟨p,a,rfl⟩,?_,?_,?_⟩
  ·split<;>exact x
  ·split<;>exact s
  ·split<;>exact u
 ·rw[o.runs]at hr;obtain⟨p,a,x,s,u⟩:=h.hr k A hk r hr;refine⟨_,QL.2 ⟨p,a,rfl⟩,?_,?_,?_⟩
  ·split<;>exact x
  ·split<;>exact s
  ·split<;>exact u
theorem RY {held:List Pc}{k:Nat}{cls:Int}{m:Bool}:Gs held k cls [] m=held:=by
 unfold Gs;have:∀p,eI k cls [] p=false:=λp=>by simp[eI]
 simp[this]
theorem WI.wE (h:WI W)(hk:W.bT[k]?=some A)(cl:Int):WI (W.put k (ZR A cl) W.sp (Gs W.held k cl (YM A cl) false)):=by
 obtain⟨o,b,w,u,g,a⟩:=I5 (h.ga k A hk) cl;by_cases hv:YM A cl=[]
 ·rw[hv,RY];have s:∀j y,ij (ZR A cl) j y↔ij A j y:=λj y=>by rw[a,hv];simp
  refine h.step hk (o.st (h.ow k A hk)) h.hk (λp m e=>(h.hd hk m e).to o.kp.tb o.runs (λj y=>(b j y).2) s) (λ_ _=>Iff.rfl) (λj y d=>h.ht k A hk j y ((b j y).1 d)) λr hr=>h.hr k A hk r (by rw[←o.runs];exact hr)
 ·obtain⟨j,rfl,_⟩:=g hv;rw[dC]at a;exact h.move hk o b λi y=>by
   rw[a];split
   ·rename_i hx;simp[hx]
   ·rename_i hx;simp[hx]
theorem WI.T0 (h:WI W)(hk:W.bT[k]?=some A){cl:Int}{l:List Int}(ho:jR W.held k cl l=true):WI (W.put k (Q9 A cl l) W.sp (if Vi A cl l then Gs W.held k cl l true else W.held)):=by
 by_cases a:Vi A cl l=true
 ·have b:∃j:Nat,cl=j:=by
   have g:HP A cl l=0:=by
    unfold Vi at a;simp only[zF,zS]at a;exact a.1
   have b:A.ck cl=true:=by
    unfold HP at g;split at g
    ·assumption
    ·cases g
   obtain⟨j,m,_⟩:=Hu.1 b;exact⟨j,m⟩
  obtain⟨j,rfl⟩:=b;obtain⟨o,p,d,_⟩:=N7 (h.ga k A hk) (j:Int) (xs:=l) (KA.1 ho).2 (by rw[dC];exact h.wI hk ho rfl);obtain⟨_,_,d⟩:=d a;rw[dC]at d;rw[a,zB rfl];exact h.move hk o p λi y=>by
   rw[d];split
   ·rename_i hx;simp[hx]
   ·rename_i hx;simp[hx]
 ·have a:Vi A cl l=false:=by simpa using a
  have e:Q9 A cl l=A:=by unfold Q9;rw[a];rfl
  rw[a,e];exact G9 hk h
theorem WI.wz (h:WI W)(hk:W.bT[k]?=some A)(m a:Int):WI (W.put k (cD A W.sp m a).1 (cD A W.sp m a).2 (if Qz A W.sp m a=0 then W.held++[⟨k, -1,Z6 A W.sp m a*256,m.toNat*256,false⟩]else W.held)):=by
 rcases Nh (h.ga k A hk) (h.ow k A hk) m a with⟨e,hE,_⟩|⟨x,A1,sp1,g,hE,hV,e,htk,hor,s,et,ek⟩
 ·rw[zA hE,e];exact G9 hk h
 ·rw[zB hE,hV];have u:(cD A W.sp m a).1.runs=A.runs++[(x,m.toNat)]:=by rw[e]
  have w:∀r∈A.runs,r.1≠x:=by
   have hd:=s.ga.jS;rw[u]at hd;intro r hr D;have z:=(pq.1 hd).2.2 r hr (x,m.toNat) aA;have B:=(h.ga k A hk).gS r hr;have i:=s.ga.gS (x,m.toNat) (by rw[u];simp);simp only at z i;omega
  refine h.step hk s ?_ (λp g e=>?_) (λp C=>?_) (λj y E=>?_) λr hr=>?_
  ·rw[zu,oD];refine⟨h.hk,by simp,λb F d hd D=>?_⟩;subst D;obtain⟨p,g,rfl⟩:=zC.1 F;simp only[zJ,pI,zW,Pc.key,Prod.mk.injEq]at hd;obtain⟨_,r,hr,i,_⟩:=h.run g hd.2.1 (A:=A) (by rw[hd.1];exact hk);exact w r hr O
  ·rcases zR.1 g with g|g
   ·rcases h.hd hk g e with⟨z,B,r,hr,i⟩|⟨j,c,z,B,i,h4,h5⟩
    ·exact .inl ⟨z,B,r,by rw[u];exact nB _ hr,i⟩
    ·exact .inr ⟨j,c,z,by rw[s.tb];exact B,i,(ek _ _).2 h4,by unfold ij at h5 ⊢;rw[et];exact h5⟩
   ·simp only[zW]at g;subst g;exact .inl ⟨rfl,rfl,(x,m.toNat),by rw[u];simp,rfl,rfl⟩
  ·rw[zR];constructor
   ·rintro(g|g)
    ·exact g
    ·simp only[zW]at g;subst g;exact(C rfl).elim
   ·exact .inl
  ·obtain⟨p,g,q⟩:=h.ht k A hk j y ((ek j y).1 E);exact⟨p,nB _ g,q⟩
  ·rw[u]at hr;rcases zR.1 hr with hr|hr
   ·obtain⟨p,g,q⟩:=h.hr k A hk r hr;exact⟨p,nB _ g,q⟩
   ·simp only[zW]at hr;subst hr;exact⟨_,pV _ (zW.2 rfl),rfl,rfl,rfl⟩
theorem WI.nL (h:WI W)(hk:W.bT[k]?=some A){r:Nat×Nat}(hr:r∈A.runs):jR W.held k (-1) [(r.1:Int)*256]=true:=by
 refine KA.2 ⟨λx b=>?_,by simp⟩;simp only[zW]at b;subst b;obtain⟨p,a,e,d,g⟩:=h.hr k A hk r hr;exact⟨p,a,KE.2 ⟨e,d,O,(h.run a d (by rw[e];exact hk)).1⟩⟩
theorem WI.wH (h:WI W)(hk:W.bT[k]?=some A)(x:Int):WI (W.put k (QG A x) W.sp (if KQ A x=0 then wQ W.held k (-1) [x*256]else W.held)):=by
 have ga:=h.ga k A hk;obtain⟨⟨kp,g⟩,L,H,M,N⟩:=Tb ga x;by_cases h0:KQ A x=0
 ·rw[zB h0];obtain⟨r,hr,rfl,G⟩:=N h0;rw[h.yk (h.nL hk hr)];have d:∀p:Pc,eI k (-1) [(r.1:Int)*256] p=true↔p.k=k/\p.cls = -1/\p.addr=r.1*256:=λp=>by
   rw[Z4];simp only[zW];constructor
   ·rintro⟨a,b,c⟩;exact⟨a,b,O⟩
   ·rintro⟨a,b,c⟩;exact⟨a,b,O⟩
  refine h.step hk (St.kp g (h.ow k A hk) kp) (VY h.hk _) (λp s e=>?_) (λp F=>?_) (λi y K=>?_) λq m=>?_
  ·have z:=zH.1 s;have u:¬eI k (-1) [(r.1:Int)*256] p=true:=by simpa using z.2
   rw[d]at u;rcases h.hd hk z.1 e with⟨h1,h2,q,m,w⟩|⟨j,c,h1,h2,w,J,E⟩
   ·refine .inl ⟨h1,h2,q,?_,w⟩;rw[G,zH];refine⟨m,?_⟩;have:q≠r:=by rintro rfl;exact u ⟨e,h1,w.1⟩
    simpa using this
   ·exact .inr ⟨j,c,h1,by rw[kp.tb];exact h2,w,(H _ _).2 J,by unfold ij at E ⊢;rw[L];exact E⟩
  ·rw[zH];have:eI k (-1) [(r.1:Int)*256] p=false:=by
    apply mS.2;intro hx;exact F (Z4.1 hx).1
   rw[this];simp
  ·obtain⟨p,s,D,B,C⟩:=h.ht k A hk i y ((H i y).1 K);refine⟨p,zH.2 ⟨s,?_⟩,D,B,C⟩;have:eI k (-1) [(r.1:Int)*256] p=false:=by
    apply mS.2;intro hx;have:=((d p).1 hx).2.1;omega
   rw[this];rfl
  ·rw[G,zH]at m;obtain⟨p,s,D,B,C⟩:=h.hr k A hk q m.1;refine⟨p,zH.2 ⟨s,?_⟩,D,B,C⟩;have:eI k (-1) [(r.1:Int)*256] p=false:=by
    apply mS.2;intro hx;have w:=((d p).1 hx).2.2;have J:=ga.gS q m.1;have E:=ga.gS r hr;have:q=r:=ga.ia m.1 hr (x:=q.1) O O O O;subst this;simp at m
   rw[this];rfl
 ·rw[zA h0,M h0];exact G9 hk h
theorem WI.tick (h:WI W)(hk:W.bT[k]?=some A):WI (W.put k (UV A) W.sp (vz (W.bT.set k (UV A)) W.held)):=by
 have ga:=h.ga k A hk;have t:=ο ga;have s:=(cQ.1 hk).1;have d:(W.bT.set k (UV A))[k]?=some (UV A):=zM s;have bU:∀p∈W.held,p∈vz (W.bT.set k (UV A)) W.held↔(p.k=k->∀j:Nat,p.cls=j->eZ (UV A) j (p.addr:Int)):=by
  intro p a;unfold vz;rw[zH];simp only[a,td,nV,nj];by_cases hpk:p.k=k
  ·rw[hpk,d];simp only[true_implies];rcases h.hd hk a hpk with⟨h1,h2,r,hr,h3⟩|⟨j,c,h1,h2,h3,h4,h5⟩
   ·exact⟨λ_ j D=>O,λ_=>.inl h2⟩
   ·constructor
    ·intro hx i F;obtain rfl:i=j:=by omega
     rcases hx with hx|hx
     ·refine(t.tk i _).2 ⟨h4,λu=>?_⟩;rw[h5.2 u]at hx;cases hx
     ·rcases(Ba t.ob.ga).1 hx with⟨j',hj'⟩|⟨r,hr,e⟩
      ·obtain⟨y,e,hf⟩:=((t.tk j' _).1 hj').1.find ga;obtain⟨H,L,b⟩:=h4.find ga;rw[hf]at b;have:j'=i:=by
        have:=congrArg Prod.fst (Option.some.inj b);simp only at this;omega
       rw[←this];exact hj'
      ·rw[t.ob.runs]at hr;have:=ga.gS r hr;have K:=EE ga hr (x:=r.1*256) (zD _) O;obtain⟨H,L,b⟩:=h4.find ga;rw[e,K]at b;have:=congrArg Prod.fst (Option.some.inj b);simp only at this;omega
    ·intro hx;by_cases hm:p.dZ=true
     ·exact .inr ((Ba t.ob.ga).2 (.inl ⟨j,hx j h1⟩))
     ·exact .inl (by simpa using hm)
  ·constructor
   ·intro _ hx;exact(hpk hx).elim
   ·intro _;obtain⟨C,G,J⟩:=h.hf p a;rw[zj (Ne.symm hpk),G];rcases J with⟨h1,h2,_⟩|⟨j,c,_,_,_,h4,_⟩
    ·exact .inl h2
    ·exact .inr ((Ba (h.ga _ C G)).2 (.inl ⟨j,h4⟩))
 have sub:∀p,p∈vz (W.bT.set k (UV A)) W.held->p∈W.held:=λp a=>(zH.1 a).1;refine h.step hk (t.ob.st (h.ow k A hk)) (VY h.hk _) (λp a e=>?_) (λp w=>⟨sub p,λa=>(bU p a).2 λe=>(w e).elim⟩) (λj y E=>?_) λr hr=>?_
 ·have z:=(bU p (sub p a)).1 a e;rcases h.hd hk (sub p a) e with⟨h1,h2,r,hr,h3⟩|⟨j,c,h1,h2,h3,h4,h5⟩
  ·exact .inl ⟨h1,h2,r,by rw[t.ob.runs];exact hr,h3⟩
  ·have D:=z j h1;refine .inr ⟨j,c,h1,by rw[t.ob.kp.tb];exact h2,h3,D,?_⟩;rw[h5];exact⟨((t.tk j _).1 D).2,t.sub j _⟩
 ·obtain⟨p,a,B,m,g⟩:=h.ht k A hk j y ((t.tk j y).1 E).1;refine⟨p,(bU p a).2 λ_ i F=>?_,B,m,g⟩;obtain rfl:i=j:=by omega
  rw[g];exact E
 ·rw[t.ob.runs]at hr;obtain⟨p,a,B,m,g⟩:=h.hr k A hk r hr;exact⟨p,(bU p a).2 λ_ i F=>O,B,m,g⟩
theorem WI.og (h:WI W){p:Pc}(hp:p∈W.held)(hk:W.bT[p.k]?=some A){x:Nat}(h1:p.addr<=x)(h2:x<p.addr+p.size):A.f (x/256)=1:=by
 have ga:=h.ga _ A hk;rcases h.hd hk hp rfl with⟨_,_,r,hr,e1,e2⟩|⟨j,c,_,hc,e1,ht,_⟩
 ·exact(ga.jA hr O O).1
 ·obtain⟨b,m,a,d⟩:=ht;have:b=c:=Option.some.inj (a.1.symm.trans hc);subst this;have g:=ga.cC j b m a;obtain⟨l,s,i,w,u,e,_⟩:=(Uc g).1 d;have y:p.addr=at_ b s i:=Int.ofNat.inj e;have:=HY g.pos u (s:=s) (x:=x) O O;exact(ga.used a (zE w) this.1 this.2).1
theorem eZ.lt (h:GA A){j:Nat}{x:Int}(hx:eZ A j x):∃y:Nat,x=y/\y<262144:=by
 obtain⟨c,e,b,g⟩:=hx;have a:=h.cC j c e b;obtain⟨l,s,i,r,m,rfl,w⟩:=(Uc a).1 g;have d:=HY a.pos (s:=s) (x:=at_ c s i) m (zD _) (by have:=a.pos;omega);have u:=(h.used b (zE r) d.1 d.2).1;have:=h.pg.lt (p:=at_ c s i/256) O;have:=h.pg.n2;exact⟨_,rfl,O⟩
theorem GA.De (h:GA A):lU A:=by
 intro t ht xs hxs x hx;obtain⟨k,d⟩:=zN ht;have a:k<A.tb.length:=by rw[←h.lt];exact(cQ.1 d).1
 obtain⟨c,e,g,b,_⟩:=h.cl a;obtain⟨y,rfl,i⟩:=eZ.lt h ((KR b).2 (h.lM k c e t b d x (List.mem_flatten.2 ⟨xs,hxs,hx⟩)));unfold iO;omega
theorem WI.kb (h:WI W){p:Pc}(hp:p∈W.held):p.addr<262144/\p.addr+p.size<=270000:=by
 obtain⟨A,m,g⟩:=h.hf p hp;have ga:=h.ga _ A m;have u:=ga.pg.n2;rcases g with⟨_,_,r,hr,h1,h2⟩|⟨j,c,_,hc,h2,h3,_⟩
 ·have x:=ga.fit hr;have s:=ga.gS r hr;omega
 ·obtain⟨y,e,w⟩:=h3.lt ga;obtain⟨i,d,a,_⟩:=h3;have:i=c:=Option.some.inj (a.1.symm.trans hc);subst this;have b:=(ga.cC j _ d a).ok;unfold bW.ok at b;omega
theorem C6:∀(N:Nat) (l:List Nat),l.Nodup->(∀x∈l,x<N)->l.length<=N
 | 0,l,_,h=>by
  cases l with
  | nil=>simp
  | cons x l=>have:=h x aA;omega
 | N+1,l,hn,h=>by
  have i:=C6 N (l.filter (· != N)) (hn.sublist sq) λx b=>by
   have b:=zH.1 b;have:=h x b.1;have:x≠N:=by simpa using b.2
   omega
  have d:=List.length_eq_countP_add_countP (l:=l) (p:=(· != N));have g:l.countP (λa=>¬(a != N)=true)<=1:=by
   have e:l.countP (λa=>¬(a != N)=true)=l.count N:=by
    unfold List.count;apply BL;intro x _;simp
   rw[e];exact Cg.1 hn N
  rw[xP]at d;omega
theorem WI.apart (h:WI W){p q:Pc}(hp:p∈W.held)(hq:q∈W.held){x:Nat}(p1:p.addr<=x)(p2:x<p.addr+p.size)(q1:q.addr<=x)(q2:x<q.addr+q.size):p=q:=by
 obtain⟨A,y,K⟩:=h.hf p hp;obtain⟨B,m,C⟩:=h.hf q hq;have M:=h.og hp y p1 p2;have N:=h.og hq m q1 q2;have z:p.k=q.k:=h.one (x/256) p.k q.k A B y m O O;rw[←z,y]at m;cases m;have ga:=h.ga _ A y;have H:=ga.tb;have own:∀{r:Pc},Hd A r->r.addr<=x->x<r.addr+r.size->(r.cls = -1/\A.ow (x/256)=41/\∃u∈A.runs,r.addr=u.1*256/\u.1<=x/256/\x/256<u.1+u.2) ∨
  ∃(j:Nat) (c:bW) (b:List cH) (l:Nat) (s:cH) (i:Nat),r.cls=j/\A.ow (x/256)=j+1/\Cl A j c b/\b[l]?=some s/\i<c.n/\r.addr=at_ c s i/\r.size=c.size:=by
  intro r hr r1 r2;rcases hr with⟨c1,_,u,hu,c2,c3⟩|⟨j,c,c1,c2,c3,c4,_⟩
  ·exact .inl ⟨c1,(ga.jA hu O O).2,u,hu,c2,O,O⟩
  ·obtain⟨d,b,a,G⟩:=c4;have:d=c:=Option.some.inj (a.1.symm.trans c2);subst this;have D:=ga.cC j d b a;obtain⟨l,s,i,F,E,e,_⟩:=(Uc D).1 G;have L:r.addr=at_ d s i:=Int.ofNat.inj e;have g:=HY D.pos (s:=s) (x:=x) E O O;exact .inr ⟨j,d,b,l,s,i,c1,(ga.used a (zE F) g.1 g.2).2,a,F,E,L,c3⟩
 refine h.unique hp hq ?_;rcases own K p1 p2 with⟨a1,a2,u,hu,a3,a4,a5⟩|⟨j,c,b,l,s,i,a1,a2,a3,a4,a5,a6,a7⟩
 ·rcases own C q1 q2 with⟨b1,b2,w,hw,b3,b4,b5⟩|⟨j',d,ss',l',s',i',b1,b2,b3,b4,b5,b6,b7⟩
  ·have:=ga.ia hu hw a4 a5 b4 b5;subst this;unfold Pc.key;rw[z,a1,b1,a3,b3]
  ·have:=b3.lt;omega
 ·rcases own C q1 q2 with⟨b1,b2,w,hw,b3,b4,b5⟩|⟨j',d,ss',l',s',i',b1,b2,b3,b4,b5,b6,b7⟩
  ·have:=a3.lt;omega
  ·have J:j=j':=by omega
   subst J;obtain⟨rfl,rfl⟩:=a3.eq b3;have:=Un (ga.cC j c b a3) a4 b4 a5 b5 (x:=x) O O O O;unfold Pc.key;rw[z,a1,b1,a6,b6,this.2.1,this.2.2]
theorem WI.size_pos (h:WI W){p:Pc}(hp:p∈W.held):8<=p.size/\p.size%8=0:=by
 obtain⟨A,i,e⟩:=h.hf p hp;have ga:=h.ga _ A i;rcases e with⟨_,_,r,hr,h1,h2⟩|⟨j,c,_,hc,h2,h3,_⟩
 ·have m:=ga.gS r hr;omega
 ·obtain⟨g,d,a,_⟩:=h3;have:g=c:=Option.some.inj (a.1.symm.trans hc);subst this;have b:=(ga.cC j _ d a).ok;unfold bW.ok at b;omega
theorem WI.len (h:WI W):W.held.length<=262144:=by
 have g:(W.held.map (·.addr)).Nodup:=by
  have w:=kP.1 h.hk;refine kP.2 λi j r s d e=>?_;have a:i<W.held.length:=by simpa using r
  have b:j<W.held.length:=by simpa using s
  refine w i j (by simpa using a) (by simpa using b) d ?_;simp only[sv]at e ⊢;have s1:=(h.size_pos (zc a)).1;have y:=(h.size_pos (zc b)).1;rw[h.apart (zc a) (zc b) (x:=W.held[i].addr) (zD _) O O O]
 have:=C6 262144 _ g λx u=>by
  obtain⟨p,m,rfl⟩:=zC.1 u;exact(h.kb m).1
 simpa using this
end Go.Ar
namespace Go.Ar
open Go.Vc (bV dF cT)
def mT (live:List (Int×Bk))(k x:Int):Nat:=live.countP λe=>e.2.2.2.1==k&&e.1==x
def mn (ls:List Li)(k x:Int):Nat:=if 0<=k then(ls.getD k.toNat iC).os.count x else 0
def mL (bs:List Bt)(k x:Int):Nat:=(bs.map λb=>if(b.1:Int)=k then b.2.count x else 0).sum
def j8 (p:Option Ph)(k x:Int):Nat:=match p with
 | some (.dI s _)=>if k = -1/\x=s*256 then 1 else 0
 | _=>0
def gZ (g:Th)(k x:Int):Nat:=mn g.ls k x+mL g.bP k x+j8 g.ph k x
def qN (H:Hw)(k x:Int):Nat:=mT H.live k x+(H.bQ.map λg=>gZ g k x).sum
def Um (held:List Pc)(k x:Int):Prop:=∃p∈held,p.dZ=false/\p.cls=k/\(p.addr:Int)=x
open Classical in
noncomputable def kV (held:List Pc)(k x:Int):Nat:=if Um held k x then 1 else 0
theorem Lj (held:List Pc)(k x:Int):kV held k x<=1:=by unfold kV;split<;>omega
theorem BG {held:List Pc}{k x:Int}(h:1<=kV held k x):Um held k x:=by
 unfold kV at h;split at h
 ·assumption
 ·omega
theorem KO {held:List Pc}{k x:Int}(h:Um held k x):kV held k x=1:=by unfold kV;rw[zB h]
theorem QU {held:List Pc}{k x:Int}(h:¬Um held k x):kV held k x=0:=by unfold kV;rw[zA h]
theorem Mj {held held':List Pc}(h:∀k x,Um held' k x↔Um held k x)(k x:Int):kV held' k x=kV held k x:=by
 by_cases hu:Um held k x
 ·rw[KO hu,KO ((h k x).2 hu)]
 ·rw[QU hu,QU λa=>hu ((h k x).1 a)]
theorem ET {l:List Int}(hn:l.Nodup)(x:Int):l.count x=if x∈l then 1 else 0:=by
 split
 ·rename_i h;have a:=Cg.1 hn x;have b:=CO.2 h;omega
 ·rename_i h;exact xO.2 h
theorem C4 {held held':List Pc}{cl:Int}{l:List Int}(hn:l.Nodup)(h0:∀x∈l,¬Um held cl x)(h:∀k x,Um held' k x↔Um held k x\/(k=cl/\x∈l))(k x:Int):kV held' k x=kV held k x+(if cl=k then l.count x else 0):=by
 by_cases hk:cl=k
 ·subst hk;rw[zB rfl,ET hn];by_cases hx:x∈l
  ·rw[zB hx,QU (h0 x hx),KO ((h _ _).2 (.inr ⟨rfl,hx⟩))]
  ·rw[zA hx,zq];by_cases hu:Um held cl x
   ·rw[KO hu,KO ((h _ _).2 (.inl hu))]
   ·rw[QU hu,QU λa=>by rcases(h _ _).1 a with a|⟨_,a⟩;exact hu a;exact hx a]
 ·rw[zA hk,zq];by_cases hu:Um held k x
  ·rw[KO hu,KO ((h _ _).2 (.inl hu))]
  ·rw[QU hu,QU λa=>by rcases(h _ _).1 a with a|⟨a,_⟩;exact hu a;exact hk a.symm]
theorem FP {held held':List Pc}{cl:Int}{l:List Int}(hn:l.Nodup)(h0:∀x∈l,Um held cl x)(h:∀k x,Um held' k x↔Um held k x/\¬(k=cl/\x∈l))(k x:Int):kV held k x=kV held' k x+(if cl=k then l.count x else 0):=by
 by_cases hk:cl=k
 ·subst hk;rw[zB rfl,ET hn];by_cases hx:x∈l
  ·rw[zB hx,KO (h0 x hx),QU λa=>((h _ _).1 a).2 ⟨rfl,hx⟩]
  ·rw[zA hx,zq];by_cases hu:Um held cl x
   ·rw[KO hu,KO ((h _ _).2 ⟨hu,λa=>hx a.2⟩)]
   ·rw[QU hu,QU λa=>hu ((h _ _).1 a).1]
 ·rw[zA hk,zq];by_cases hu:Um held k x
  ·rw[KO hu,KO ((h _ _).2 ⟨hu,λa=>hk a.1.symm⟩)]
  ·rw[QU hu,QU λa=>hu ((h _ _).1 a).1]
theorem FU {α:Type}(f:α->Nat):∀{l:List α} {t:Nat} {g:α} (g':α),l[t]?=some g->((l.set t g').map f).sum+f g=(l.map f).sum+f g'
 | [],t,g,g',h=>by simp at h
 | a::l,0,g,g',h=>by
  simp only[uP,Option.some.injEq]at h;subst h;simp only[List.set_cons_zero,zJ,zm];omega
 | a::l,t+1,g,g',h=>by
  have:=FU f (l:=l) (t:=t) g' (by simpa using h);simp only[sG,zJ,zm];omega
theorem C7 {α:Type}(f:α->Nat){l:List α}{g:α}(h:g∈l):f g<=(l.map f).sum:=by
 induction l with
 | nil=>simp at h
 | cons a l ih=>
  simp only[zJ,zm];rcases zQ.1 h with rfl|h
  ·omega
  ·have:=ih h;omega
theorem wW (ls:List Li)(k:Nat)(x:Int):mn ls (k:Int) x=(ls.getD k iC).os.count x:=by
 unfold mn;rw[zB O,dC]
theorem Ie {ls:List Li}{j:Nat}(l:Li)(k:Nat)(h:j<ls.length):(ls.set j l).getD k iC=if k=j then l else ls.getD k iC:=by
 rw[zL,ov];by_cases hkj:k=j
 ·subst hkj;simp[h]
 ·rw[zA hkj,zA (Ne.symm hkj),zL]
theorem Pa {ls:List Li}{j:Nat}(l:Li)(h:j<ls.length)(k x:Int):mn (ls.set j l) k x+(if(j:Int)=k then(ls.getD j iC).os.count x else 0)=mn ls k x+(if(j:Int)=k then l.os.count x else 0):=by
 by_cases hk:0<=k
 ·obtain⟨k,rfl⟩:=zi hk;rw[wW,wW,Ie l k h];by_cases hjk:j=k
  ·subst hjk;simp;omega
  ·have:¬(j:Int)=(k:Int):=by omega
   rw[zA (Ne.symm hjk),zA this,zA this]
 ·unfold mn;rw[zA hk,zA hk,zA O,zA O]
theorem VF (k x:Int):mL [] k x=0:=rfl
theorem Kz (b:Bt)(bs:List Bt)(k x:Int):mL (b::bs) k x=(if(b.1:Int)=k then b.2.count x else 0)+mL bs k x:=by
 unfold mL;rw[zJ,zm]
theorem EL (a b:List Bt)(k x:Int):mL (a++b) k x=mL a k x+mL b k x:=by
 unfold mL;rw[zu,qo]
theorem Le {f:bW->Li->List Int×Li}(hf:∀c l x,(f c l).1.count x+(f c l).2.os.count x=l.os.count x){tb:List bW}{ls:List Li}(hl:ls.length=tb.length)(k x:Int):mL (Kb f tb ls) k x+mn (Q6 f tb ls) k x=mn ls k x:=by
 have key:∀n,n<=tb.length->mL ((List.range n).filterMap λk=>match tb[k]?,ls[k]? with
  | some c,some l=>if(f c l).1=[]then none else some (k,(f c l).1)
  | _,_=>none) k x=if 0<=k/\k<(n:Int)then(match tb[k.toNat]?,ls[k.toNat]? with
  | some c,some l=>(f c l).1.count x
  | _,_=>0)else 0:=by
  intro n
  induction n with
  | zero=>intro _;rw[zA O];rfl
  | succ n i=>
   intro hn;have i:=i O;rw[zz,vq,EL,i];have d:tb[n]?=some tb[n]:=cM O;have a:ls[n]?=some ls[n]:=cM O;have e:mL ([n].filterMap λk=>match tb[k]?,ls[k]? with
    | some c,some l=>if(f c l).1=[]then none else some (k,(f c l).1)
    | _,_=>none) k x=if(n:Int)=k then(f tb[n] ls[n]).1.count x else 0:=by
    rw[AZ,d,a];simp only;by_cases he:(f tb[n] ls[n]).1=[]
    ·rw[zB he,he];simp[VF]
    ·rw[zA he];simp only[List.filterMap_nil,Kz,VF,zq]
   rw[e];by_cases b:0<=k/\k<(n:Int)
   ·rw[zB b,zA (show ¬(n:Int)=k by omega),zq,zB (show 0<=k/\k<((n+1:Nat):Int)from⟨b.1,O⟩)]
   ·rw[zA b,zG];by_cases g:(n:Int)=k
    ·subst g;rw[zB rfl,zB (show(0:Int)<=(n:Int)/\(n:Int)<((n+1:Nat):Int)from⟨O,O⟩),dC,d,a]
    ·rw[zA g,zA O]
 have b:=key tb.length (zD _);have e:Kb f tb ls=(List.range tb.length).filterMap λk=>match tb[k]?,ls[k]? with
  | some c,some l=>if(f c l).1=[]then none else some (k,(f c l).1)
  | _,_=>none:=rfl
 rw[e,b];by_cases hk:0<=k
 ·obtain⟨k,rfl⟩:=zi hk;rw[wW,wW,dC];by_cases hkl:k<tb.length
  ·have d:tb[k]?=some tb[k]:=cM hkl;have a:ls[k]?=some ls[k]:=cM O;rw[zB ⟨O,O⟩,d,a];simp only;have:(Q6 f tb ls).getD k iC=(f tb[k] ls[k]).2:=by
    unfold Q6;rw[zL,DM,d,a];rfl
   rw[this,zL,a];exact hf _ _ _
  ·rw[zA O,zG];have b:(Q6 f tb ls).getD k iC=iC:=by
    unfold Q6;rw[zL,zZ (by rw[List.length_zipWith];omega)];rfl
   have g:ls.getD k iC=iC:=by rw[zL,zZ O];rfl
   rw[b,g]
 ·rw[zA O,zG];unfold mn;rw[zA hk,zA hk]
theorem Ed (m:Nat)(l:Li)(x:Int):(gT m l).1.count x+(gT m l).2.os.count x=l.os.count x:=by
 show(l.os.take m).count x+(l.os.drop m).count x=_;rw[←uI,nu]
theorem PH (c:bW)(l:Li)(x:Int):(KH c l).1.count x+(KH c l).2.os.count x=l.os.count x:=Ed _ l x
theorem Rt (c:bW)(l:Li)(x:Int):(ZX c l).1.count x+(ZX c l).2.os.count x=l.os.count x:=Ed _ l x
theorem Wm8 (c:bW)(y:Int)(l:Li)(hl:l.os.length<=255)(x:Int):(dP c y l).1.count x+(dP c y l).2.os.count x=l.os.count x + [y].count x:=by
 have a:(eL [y] l).os=l.os++[y]:=by
  unfold eL;rw[zA aE]
 unfold dP;rw[zA O];split
 ·rw[a,List.count_nil,zG,uI]
 ·rw[Ed];have:(m9 c (eL [y] l)).os=(eL [y] l).os:=by unfold m9;split<;>rfl
  rw[this,a,uI]
theorem IV {c:bW}{l l':Li}{y:Int}(h:Ka c l=(some y,l'))(x:Int):l.os.count x=l'.os.count x + [y].count x:=by
 unfold Ka at h;split at h
 ·simp at h
 ·rename_i z hz;cases h;have:l.os=l.os.dropLast++[y]:=by
   obtain⟨b,a⟩:=List.getLast?_eq_some_iff.1 hz;rw[a];simp
  conv=>lhs;rw[this]
  rw[uI]
theorem RQ {c:bW}{l l':Li}(h:Ka c l=(none,l')):l.os=[]/\l'.os=[]:=by
 unfold Ka at h;split at h
 ·rename_i hz;have:l.os=[]:=by simpa using hz
  cases h;refine⟨this,?_⟩;split<;>exact this
 ·simp at h
theorem C5 {live:List (Int×Bk)}{x:Int}(b:Bk)(h:bV live x=none)(k y:Int):mT (dF live x b) k y=mT live k y+(if b.2.2.1=k then[x].count y else 0):=by
 have a:live.any (λe=>e.1==x)=false:=by
  rw[m7];intro e he hx;unfold bV at h;rw[rr,oh]at h;exact h e he hx
 unfold dF;rw[a,zA aA];unfold mT;rw[vH]
 congr 1
 rw[qD,List.countP_nil,zG];by_cases h1:b.2.2.1=k
 ·by_cases h2:x=y
  ·subst h2;simp[h1]
  ·simp[h1,h2]
 ·simp[h1]
theorem BF {live:List (Int×Bk)}{x:Int}{b:Bk}(h:bV live x=none){e:Int×Bk}:e∈dF live x b↔e∈live\/e=(x,b):=by
 have a:live.any (λe=>e.1==x)=false:=by
  rw[m7];intro e he hx;unfold bV at h;rw[rr,oh]at h;exact h e he hx
 unfold dF;rw[a,zA aA,zR,zW]
theorem A4 {live:List (Int×Bk)}{x:Int}{e:Int×Bk}:e∈cT live x↔e∈live/\e.1≠x:=by
 unfold cT;rw[zH];simp
theorem Ay:∀{live:List (Int×Bk)} {x:Int} {b:Bk},(live.map (·.1)).Nodup->bV live x=some b->∀k y,mT live k y=mT (cT live x) k y+(if b.2.2.1=k then[x].count y else 0)
 | [],x,b,_,h,_,_=>by simp[bV]at h
 | e::l,x,b,hn,h,k,y=>by
  rw[zJ,zp]at hn;by_cases he:e.1=x
  ·have hb:e.2=b:=by
    unfold bV at h;rw[List.find?_cons_of_pos (by simpa using he)]at h;simpa using h
   have hd:cT (e::l) x=l:=by
    unfold cT;rw[uB (by simpa using he),oz];intro a ha;have:a.1≠x:=λg=>hn.1 (zC.2 ⟨a,ha,g.trans he.symm⟩);simpa using this
   rw[hd];unfold mT;rw[qD,hb,he]
   congr 1
   by_cases h1:b.2.2.1=k
   ·by_cases h2:x=y
    ·subst h2;simp[h1]
    ·simp[h1,h2]
   ·simp[h1]
  ·have i:bV l x=some b:=by
    unfold bV at h ⊢
    rwa [List.find?_cons_of_neg (by simpa using he)]at h
   have d:=Ay hn.2 i k y;have hd:cT (e::l) x=e::cT l x:=by
    unfold cT;rw[tF (by simpa using he)]
   rw[hd];unfold mT at d ⊢;rw[qD,qD,d];omega
theorem Iv {live:List (Int×Bk)}{e:Int×Bk}(h:e∈live):1<=mT live e.2.2.2.1 e.1:=by
 unfold mT;exact List.countP_pos_iff.2 ⟨e,h,by simp⟩
structure gK (s s':Sp):Prop where
 l:s'.st.length=s.st.length
 z:∀p,gf s'.st p=0↔gf s.st p=0
 w:s'.wd=s.wd
def iE (m:Nat)(g:Th):Prop:=match g.ph with
 | none=>g.bP=[]
 | some (.take k)=>g.bP=[]/\k<m
 | some (.cN k w)=>g.bP=[]/\k<m/\(g.li k).os=[]/\1<=w/\w<=32
 | some (.cP k w)=>g.bP=[]/\k<m/\(g.li k).os=[]/\1<=w/\w<=32
 | some (.grow k w)=>g.bP=[]/\k<m/\(g.li k).os=[]/\1<=w/\w<=32
 | some .fill=>∃k x xs,g.bP=[(k,x::xs)]/\k<m/\(g.li k).os=[]/\xs.length<=128
 | some (.eR n)=>g.bP=[]/\1<=n/\n<=64
 | some (.find x)=>g.bP=[]/\iO x
 | some (.put k x)=>g.bP=[(k,[x])]/\k<m
 | some .back=>g.bP≠[]
 | some (.dI _ _)=>g.bP=[]
 | some .drain=>g.bP=[]
structure tP (m:Nat) (g:Th):Prop where
 ll:g.ls.length=m
 lo:∀l∈g.ls,fQ l/\l.os.length<=128
 hb:∀b∈g.bP,b.1<m/\b.2≠[]/\b.2.length<=256
 hl:g.bP.length<=41
 ph:iE m g
def Lv (held:List Pc)(e:Int×Bk):Prop:=e.2.1=e.1/\∃p∈held,p.dZ=false/\p.cls=e.2.2.2.1/\(p.addr:Int)=e.1/\e.2.2.1=(p.size:Int)/\e.2.2.2.2=(p.k:Int)
def Gv (held:List Pc)(s a:Int):Prop:=∃p∈held,p.dZ=false/\p.cls = -1/\(p.addr:Int)=s*256/\a=(p.k:Int)
structure HI (H:Hw) (held:List Pc) (s0:Sp):Prop where
 wi:WI ⟨H.tb,s0,H.bT,held⟩
 la:gK s0 H.sp
 cn:∀k x,qN H k x=kV held k x
 lk:(H.live.map (·.1)).Nodup
 lv:∀e∈H.live,Lv held e
 gv:∀g∈H.bQ,∀s a,g.ph=some (.dI s a)->Gv held s a
 th:∀g∈H.bQ,tP H.tb.length g
 ok:∀c∈H.tb,c.ok
 a1:1<=H.bT.length
 sl:H.sp.st.length=H.cf.aF
variable {H:Hw}{held:List Pc}{s0:Sp}{t k:Nat}{g:Th}{A:AR}
theorem gK.refl (s:Sp):gK s s:=⟨rfl,λ_=>Iff.rfl,rfl⟩
theorem HI.apart (h:HI H held s0){p q:Pc}(hp:p∈held)(hq:q∈held){x:Nat}(p1:p.addr<=x)(p2:x<p.addr+p.size)(q1:q.addr<=x)(q2:x<q.addr+q.size):p=q:=h.wi.apart hp hq p1 p2 q1 q2
theorem WI.same {W:Wd}(h:WI W){p q:Pc}(hp:p∈W.held)(hq:q∈W.held)(e:p.addr=q.addr):p=q:=by
 have a:=(h.size_pos hp).1;have b:=(h.size_pos hq).1;exact h.apart hp hq (x:=p.addr) (zD _) O O O
theorem WI.um {W:Wd}(h:WI W){p:Pc}(hp:p∈W.held){k x:Int}(hu:Um W.held k x)(e:(p.addr:Int)=x):p.dZ=false/\p.cls=k:=by
 obtain⟨q,b,a,d,g⟩:=hu;obtain rfl:=h.same hp b O;exact⟨a,d⟩
theorem HI.nK (h:HI H held s0){e:Int×Bk}(he:e∈H.live):Um held e.2.2.2.1 e.1:=by
 obtain⟨_,p,a,b,g,d,_⟩:=h.lv e he;exact⟨p,a,b,g,d⟩
theorem HI.p7 (h:HI H held s0){g:Th}(hg:g∈H.bQ)(k x:Int):gZ g k x<=kV held k x:=by
 rw[←h.cn];unfold qN;have:=C7 (λg=>gZ g k x) hg;omega
theorem HI.qX (h:HI H held s0){g:Th}(hg:g∈H.bQ){k x:Int}(hc:1<=gZ g k x):Um held k x:=BG (zI hc (h.p7 hg k x))
theorem HI.mD (h:HI H held s0){g:Th}(hg:g∈H.bQ){k x:Int}(hc:1<=gZ g k x):bV H.live x=none:=by
 cases hm:bV H.live x with
 | none=>rfl
 | some b=>
  have e:=KX hm;have m:=h.qX hg hc;obtain⟨q,i,w,u,p⟩:=h.nK e;have r:k=b.2.2.1:=by
   have:=(h.wi.um (W:=⟨H.tb,s0,H.bT,held⟩) i m p).2;exact this.symm.trans u
  have s:=Iv e;have a:=h.cn k x;have j:=Lj held k x;have d:=C7 (λg=>gZ g k x) hg;simp only at s d;unfold qN at a;rw[r]at a j d hc;omega
theorem HI.tx (h:HI H held s0){x:Int}(hn:∀k,¬Um held k x):bV H.live x=none:=by
 cases hm:bV H.live x with
 | none=>rfl
 | some b=>exact(hn _ (h.nK (KX hm))).elim
theorem HI.fO (h:HI H held s0)(hg:H.bQ[t]?=some g){g':Th}{live':List (Int×Bk)}{s0' sp':Sp}{ars':List AR}{held':List Pc}(wi:WI ⟨H.tb,s0',ars',held'⟩)(la:gK s0' sp')(hsl:sp'.st.length=H.sp.st.length)(hl:ars'.length=H.bT.length)
 (sub:∀p∈held',p.dZ=false->p∈held\/∀k,¬Um held k (p.addr:Int))
 (cn:∀k x,mT live' k x+gZ g' k x+kV held k x=mT H.live k x+gZ g k x+kV held' k x)
 (lk:(live'.map (·.1)).Nodup) (lv:∀e∈live',e∈H.live\/Lv held' e) (gv:∀s a,g'.ph=some (.dI s a)->Gv held' s a) (th:tP H.tb.length g') :
 HI {H with live:=live',sp:=sp',bT:=ars',bQ:=H.bQ.set t g'} held' s0':=by
 have u:∀k x,qN {H with live:=live',sp:=sp',bT:=ars',bQ:=H.bQ.set t g'} k x=kV held' k x:=λk x=>by
  have i:=h.cn k x;have r:=cn k x;have d:=FU (λg=>gZ g k x) g' hg;unfold qN at i ⊢;simp only at d ⊢;omega
 have G:=(cQ.1 hg).1;have bU:∀p∈held,p.dZ=false->Um held' p.cls (p.addr:Int)->p∈held':=λp m D ⟨q,B,i,r,d⟩=>by
  rcases sub q B i with hs|hs
  ·have:q=p:=h.wi.same (W:=⟨H.tb,s0,H.bT,held⟩) hs m O;rw[←this];exact B
  ·exact(hs p.cls ⟨p,m,D,rfl,d.symm⟩).elim
 refine⟨wi,la,u,lk,λe A=>?_,λw b s a m=>?_,λw b=>?_,h.ok,by simp only;rw[hl];exact h.a1,hsl.trans h.sl⟩
 ·rcases lv e A with he'|he'
  ·obtain⟨C,p,m,i,r,d,z⟩:=h.lv e he';refine⟨C,p,bU p m i ?_,i,r,d,z⟩;rw[r,d];apply BG;rw[←u];have:1<=mT live' e.2.2.2.1 e.1:=Iv A;unfold qN;simp only;omega
  ·exact he'
 ·rcases List.mem_iff_getElem?.1 b with⟨j,hj⟩;rcases Vb hj with⟨rfl,rfl,_⟩|⟨hne,hj'⟩
  ·exact gv s a m
  ·obtain⟨p,y,i,r,d,z⟩:=h.gv w (zE hj') s a m;refine⟨p,bU p y i ?_,i,r,d,z⟩;rw[r,d];apply BG;rw[←u];have E:=C7 (λg=>gZ g (-1) (s*256)) b;have F:1<=gZ w (-1) (s*256):=by unfold gZ;rw[m];simp[j8]
   unfold qN;simp only at E ⊢;omega
 ·rcases List.mem_iff_getElem?.1 b with⟨j,hj⟩;rcases Vb hj with⟨rfl,rfl,_⟩|⟨hne,hj'⟩
  ·exact th
  ·exact h.th w (zE hj')
theorem HI.kR (h:HI H held s0)(hg:H.bQ[t]?=some g){g':Th}{live':List (Int×Bk)}(cn:∀k x,mT live' k x+gZ g' k x=mT H.live k x+gZ g k x)(lk:(live'.map (·.1)).Nodup)(lv:∀e∈live',e∈H.live\/Lv held e)
 (gv:∀s a,g'.ph=some (.dI s a)->Gv held s a) (th:tP H.tb.length g'):HI {H with live:=live',bQ:=H.bQ.set t g'} held s0:=
 h.fO hg h.wi h.la rfl rfl (λp b _=>.inl b) (λk x=>by have:=cn k x;omega) lk lv gv th
theorem HI.tY (h:HI H held s0){s0' sp':Sp}{ars':List AR}{held':List Pc}(wi:WI ⟨H.tb,s0',ars',held'⟩)(la:gK s0' sp')(hsl:sp'.st.length=H.sp.st.length)(hl:ars'.length=H.bT.length)(um:∀k x,Um held' k x↔Um held k x)(sub:∀p∈held',p.dZ=false->p∈held) :
 HI {H with sp:=sp',bT:=ars'} held' s0':=by
 have bU:∀p∈held,p.dZ=false->p∈held':=λp d w=>by
  obtain⟨q,m,b,i,z⟩:=(um p.cls (p.addr:Int)).2 ⟨p,d,w,rfl,rfl⟩;have:q=p:=h.wi.same (W:=⟨H.tb,s0,H.bT,held⟩) (sub q m b) d O;rw[←this];exact m
 refine⟨wi,la,λk x=>(h.cn k x).trans (Mj um k x).symm,h.lk,λe y=>?_,λg r s a d=>?_,h.th,h.ok,by simp only;rw[hl];exact h.a1,hsl.trans h.sl⟩
 ·obtain⟨u,p,d,b,i⟩:=h.lv e y;exact⟨u,p,bU p d b,b,i⟩
 ·obtain⟨p,j,b,i⟩:=h.gv g r s a d;exact⟨p,bU p j b,b,i⟩
theorem No {A:AR}{x:Int}:UP A x=true↔0<=x/\A.f x.toNat≠0:=by
 unfold UP AR.f gf;simp
theorem WI.owner {W:Wd}(h:WI W){p:Pc}(hp:p∈W.held){x:Nat}(h1:p.addr<=x)(h2:x<p.addr+p.size):YK W.bT (x:Int)=(p.k:Int):=by
 obtain⟨A,b,_⟩:=h.hf p hp;have g:=h.og hp b h1 h2;have a:=(cQ.1 b).1;have own:∀(j:Nat) (B:AR),W.bT[j]?=some B->(UP B ((x:Int)/256)=true↔j=p.k):=λj B d=>by
  have e:((x:Int)/256).toNat=x/256:=by omega
  rw[No,e];constructor
  ·rintro⟨_,hf⟩;exact h.one (x/256) j p.k B A d b hf O
  ·rintro rfl;rw[b]at d;cases d;exact⟨O,O⟩
 unfold YK;rw[zA O];have hf:W.bT.findIdx? (λA=>UP A ((x:Int)/256))=some p.k:=by
  rw[oF];refine⟨a,(own p.k _ (cM a)).2 rfl,λj i=>?_⟩;have:=own j W.bT[j] (cM O);intro hx;have:=this.1 hx;omega
 rw[hf]
theorem HI.owner (h:HI H held s0){p:Pc}(hp:p∈held){x:Nat}(h1:p.addr<=x)(h2:x<p.addr+p.size):YK H.bT (x:Int)=(p.k:Int):=h.wi.owner (W:=⟨H.tb,s0,H.bT,held⟩) hp h1 h2
theorem HI.pM (h:HI H held s0){p:Pc}(hp:p∈held):YK H.bT (p.addr:Int)=(p.k:Int):=h.owner hp (zD _) (by have:=(h.wi.size_pos (W:=⟨H.tb,s0,H.bT,held⟩) hp).1;omega)
theorem HI.i63 (h:HI H held s0){k x:Int}(hu:Um held k x):iO x/\0<=x/\0<=YK H.bT x:=by
 obtain⟨p,a,_,_,rfl⟩:=hu;have:=(h.wi.kb (W:=⟨H.tb,s0,H.bT,held⟩) a).1;refine⟨by unfold iO;omega,O,?_⟩;rw[h.pM a];omega
end Go.Ar