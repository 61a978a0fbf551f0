/- Texts joined. -/
import Derived.Test.YtkabjcanamcbeaaGreatDoorY5
set_option linter.unusedVariables false
set_option linter.unusedSimpArgs false
namespace Go.Ar
open Go Go.Vc Go.Proofs
variable {σ u u':Hp}{F B P Q:Rg}{L:dS}{H H':Hw}{t k n pb:Nat}{A:AR}{Y:Lay}{x:eB}{g:Th}{c:bW}{l:Li}{cs:List Value}
set_option maxRecDepth 8000 in
theorem P2 (hso:H8)(h:HH σ F L H)(ht:t<H.bQ.length)(p:Ph)(hp:uJ H t p)(hlen:∀g,H.bQ[t]?=some g->g.bP.length<=900){R:Value->Int->Int->Hp->Prop}(hR:Tf σ F L (Wt H t p) R) :
 Zy.c (aW L.p) (t:Int) (nu (some p)) σ R:=by
 refine Zy.o ?_;unfold Zy.v;have hlen':∀g,H.bQ[t]?=some g->g.bP.length<=1000:=λg hg=>by have:=hlen g hg;omega
 refine nw (cs:=[.int .i64 0,.int .i64 0]) λv hz e i=>?_;have K1:=(HK.start h).box e hz;obtain⟨x,g,E,hg⟩:=h.th ht;have hlen:=hlen g hg;have htg:=GP hg;have hol:=ku h.s t;obtain⟨A,hA⟩:∃A,H.bT[H.own t]?=some A:=⟨_,cM hol⟩;have hAe:=Dx hA;obtain⟨Y,hY,_,_⟩:=h.ar hA;refine aG (K1.h.hd.rS rfl ?_);refine AV K1.h.kr K1.h.s.ts E hg (d:=0) O rfl λtb0 to0 ha _=>?_;have hS1:nE (λu=>u=v) L H.tb:=λm hm=>by cases hm;exact⟨_,L.ts,H,K1.h,rfl⟩
 refine⟨λu=>u=v,rfl,aG (hS1.fX (Fy K1.h t ⟨rfl,K1.h.rA hY ⟨rfl,?_⟩⟩))⟩;refine qy (λw=>∃P ts',HK F σ (λb=>False\/b=σ.size) w P {L with ts:=ts'} (Wt H t p).1/\bX w σ.size [.int .i64 0,.int .i64 0]/\(Wt H t p).2=(none,0,0)) (λw ⟨P,ts',K,hbw,X⟩=>?_) λJ hJ=>?_
 ·refine gS (n:=σ.size) K (.inr rfl) hbw λZ K'=>?_;have:=hR Z ts' K'.e (K'.fin h);rw[X]at this;exact this
 cases p with
 | take k=>
  obtain⟨hk,hy9⟩:k<H.tb.length/\∀y l,Kb (H.cls k) ((H.kz t).li k)=(some y,l)->iL y:=hp;obtain⟨c,hc⟩:∃c,H.tb[k]?=some c:=⟨_,cM hk⟩;have hll:=h.Ba E hg;obtain⟨l,hl⟩:∃l,g.ls[k]?=some l:=⟨_,cM (by rw[hll];exact hk)⟩;have hce:=Ud hc;have hle:=yS hl;rw[hce,htg,hle]at hy9;refine Da (nw (cs:=[.int .i64 0]) λv5 M W N=>?_);have K5:=K1.box W M;refine N.s0 aA λv6 o6 hb6=>?_;have K6:=K5.own o6 (.inr rfl);have C:=Ws o6 (W.bZ i id) O;refine⟨λu=>u=v6,rfl,aG ⟨some ⟨x.c.p,0,none⟩,λu U=>by cases U;exact K6.h.tc E hg ha O rfl,⟨(k:Int),λu U=>by cases U;rw[add_lit,hb6.cell];rfl,?_⟩⟩⟩;refine Sc K6.h E hg hc hl λv7 ts7 V h7=>?_;have K7:=K6.to V h7 λb _ i=>i;have hb7:=K6.cW V hb6 (.inr rfl);have B:=K6.cW V C (.inl (.inr rfl));cases htk:Kb c l with
  | mk o l'=>
  rw[htk]at h7 K7;cases o with
  | some y=>
   have X:Wt H t (.take k)=(VI (H.dY t g (g.ls.set k l')) y (c.size:Int) (k:Int),none,y,0):=by
    simp only[Wt,hce,htg,hle,htk,ZL hg];rfl
   rw[X]at hR;have hS2:nE (λu=>(∃P ts H',HH u P {L with ts:=ts} H'/\H'.tb=H.tb)/\bX u v.size [.int .i64 (k:Int)]) L H.tb:=λm hm=>hm.1;refine cJ rfl ⟨λu=>(∃P ts H',HH u P {L with ts:=ts} H'/\H'.tb=H.tb)/\bX u v.size [.int .i64 (k:Int)],⟨⟨_,_,_,K7.h,rfl⟩,hb7⟩,aG (hS2.dD ⟨(k:Int),λu U=>by rw[add_lit,U.2.cell];rfl,?_⟩)⟩;refine nE.rC (L:={L with ts:=ts7}) (H:=H.dY t g (g.ls.set k l')) hS2 K7.h hc ⟨(k:Int),λu U=>by rw[add_lit,U.2.cell];rfl,?_⟩;refine BD K7.h y (c.size:Int) (k:Int) (hy9 y l' htk) λv8 e8 h8=>?_;have K8:=K7.to e8 h8 λb _ i=>.inl i;refine⟨⟨⟨_,_,_,h8,rfl⟩,K7.cW e8 hb7 (.inr rfl)⟩,?_⟩;exact gS (n:=σ.size) K8 (.inl (.inr rfl)) (K7.cW e8 B (.inl (.inr rfl))) λZ K'=>hR Z ts7 K'.e (K'.fin h)
  | none=>
   have X:Wt H t (.take k)=(H.dY t g (g.ls.set k l'),some (.cN k (pv c l')),0,0):=by
    simp only[Wt,hce,htg,hle,htk,ZL hg];rfl
   rw[X]at hR;have htlt:=(cQ.1 hg).1;have hklt:=(cQ.1 hl).1;have hg7:(H.dY t g (g.ls.set k l')).bQ[t]?=some {g with ls:=g.ls.set k l'}:=by simp[Hw.dY,htlt]
   obtain⟨x7,g7,hx7,_⟩:=K7.h.th (t:=t) (by simp[Hw.dY,htlt]);have hl7:({g with ls:=g.ls.set k l'}:Th).ls[k]?=some l':=by simp[hklt]
   refine cG rfl ⟨λu=>u=v7,rfl,aG ⟨some ⟨x7.c.p,0,none⟩,λu U=>by cases U;exact K7.h.tc hx7 hg7 ha O rfl,⟨(k:Int),λu U=>by cases U;rw[add_lit,hb7.cell];rfl,?_⟩⟩⟩;refine Sd K7.h hx7 hg7 hc hl7 λv8 ts8 e8 h8=>?_;have K8:=K7.to e8 h8 λb _ i=>i;refine(K7.cW e8 hb7 (.inr rfl)).rI rfl ?_;exact gS (n:=σ.size) K8 (.inl (.inr rfl)) (K7.cW e8 B (.inl (.inr rfl))) λZ K'=>hR Z ts8 K'.e (K'.fin h)
 | cN k w=>
  obtain⟨hk,hne0⟩:k<H.tb.length/\(Z6 (H.eM t) (k:Int)=0->YL (H.eM t) (k:Int)≠[]):=hp;rw[hAe]at hne0;obtain⟨c,hc⟩:∃c,H.tb[k]?=some c:=⟨_,cM hk⟩;have hce:=Ud hc;refine lA aB (wY (nw (cs:=[.int .i64 0,.int .i64 0]) λv5 M W N=>?_));have K5:=K1.box W M;refine N.s1 aA λv5b o5 b5=>b5.s1 aA λv6 o6 b6=>?_;have K6:=(K5.own o5 (.inr rfl)).own o6 (.inr rfl);have S:σ.size≠v.size:=by omega
  have C:=Ws o6 (Ws o5 (W.bZ i id) S) S;refine qy (λu=>(∃P',HK F σ (λb=>(False\/b=σ.size)\/b=v.size) u P' L H)/\bX u σ.size [.int .i64 0,.int .i64 0]/\bX u v.size [.int .i64 (k:Int),.int .i64 (w:Int)]/\Wt H t (.cN k w)=(H,some (.cO k w),0,0)) (λu ⟨⟨P',K⟩,hbw,hbx,X⟩=>?_) λJ1 hJ1=>?_
  ·rw[X]at hR;exact hbx.rI rfl (hbx.rI rfl (gS (n:=σ.size) K (.inl (.inr rfl)) hbw λZ K'=>hR Z L.ts K'.e (K'.fin h)))
  ·refine b6.rI rfl (aG (K6.h.hd.rS rfl (b6.rI rfl (uE K6.h.jI hc (d:=2) O ?_))));simp only[zA (show ¬(2=0) by omega),zA (show ¬(2=1) by omega)];refine cU (λheq=>b6.rI rfl ?_) λhne'=>hJ1 v6 ⟨⟨_,K6⟩,C,b6,?_⟩
   ·have heq':w=c.batch:=by simp only[zZ]at heq;omega
    refine GT K6.h hA hY (k:Int) λs v7 Q V hQ hs7 hcap h7=>?_;have K7:=K6.to V h7 λb _ i=>i.1;have b7:=K6.cW V b6 (.inr rfl);have B:=K6.cW V C (.inl (.inr rfl));refine cU (λh0=>b7.rI rfl ?_) λhn0=>?_
    ·have h0':Z6 A (k:Int)=0:=by simpa using h0
     have X:Wt H t (.cN k w)=(QP (H.cB (H.own t) (ZR A (k:Int))) t k (YL A (k:Int)),some .fill,0,0):=by
      simp only[Wt,hce,hAe,heq',h0',zS]
     rw[X]at hR;refine y6 K7.h (t:=t) ht k hs7 hcap (hne0 h0') (λb _ z E=>E.1.2 z) (K6.h.o.sub hQ) (λz=>K6.h.o2 (hQ _ z)) hlen' λv8 ts8 e8 h8=>?_;have K8:=K7.tQ e8 h8 λb i z=>by
      rcases z with z|z
      ·exact z.imp id .inl
      ·exact .inr (.inr ⟨(K6.p b (hQ b z)).1,(K6.p b (hQ b z)).2.1⟩)
     exact gS (n:=σ.size) K8 (.inl (.inr rfl)) (K7.cW e8 B (.inl (.inr rfl))) λZ K'=>hR Z ts8 K'.e (K'.fin h)
    ·have hn0':Z6 A (k:Int)≠0:=by simpa using hn0
     have hsame:ZR A (k:Int)=A:=by unfold ZR;rw[zA hn0']
     rw[hsame,FD hA]at K7;refine hJ1 v7 ⟨⟨_,K7⟩,B,b7,?_⟩;simp only[Wt,hce,hAe,heq',zA hn0',zS]
   ·have hne2:w≠c.batch:=λe=>by rw[e]at hne';simp at hne'
    simp only[Wt,hce,zA hne2]
 | cO k w=>
  refine lA aB (jE aB (wY (nw (cs:=[.int .i64 0,.int .i64 0]) λv5 M W N=>?_)));have K5:=K1.box W M;refine N.s1 aA λv5b o5 b5=>b5.s1 aA λv6 o6 b6=>?_;have K6:=(K5.own o5 (.inr rfl)).own o6 (.inr rfl);have S:σ.size≠v.size:=by omega
  have C:=Ws o6 (Ws o5 (W.bZ i id) S) S;refine b6.rI rfl (b6.rI rfl (NM K6.h hA hY (k:Int) (w:Int) λs v7 Q V hQ hs7 h7=>?_));have K7:=K6.to V h7 λb _ i=>i.1;have b7:=K6.cW V b6 (.inr rfl);have B:=K6.cW V C (.inl (.inr rfl));have hsl:s.len=(Yt A (k:Int) (w:Int)).length:=by have:=hs7.1;simp[ints]at this;omega
  by_cases hemp:Yt A (k:Int) (w:Int)=[]
  ·have X:Wt H t (.cO k w)=(H.cB (H.own t) (YO A (k:Int) (w:Int)),some (.grow k w),0,0):=by
    simp only[Wt,hAe,zB hemp]
   rw[X]at hR;refine fG (by rw[hsl,hemp];simp) (b7.rI rfl (b7.rI rfl ?_));exact gS (n:=σ.size) K7 (.inl (.inr rfl)) B λZ K'=>hR Z L.ts K'.e (K'.fin h)
  ·have X:Wt H t (.cO k w)=(QP (H.cB (H.own t) (YO A (k:Int) (w:Int))) t k ((Yt A (k:Int) (w:Int)).map λ(x:Nat)=>(x:Int)),some .fill,0,0):=by
    simp only[Wt,hAe,zA hemp]
   rw[X]at hR;have hpos:=qo.2 hemp;refine lU (by rw[hsl];omega) (b7.rI rfl ?_);have hs7':=bR.gp hs7;rw[RQ]at hs7';have hz6:=K6.e.1;refine y6 K7.h (t:=t) ht k hs7' (bR.qQ hs7) (by simpa using hemp) (λb _ z E=>E.1.2 z) (K6.o.1.sub λb i=>by have:=hQ b i;omega) (λz=>K6.o.2 (by have:=hQ _ z;omega)) hlen' λv8 ts8 e8 h8=>?_;have K8:=K7.tQ e8 h8 λb i z=>by
    rcases z with z|z
    ·exact z.imp id .inl
    ·have:=hQ b z;exact .inr (.inr ⟨.inr O,λhB=>by have:=(K6.b b hB).2;omega⟩)
   exact gS (n:=σ.size) K8 (.inl (.inr rfl)) (K7.cW e8 B (.inl (.inr rfl))) λZ K'=>hR Z ts8 K'.e (K'.fin h)
 | grow k w=>
  refine lA aB (jE aB (jE aB (wY (nw (cs:=[.int .i64 0,.int .i64 0]) λv5 M W N=>?_))));have K5:=K1.box W M;refine N.s1 aA λv5b o5 b5=>b5.s1 aA λv6 o6 b6=>?_;have K6:=(K5.own o5 (.inr rfl)).own o6 (.inr rfl);have S:σ.size≠v.size:=by omega
  have C:=Ws o6 (Ws o5 (W.bZ i id) S) S;refine b6.rI rfl (υ K6.h hA hY (k:Int) λv7 V h7=>?_);have K7:=K6.to V h7 λb _ i=>i;have b7:=K6.cW V b6 (.inr rfl);have B:=K6.cW V C (.inl (.inr rfl));refine cU (λhn0=>?_) λh0=>?_
  ·have hn0':KQ A H.sp (k:Int)≠0:=by simpa using hn0
   have X:Wt H t (.grow k w)=({H.cB (H.own t) (cP A H.sp (k:Int)).1 with sp:=(cP A H.sp (k:Int)).2},none,0,KQ A H.sp (k:Int)):=by
    simp only[Wt,hAe,zA hn0']
   rw[X]at hR;exact gS (n:=σ.size) K7 (.inl (.inr rfl)) B λZ K'=>hR Z L.ts K'.e (K'.fin h)
  ·have h0':KQ A H.sp (k:Int)=0:=by simpa using h0
   have X:Wt H t (.grow k w)=({H.cB (H.own t) (cP A H.sp (k:Int)).1 with sp:=(cP A H.sp (k:Int)).2},some (.cO k w),0,0):=by
    simp only[Wt,hAe,zB h0']
   rw[X]at hR;refine b7.rI rfl (b7.rI rfl ?_);exact gS (n:=σ.size) K7 (.inl (.inr rfl)) B λZ K'=>hR Z L.ts K'.e (K'.fin h)
 | fill=>
  obtain⟨k,y,ys,r,hh,hk,hy9,hfit⟩:∃k x xs r,(H.kz t).bP=(k,x::xs)::r/\k<H.tb.length/\iL x/\((H.kz t).li k).os.length+xs.length<=256:=hp;rw[htg]at hh hfit;obtain⟨c,hc⟩:∃c,H.tb[k]?=some c:=⟨_,cM hk⟩;have hll:=h.Ba E hg;obtain⟨l,hl⟩:∃l,g.ls[k]?=some l:=⟨_,cM (by rw[hll];exact hk)⟩;have hce:=Ud hc;have hle:=yS hl;rw[hle]at hfit;refine lA aB (jE aB (jE aB (jE aB (A6 (nw (cs:=[]) λv5 M W N=>?_)))));have K5:=K1.box W M;have hbv5:=W.bZ i id;obtain⟨G,D,hG,hD,hd,aa,hr,ab⟩:=K5.h.xD (λb i=>(K5.p b i).2.2) E hg (λ_=>False) (λb _ _ z=>z) (K5.o.1.sub λb i=>i.elim) (λz=>z);rw[hh]at aa;obtain⟨so,ps,Dn,hrow,hso1,hcap,hBr,hDn,hj,S,hxne⟩:=aa.m4;have hz5':=K5.e.1;have hsol:so.len=ys.length+1:=by have:=hso1.1;simp[Wv]at this;omega
  refine aG (oh (K5.h.tc E hg ha (d:=1) O rfl) (IV (dM.gp hrow) λa ha0 ha1=>ox ha0 (oh ha1 ?_)));refine nw (cs:=[.int .i64 0,.slice none 0 0]) λv43 hz43 e43 hb43=>hb43.s1 aA λv44 o44 b44=>b44.s1 aA λv45 o45 b45=>?_;have e45:bO v5 v45:=(e43.only o44 (.inr (zD _))).only o45 (.inr (zD _));have hz45:v5.size<v45.size:=b45.lt;refine aG (ab v45 ⟨none,0,0⟩ [] (λ_=>False) (bO.to e45) (λb i=>i.elim) (ik.nil _ _ _) ha λv46 e46 h46=>?_);have hz46:=e46.1;have e546:Ext _ v5 v46:=(bO.to e45).trans (e46.sub hD);have K46:=K5.to e546 h46 λb _ z=>by
   rcases z with z|z
   ·exact .inl z.1
   ·exact z.1.elim
  have hbv46:=K5.cW e546 hbv5 (.inl (.inr rfl));have b46:bX v46 v5.size _:=e46.bZ b45 λE=>by have:=(K5.p _ (hD _ E)).2.2;omega
  have K46b:=K46.wF (B':=λb=>b=v5.size) λb i=>⟨O,O,λE=>by
   subst i;rcases E.1 with h1|h1
   ·have:=(K5.p _ h1.1).2.2;omega
   ·exact h1.1⟩
  have hso46:=aH.bU (aH.bK (aH.cut hso1) e45) e46 λb _ i E=>hd b (hDn b i.1.1) E;have hXn:∀b,(Dn b/\lu so b)/\b<v5.size->¬Cut (λb=>(Cut F σ b/\¬G b)\/False/\b<v45.size) v46 b:=λb i E=>by
   rcases E.1 with h1|h1
   ·exact h1.2 (hDn b i.1.1)
   ·exact h1.1
  have hg46:({H with bQ:=H.bQ.set t {g with bP:=[]}}:Hw).bQ[t]?=some {g with bP:=[]}:=by simp[ht]
  have hx46:(L.ts.set t {x with h:=⟨none,0,0⟩})[t]?=some {x with h:=⟨none,0,0⟩}:=zM (cQ.1 E).1;refine aG (uD (K46b.h.tc hx46 hg46 ha (d:=0) O rfl) (b46.rI rfl (b46.rS (a:=so.a) (n:=so.len) (c:=so.cap) rfl (jc (lo:=1) (by show 1<=so.len;omega) hcap (zD _) ?_))));have hsub:=cR.sub hso46 (lo:=1) (hi:=so.len) (mx:=so.cap) O (zD _) hcap;have hsx:((Wv (y::ys)).drop (1*1)).take ((so.len-1)*1)=Wv ys:=by
   rw[mV (by simp[Wv];omega)];rfl
  rw[hsx]at hsub;have hl46:({g with bP:=[]}:Th).ls[k]?=some l:=hl;refine Wkb K46b.h hx46 hg46 hc hl46 hsub hXn hfit λv47 ts47 e47 h47=>?_;have K47:=K46b.to e47 h47 λb _ i=>i;have hso47:=aH.bU hso46 e47 λb _ i E=>hXn b i E;have b47:=K46b.cW e47 b46 (.inr rfl);have hbv47:=K46b.cW e47 hbv46 (.inl (.inl (.inr rfl)));have X:Wt H t .fill=(VI {H with bQ:=H.bQ.set t {g with ls:=g.ls.set k (eL ys.reverse l),bP:=[]}} y (c.size:Int) (k:Int),none,y,0):=by
   simp only[Wt,htg,hh,ZL hg,hle,hce]
  rw[X]at hR;obtain⟨b0,o0,ha0',hc0⟩:=hso47.cell (j:=0) (v:=.int .i64 y) rfl;have hS4:nE (λu=>((∃P ts H',HH u P {L with ts:=ts} H'/\H'.tb=H.tb)/\bX u v5.size [.int .i64 (k:Int),.slice so.a so.len so.cap])/\cell u ⟨b0,o0+0,none⟩=some (.int .i64 y)) L H.tb:=λm hm=>hm.1.1;refine⟨λu=>((∃P ts H',HH u P {L with ts:=ts} H'/\H'.tb=H.tb)/\bX u v5.size [.int .i64 (k:Int),.slice so.a so.len so.cap])/\cell u ⟨b0,o0+0,none⟩=some (.int .i64 y),⟨⟨⟨_,_,_,K47.h,rfl⟩,b47⟩,hc0⟩,⟨so,λu U=>by rw[add_lit,U.1.2.cell];rfl,?_⟩⟩;refine Nv ha0' O ⟨y,λu U=>U.2,aG (hS4.dD ⟨(k:Int),λu U=>by rw[add_lit,U.1.2.cell];rfl,?_⟩)⟩;refine nE.rC (L:={L with ts:=ts47}) (H:=Hw.dY {H with bQ:=H.bQ.set t {g with bP:=[]}} t {g with bP:=[]} (g.ls.set k (eL ys.reverse l))) hS4 K47.h hc ⟨(k:Int),λu U=>by rw[add_lit,U.1.2.cell];rfl,?_⟩;refine BD K47.h y (c.size:Int) (k:Int) hy9 λv48 e48 h48=>?_;have K48:=K47.to e48 h48 λb _ i=>.inl i;have hz4747:=e47.1;have hso48:=aH.bU hso47 e48 λb _ i E=>by
   rcases E.1 with h1|h1
   ·exact hXn b i h1
   ·have:=i.2;omega
  refine⟨⟨⟨⟨_,_,_,h48,rfl⟩,K47.cW e48 b47 (.inr rfl)⟩,?_⟩,?_⟩
  ·obtain⟨b1,o1,ha1',hc1⟩:=hso48.cell (j:=0) (v:=.int .i64 y) rfl;rw[ha0']at ha1';cases ha1';exact hc1
  ·have K49:=K48;simp only[Hw.dY,od]at K49;exact gS (n:=σ.size) K49 (.inl (.inl (.inr rfl))) (K47.cW e48 hbv47 (.inl (.inl (.inr rfl)))) λZ K'=>hR Z ts47 K'.e (K'.fin h)
 | eV m=>
  have hp:Z5 (H.eM t) H.sp (m:Int) 1<=1000000:=hp;rw[hAe]at hp;refine lA aB (jE aB (jE aB (jE aB (rJ aB (Da (nw (cs:=[.int .i64 0]) λv5 M W N=>?_))))));have K5:=K1.box W M;refine N.s0 aA λv6 o6 b6=>?_;have K6:=K5.own o6 (.inr rfl);have C:=Ws o6 (W.bZ i id) O;refine b6.rI rfl (S2 K6.h hA hY (m:Int) 1 λv7 V h7=>?_);have K7:=K6.to V h7 λb _ i=>i;have b7:=K6.cW V b6 (.inr rfl);have B:=K6.cW V C (.inl (.inr rfl));refine cU (λhn0=>?_) λh0=>?_
  ·have hn0':Qz A H.sp (m:Int) 1≠0:=by simpa using hn0
   have X:Wt H t (.eV m)=({H.cB (H.own t) (cD A H.sp (m:Int) 1).1 with sp:=(cD A H.sp (m:Int) 1).2},none,0,Qz A H.sp (m:Int) 1):=by
    simp only[Wt,hAe,zA hn0']
   rw[X]at hR;exact gS (n:=σ.size) K7 (.inl (.inr rfl)) B λZ K'=>hR Z L.ts K'.e (K'.fin h)
  ·have h0':Qz A H.sp (m:Int) 1=0:=by simpa using h0
   have hm:m<=64:=by
    unfold Qz at h0';split at h0'
    ·rename_i hpo;simp only[Kl,zF,zT]at hpo;omega
    ·omega
   have X:Wt H t (.eV m)=(VI {H.cB (H.own t) (cD A H.sp (m:Int) 1).1 with sp:=(cD A H.sp (m:Int) 1).2} ((Z5 A H.sp (m:Int) 1*256:Nat):Int) ((m*256:Nat):Int) (-1),none,((Z5 A H.sp (m:Int) 1*256:Nat):Int),0):=by
    simp only[Wt,hAe,zB h0']
   rw[X]at hR;refine cA (m:=Z5 A H.sp (m:Int) 1*256) O O (b7.rI rfl (cA (m:=m*256) O O ?_));refine BD K7.h _ _ _ O λv8 e8 h8=>?_;have K8:=K7.to e8 h8 λb _ i=>.inl i;exact gS (n:=σ.size) K8 (.inl (.inr rfl)) (K7.cW e8 B (.inl (.inr rfl))) λZ K'=>hR Z L.ts K'.e (K'.fin h)
 | find x=>
  obtain⟨hx9,hro,hlv⟩:iL x/\(bV H.live x=none->∀A∈H.bT,ja A)/\∀b,bV H.live x=some b->0<=x:=hp;refine lA aB (jE aB (jE aB (jE aB (rJ aB (lA aB (Da (nw (cs:=[.int .i64 0]) λv5 M W N=>?_)))))));have K5:=K1.box W M;refine N.s0 aA λv6 o6 b6=>?_;have K6:=K5.own o6 (.inr rfl);have C:=Ws o6 (W.bZ i id) O;refine b6.rI rfl (P4 K6.h ht x hx9 hro hlen' hlv λv7 ts7 V h7=>?_);have K7:=K6.to V h7 λb _ i=>i;have B:=K6.cW V C (.inl (.inr rfl));exact gS (n:=σ.size) K7 (.inl (.inr rfl)) B λZ K'=>hR Z ts7 K'.e (K'.fin h)
 | put k y=>
  obtain⟨hk,hne0⟩:k<H.tb.length/\(H.kz t).bP≠[]:=hp;rw[htg]at hne0;obtain⟨c,hc⟩:∃c,H.tb[k]?=some c:=⟨_,cM hk⟩;have hll:=h.Ba E hg;obtain⟨l,hl⟩:∃l,g.ls[k]?=some l:=⟨_,cM (by rw[hll];exact hk)⟩;have hce:=Ud hc;have hle:=yS hl;refine lA aB (jE aB (jE aB (jE aB (rJ aB (lA aB (lA aB (wY (nw (cs:=[.int .i64 0,.int .i64 0]) λv5 M W N=>?_))))))));have K5:=K1.box W M;refine N.s1 aA λv5b o5 b5=>b5.s1 aA λv6 o6 b6=>?_;have K6:=(K5.own o5 (.inr rfl)).own o6 (.inr rfl);have S:σ.size≠v.size:=by omega
  have C:=Ws o6 (Ws o5 (W.bZ i id) S) S;generalize hgg:(if(dQ c y l).1=[]then({g with ls:=g.ls.set k (dQ c y l).2}:Th)else{g with ls:=g.ls.set k (dQ c y l).2,bP:=g.bP++[(k,(dQ c y l).1)]})=g2
  have hg2n:g2.bP≠[]/\g2.bP.length<=901:=by
   rw[←hgg];split
   ·exact⟨hne0,by simp;omega⟩
   ·exact⟨by simp,by simp;omega⟩
  refine qy (λw=>∃P ts',HK F σ (λb=>(False\/b=σ.size)\/b=v.size) w P {L with ts:=ts'} {H with bQ:=H.bQ.set t g2}/\bX w σ.size [.int .i64 0,.int .i64 0]) (λw ⟨P,ts2,K,hbw⟩=>?_) λJ2 hJ2=>?_
  ·have hg3:({H with bQ:=H.bQ.set t g2}:Hw).bQ[t]?=some g2:=by simp[ht]
   obtain⟨x2,_,hx2,_⟩:=K.h.th (t:=t) (by simpa using ht);obtain⟨G,D,hG,hD,hd,aa,hr,ab⟩:=K.h.xD (λb i=>(K.p b i).2.2) hx2 hg3 (λ_=>False) (λb _ _ z=>z) (K.o.1.sub λb i=>i.elim) (λz=>z);have hbl:=aa.len;have hbc:=aa.cap;obtain⟨b0,r0,hbr⟩:∃b r,g2.bP=b::r:=by
    cases hh:g2.bP with
    | nil=>exact absurd hh hg2n.1
    | cons b r=>exact⟨b,r,rfl⟩
   have oT:g2.bP.drop 1=r0:=by rw[hbr];rfl
   rw[hbr]at aa;have hpos:1<=x2.h.len:=by rw[hbl,hbr];simp
   refine aG (oh (K.h.tc hx2 hg3 ha (d:=1) O rfl) ?_);refine jc (lo:=1) hpos hbc (zD _) ?_;refine aG (ab w _ _ G (Ext.refl _ _) (λb i=>.inl i) aa.mj ha λw1 e1 h1=>?_);have e1':=e1.sub hD;have K1b:=K.to e1' h1 λb _ z=>by
    rcases z with z|z
    ·exact .inl z.1
    ·exact .inl (hG b z.1)
   have hbw1:=K.cW e1' hbw (.inl (.inr rfl));have K3:=K1b;simp only[od]at K3;generalize hg3':({g2 with bP:=r0}:Th)=g3 at K3;have hl3:g3.bP=r0/\g3.ls=g2.ls:=by rw[←hg3'];exact⟨rfl,rfl⟩
   have hr0:r0.length<=900:=by have:=hg2n.2;rw[hbr]at this;simp at this;omega
   have hg3e:({H with bQ:=H.bQ.set t g3}:Hw).bQ[t]?=some g3:=by simp[ht]
   have hpe:iE H t k y=(if H.cf.dB<Qt H.tb g3.ls then{H with bQ:=H.bQ.set t {g3 with ls:=Q6 KH H.tb g3.ls,bP:=g3.bP++Ka KH H.tb g3.ls}}else{H with bQ:=H.bQ.set t g3}):=by
    have e2:(if(dQ c y l).1=[]then H.dZ t λh=>h.iI k (dQ c y l).2 else QP (H.dZ t λh=>h.iI k (dQ c y l).2) t k (dQ c y l).1) = {H with bQ:=H.bQ.set t g2}:=by
     rw[←hgg];split
     ·rw[ZL hg];rfl
     ·rw[ZL hg];unfold QP Hw.dZ;simp only;rw[K0 (t:=g.iI k (dQ c y l).2) (by simp[ht]),od];rfl
    have e3:({H with bQ:=H.bQ.set t g2}:Hw).dZ t (λh=>{h with bP:=h.bP.drop 1}) = {H with bQ:=H.bQ.set t g3}:=by
     rw[ZL hg3];simp only[od,oT,hg3']
    unfold iE;simp only[hce,htg,hle,e2,e3,GP hg3e,ZL hg3e,od]
   have hx3:(ts2.set t {x2 with h:=⟨if x2.h.cap=1 then x2.h.a else x2.h.a.map (·.add (1*2)),x2.h.len-1,x2.h.cap-1⟩})[t]?=some {x2 with h:=⟨if x2.h.cap=1 then x2.h.a else x2.h.a.map (·.add (1*2)),x2.h.len-1,x2.h.cap-1⟩}:=zM (cQ.1 hx2).1
   generalize hx3':({x2 with h:=⟨if x2.h.cap=1 then x2.h.a else x2.h.a.map (·.add (1*2)),x2.h.len-1,x2.h.cap-1⟩}:eB)=x3 at hx3 K3
   generalize ts2.set t x3=ts3 at hx3 K3;refine qy (λw=>∃P ts',HK F σ (λb=>(False\/b=σ.size)\/b=v.size) w P {L with ts:=ts'} (iE H t k y)/\bX w σ.size [.int .i64 0,.int .i64 0]) (λw ⟨P,ts',K,hbw⟩=>?_) λJ3 hJ3=>?_
   ·have X:Wt H t (.put k y)=(iE H t k y,kf (iE H t k y) t,0,0):=rfl;rw[X]at hR;refine V5 K.h (t:=t) ?_ ?_
    ·rw[hpe];split<;>simpa using ht
    ·exact gS (n:=σ.size) K (.inl (.inr rfl)) hbw λZ K'=>hR Z ts' K'.e (K'.fin h)
   ·refine aG (uD (K3.h.tc hx3 hg3e ha (d:=0) O rfl) ?_);refine T5 K3.h hx3 hg3e λv10 e10=>?_;have K10:=K3.fr e10;have hbw10:=e10.bZ hbw1 id;refine cI (λhov=>?_) λhno=>hJ3 v10 ⟨_,ts3,by rw[hpe,zA hno];exact K10,hbw10⟩;refine⟨λu=>cell u (Addr.add ⟨tb0,to0+3*t,none⟩ 1)=some (.slice x3.h.a x3.h.len x3.h.cap)/\cell u (Addr.add ⟨tb0,to0+3*t,none⟩ 0)=some (.pointer (some ⟨x3.c.p,0,none⟩)),⟨K10.h.tc hx3 hg3e ha (d:=1) O rfl,K10.h.tc hx3 hg3e ha (d:=0) O rfl⟩,aG ⟨x3.h,λu U=>U.1,aG ⟨some ⟨x3.c.p,0,none⟩,λu U=>U.2,?_⟩⟩⟩;refine Tw hso K10.h hx3 hg3e λv11 s Q e11 hQ hB h11=>?_;have K11:=K10.to e11 h11 λb _ i=>i.1;have hbw11:=K10.cW e11 hbw10 (.inl (.inr rfl));have hg11:(Hw.dY {H with bQ:=H.bQ.set t g3} t g3 (Q6 KH H.tb g3.ls)).bQ[t]?=some {g3 with ls:=Q6 KH H.tb g3.ls}:=by simp[Hw.dY,ht]
    refine⟨⟨K11.h.tc hx3 hg11 ha (d:=1) O rfl,K11.h.tc hx3 hg11 ha (d:=0) O rfl⟩,?_⟩;have hz0:=K10.e.1;obtain⟨G,D,hG,hD,hd,aa,hr,ab⟩:=K11.h.xD (λb i=>i.2) hx3 hg11 (λb=>Q b\/v11.size<=b) (λb i hP z=>z.elim (λz=>hP.1.2 z) λz=>O) (K10.o.1.sub λb i=>i.elim (λi=>by have:=hQ b i;omega) λi=>by have:=K11.e.1;omega) (λz=>K10.o.2 (z.elim (λi=>by have:=hQ _ i;omega) λi=>by have:=K11.e.1;omega));refine ik.app aa hB (λb hg z=>(hG b hg).1.2 z) ?_ λs' v12 e12 hB12=>?_
    ·have:=Bc KH H.tb g3.ls;have:H.tb.length<=40:=K3.h.mA;simp only[hl3.1];omega
    have hcell:∀{d:Nat} {w:Value},d<3->(jM (x3,({g3 with ls:=Q6 KH H.tb g3.ls}:Th)))[d]?=some w->cell v12 (Addr.add ⟨tb0,to0+3*t,none⟩ d)=some w:=λhd3 hv=>by
     obtain⟨b',o',ha',hc'⟩:=Uj (hr v12 e12) hx3 hg11 hd3 hv;rw[ha]at ha';cases ha';rw[add_lit,qn];exact hc'
    refine⟨⟨hcell (d:=1) O rfl,hcell (d:=0) O rfl⟩,aG (ab v12 s' _ _ e12 (λb i=>i.imp id id) hB12 ha λv13 e13 h13=>?_)⟩;have e13':=(e12.sub hG).trans (e13.sub hD);have K13:=K11.tQ e13' h13 λb i z=>by
     rcases z with z|z
     ·exact .inl z.1
     ·rcases z.1 with h1|h1|h1
      ·exact .inl (hG b h1)
      ·have:=hQ b h1;exact .inr (.inr ⟨.inr O,λhB=>by have:=(K10.b b hB).2;omega⟩)
      ·exact .inr (.inl h1)
    have hbw13:=K11.cW e13' hbw11 (.inl (.inr rfl));have K14:=K13;simp only[Hw.dY,od]at K14;have hpe':=hpe;rw[zB hov]at hpe';rw[hpe']at hJ3;exact hJ3 v13 ⟨_,_,K14,hbw13⟩
  ·refine⟨λu=>u=v6,rfl,aG ⟨some ⟨x.c.p,0,none⟩,λu U=>by cases U;exact K6.h.tc E hg ha (d:=0) O rfl,⟨(k:Int),λu U=>by cases U;rw[add_lit,b6.cell];rfl,⟨y,λu U=>by cases U;rw[add_lit,b6.cell];rfl,?_⟩⟩⟩⟩;refine LX K6.h E hg hc hl y λv7 ts7 s ee Q V hQ hs7 h7=>?_;have K7:=K6.to V h7 λb _ i=>i.1;have b7:=K6.cW V b6 (.inr rfl);have B:=K6.cW V C (.inl (.inr rfl));have hsl:s.len=(dQ c y l).1.length:=by have:=hs7.1;simp[Wv]at this;omega
   by_cases hemp:(dQ c y l).1=[]
   ·rw[zB hemp]at hgg;rw[←hgg]at hJ2;exact fG (by rw[hsl,hemp];simp) (hJ2 v7 ⟨_,ts7,K7,B⟩)
   ·rw[zA hemp]at hgg;have hpos:=qo.2 hemp;have hz6:=K6.e.1;refine lU (by rw[hsl];omega) (b7.rI rfl ?_);refine y6 K7.h (t:=t) (by simpa[Hw.dY]using ht) k (bR.gp hs7) (bR.qQ hs7) hemp (λb _ z E=>E.1.2 z) (K6.o.1.sub λb i=>by have:=hQ b i;omega) (λz=>K6.o.2 (by have:=hQ _ z;omega)) (λg' hg'=>?_) λv8 ts8 e8 h8=>?_
    ·have:(H.dY t g (g.ls.set k (dQ c y l).2)).bQ[t]?=some {g with ls:=g.ls.set k (dQ c y l).2}:=by simp[Hw.dY,ht]
     rw[this]at hg';cases hg';simp only;omega
    ·have K8:=K7.tQ e8 h8 λb i z=>by
      rcases z with z|z
      ·exact z.imp id .inl
      ·have:=hQ b z;exact .inr (.inr ⟨.inr O,λhB=>by have:=(K6.b b hB).2;omega⟩)
     have e9:QP (H.dY t g (g.ls.set k (dQ c y l).2)) t k (dQ c y l).1 = {H with bQ:=H.bQ.set t g2}:=by
      rw[←hgg];unfold QP Hw.dZ Hw.dY;simp only;rw[K0 (t:={g with ls:=g.ls.set k (dQ c y l).2}) (by simp[ht]),od]
     rw[e9]at K8;exact hJ2 v8 ⟨_,ts8,K8,K7.cW e8 B (.inl (.inr rfl))⟩
 | back=>
  obtain⟨k,xs,r,hh,hxs,hxl⟩:∃k xs r,(H.kz t).bP=(k,xs)::r/\(∀x∈xs,iL x/\0<=YJ H.bT x)/\xs.length<=1000000:=hp;rw[htg]at hh;refine lA aB (jE aB (jE aB (jE aB (rJ aB (lA aB (lA aB (jE aB (A6 (nw (cs:=[]) λv5 M W N=>?_)))))))));have K5:=K1.box W M;have hbv5:=W.bZ i id;obtain⟨G,D,hG,hD,hd,aa,hr,ab⟩:=K5.h.xD (λb i=>(K5.p b i).2.2) E hg (λb=>v5.size<=b) (λb i _ z=>O) K5.h.mT.1 K5.h.mT.2;have hbl:=aa.len;have hbc:=aa.cap;rw[hh]at aa;obtain⟨so,ps,Dn,hrow,hso1,hcap,hBr,hDn,hj,S,hxne⟩:=aa.m4;have hz5':=K5.e.1;refine aG (oh (K5.h.tc E hg ha (d:=1) O rfl) (IV (dM.gp hrow) λa ha0 ha1=>ox ha0 (oh ha1 ?_)));refine nw (cs:=[.int .i64 0,.slice none 0 0]) λv81 hz81 e81 hb81=>hb81.s1 aA λv82 o82 b82=>b82.s1 aA λv83 o83 b83=>?_;have e83:bO v5 v83:=(e81.only o82 (.inr (zD _))).only o83 (.inr (zD _));have hz83:v5.size<v83.size:=b83.lt;have hcell:∀{u1:Hp},Ext G v5 u1->∀{d:Nat} {w:Value},d<3->(jM (x,g))[d]?=some w->cell u1 (Addr.add ⟨tb0,to0+3*t,none⟩ d)=some w:=λhe _ _ hd3 hv=>by
   obtain⟨b',o',ha',hc'⟩:=Uj (hr _ he) E hg hd3 hv;rw[ha]at ha';cases ha';rw[add_lit,qn];exact hc'
  refine aG (oh (hcell (bO.to e83) (d:=1) (w:=.slice x.h.a x.h.len x.h.cap) O rfl) ?_);have hpos:1<=x.h.len:=by rw[hbl,hh];simp
  refine jc (lo:=1) hpos hbc (zD _) ?_;have hrow':=aH.bK (aH.cut (dM.gp (hrow.from (lo:=1) hpos))) e83;have oT:(fK ((k,so)::ps)).drop (1*2)=fK ps:=rfl;rw[oT]at hrow';refine Ts hrow' aC λs' v84 hs'l e84 hs'=>?_;have hBt':ik s' r v84 (λb=>Dn b/\¬lu so b/\b<v5.size\/v83.size<=b):=by
   refine⟨ps,λb=>Dn b/\¬lu so b/\b<v5.size,(dM.loc _ _ _).mono hs'.o λb _ i=>⟨.inr i,λE=>O⟩,(k7.loc _ _).bK ((k7.loc _ _).bK ((k7.loc _ _).mono ((k7.loc _ _).cut hBr) λb _ i=>⟨i.1.1,i.1.2,i.2⟩) e83) e84,λb i=>.inl i,hj,S⟩
  have e584:bO v5 v84:=e83.trans e84;refine aG (ab v84 s' r _ (bO.to e584) (λb i=>i.elim (λi=>.inl (hDn b i.1)) λi=>.inr O) hBt' ha λv85 e85 h85=>?_);have hz84:=e84.1;have hz85:=e85.1;have e585:Ext _ v5 v85:=(bO.to e584).trans (e85.sub hD);have K85:=K5.to e585 h85 λb _ z=>by
   rcases z with z|z
   ·exact .inl z.1
   ·rcases z.1 with h1|h1
    ·exact .inl (hG b (hDn b h1.1))
    ·exact .inr O
  have hbv85:=K5.cW e585 hbv5 (.inl (.inr rfl));have b85:bX v85 v5.size _:=e85.bZ (e84.bZ b83 id) λE=>by have:=(K5.p _ (hD _ E)).2.2;omega
  have K85b:=K85.wF (B':=λb=>b=v5.size) λb i=>⟨O,O,λE=>by
   subst i;rcases E.1 with h1|h1
   ·have:=(K5.p _ h1.1).2.2;omega
   ·rcases h1.1 with h2|h2<;>omega⟩
  have hso5:=aH.bU (aH.bK (aH.cut hso1) e584) e85 λb _ i E=>hd b (hDn b i.1.1) E;have X:Wt H t .back=(HU {H with bQ:=H.bQ.set t {g with bP:=r}} (H.own t) k xs,kf (HU {H with bQ:=H.bQ.set t {g with bP:=r}} (H.own t) k xs) t,0,0):=by
   simp only[Wt,htg,hh,ZL hg]
  rw[X]at hR;refine⟨λu=>u=v85,rfl,⟨(k:Int),λu U=>by cases U;rw[add_lit,b85.cell];rfl,⟨so,λu U=>by cases U;rw[add_lit,b85.cell];rfl,?_⟩⟩⟩;refine Fy K85b.h t ⟨rfl,O3 K85b.h hol k hso5 (λb _ i E=>?_) hcap hxs hxl λv87 e87 h87=>?_⟩
  ·rcases E.1 with h1|h1
   ·exact h1.2 (hDn b i.1.1)
   ·rcases h1.1 with h2|h2
    ·exact h2.2.1 i.1.2
    ·have:=i.2;omega
  have K87:=K85b.to e87 h87 λb _ i=>i;have hbl7:(HU {H with bQ:=H.bQ.set t {g with bP:=r}} (H.own t) k xs).bQ.length=H.bQ.length:=by
   rw[AF];simp
  refine V5 K87.h (t:=t) (by rw[hbl7];exact ht) ?_;exact gS (n:=σ.size) K87 (.inl (.inl (.inr rfl))) (K85b.cW e87 hbv85 (.inl (.inl (.inr rfl)))) λZ K'=>hR Z _ K'.e (K'.fin h)
 | dJ s a=>
  obtain⟨ha0,hal,hru⟩:0<=a/\a.toNat<H.bT.length/\∀A∈H.bT,∀r∈A.runs,r.1<=1000000:=hp;obtain⟨A2,hA2⟩:∃A,H.bT[a.toNat]?=some A:=⟨_,cM hal⟩;have hae:a=((a.toNat:Nat):Int):=by omega
  refine lA aB (jE aB (jE aB (jE aB (rJ aB (lA aB (lA aB (jE aB (rJ aB (wY (nw (cs:=[.int .i64 0,.int .i64 0]) λv5 M W N=>?_))))))))));have K5:=K1.box W M;refine N.s1 aA λv5b o5 b5=>b5.s1 aA λv6 o6 b6=>?_;have K6:=(K5.own o5 (.inr rfl)).own o6 (.inr rfl);have S:σ.size≠v.size:=by omega
  have C:=Ws o6 (Ws o5 (W.bZ i id) S) S;obtain⟨Y2,hY2,_,_⟩:=K6.h.ar hA2;refine aG (K6.h.hd.rS rfl (b6.rI (x:=((a.toNat:Nat):Int)) (by rw[←hae];rfl) (K6.h.rA hY2 (b6.rI rfl ?_))));refine Wch K6.h hA2 hY2 s (hru A2 (zE hA2)) λv7 V h7=>?_;have K7:=K6.to V h7 λb _ i=>i;have B:=K6.cW V C (.inl (.inr rfl));have X:Wt H t (.dJ s a)=(H.cB a.toNat (QE A2 s),none,0,0):=by
   simp only[Wt,hA2]
  refine hJ v7 ⟨_,L.ts,⟨?_,K7.e,λb i=>⟨(K7.p b i).1,λE=>(K7.p b i).2.1 (.inl E),(K7.p b i).2.2⟩,λb i=>K7.b b (.inl i),K7.o⟩,B,by rw[X]⟩;rw[X];exact K7.h
 | drain=>
  refine lA aB (jE aB (jE aB (jE aB (rJ aB (lA aB (lA aB (jE aB (rJ aB (jE aB (A6 (nw (cs:=[]) λv5 M W N=>?_)))))))))));have K5:=K1.box W M;have hbv5:=W.bZ i id;refine aG (uD (K5.h.tc E hg ha (d:=0) O rfl) ?_);refine Oi hso K5.h E hg λv7 s Q V hQ hB h7=>?_;have K7:=K5.to V h7 λb _ i=>i.1;have B:=K5.cW V hbv5 (.inl (.inr rfl));have hz0:=K5.e.1;have hg7:(H.dY t g (Q6 ZX H.tb g.ls)).bQ[t]?=some {g with ls:=Q6 ZX H.tb g.ls}:=by simp[Hw.dY,ht]
  obtain⟨G,D,hG,hD,hd,aa,hr,ab⟩:=K7.h.xD (λb i=>i.2) E hg7 Q (λb _ i z=>i.1.2 z) (K5.o.1.sub λb i=>by have:=hQ b i;omega) (λz=>K5.o.2 (by have:=hQ _ z;omega));refine aG (ab v7 s _ Q (Ext.refl _ _) (λb i=>.inr i) hB ha λv8 e8 h8=>?_);have e8':=e8.sub hD;have K8:=K7.tQ e8' h8 λb _ z=>by
   rcases z with z|z
   ·exact .inl z.1
   ·have:=hQ b z.1;exact .inr (.inr ⟨.inr O,λhB=>by have:=(K5.b b hB).2;omega⟩)
  have hbv8:=K7.cW e8' B (.inl (.inr rfl));have X:Wt H t .drain=({H with bQ:=H.bQ.set t {g with ls:=Q6 ZX H.tb g.ls,bP:=Ka ZX H.tb g.ls}},kf {H with bQ:=H.bQ.set t {g with ls:=Q6 ZX H.tb g.ls,bP:=Ka ZX H.tb g.ls}} t,0,0):=by
   simp only[Wt,ZL hg]
  have K9:=K8;simp only[Hw.dY,od]at K9;rw[X]at hR;refine V5 K9.h (t:=t) (by simpa using ht) ?_;exact gS (n:=σ.size) K9 (.inl (.inr rfl)) hbv8 λZ K'=>hR Z _ K'.e (K'.fin h)
def eT (H:Hw)(t:Nat)(p:Option Ph):Hw:=H.dZ t λh=>{h with ph:=p}
theorem VB (H:Hw)(t:Nat)(f:Th->Th):(H.dZ t f).bQ.length=H.bQ.length:=by simp[Hw.dZ]
theorem Mp (H:Hw)(t k:Nat)(x:Int):(iE H t k x).bQ.length=H.bQ.length:=by
 unfold iE;simp only;split<;>split<;>simp[VB,QP]
theorem Jd (H:Hw)(t:Nat)(p:Ph):(Wt H t p).1.bQ.length=H.bQ.length:=by
 cases p with
 | take k=>simp only[Wt];split<;>simp[VI,VB]
 | cN k w=>
  simp only[Wt];split
  ·split<;>simp[QP,VB,Hw.cB]
  ·rfl
 | cO k w=>simp only[Wt];split<;>simp[QP,VB,Hw.cB]
 | grow k w=>simp only[Wt];split<;>simp[Hw.cB]
 | fill=>simp only[Wt];split<;>simp[VI,VB]
 | eV m=>simp only[Wt];split<;>simp[VI,Hw.cB]
 | find x=>
  simp only[Wt,UY];split
  ·rfl
  ·split<;>simp[QP,VB]
 | put k x=>exact Mp H t k x
 | back=>simp only[Wt];split<;>simp[AF,VB]
 | dJ s a=>simp only[Wt];split<;>simp[Hw.cB]
 | drain=>simp[Wt,VB]
def uK (H:Hw)(t:Nat)(p:Ph):Prop:=uJ H t p/\∀g,H.bQ[t]?=some g->g.bP.length<=900
def QS (H:Hw)(t:Nat)(p:Ph):Hw:=eT (Wt H t p).1 t (Wt H t p).2.1
theorem RN (hso:H8)(h:HH σ F L H)(hg:H.bQ[t]?=some g){p:Ph}(hp:g.ph=some p)(hok:uK H t p){R:Bool->Int->Int->Int->Hp->Prop}
 (hR:∀σ' ts',Ext F σ σ'->HH σ' (Grow F σ) {L with ts:=ts'} (QS H t p)->R (Wt H t p).2.1.isNone (Wt H t p).2.2.1 (Wt H t p).2.2.2 0 σ'):Zb.c (aW L.p) (t:Int) σ R:=by
 refine Zb.o ?_;unfold Zb.v;have D:=(cQ.1 hg).1;refine nw (cs:=[.int .i64 0,.int .i64 0]) λv U e u=>?_;have K1:=(HK.start h).box e U;obtain⟨x,g',Q,r⟩:=h.th D;rw[hg]at r;cases r;refine Kx K1.h (cG rfl (IL K1.h (t:Int) (cG (by rw[zW O];rfl) ?_)));refine aG (K1.h.hd.rS rfl (K1.h.tR Q hg ?_));rw[hp];refine⟨xo _,cG (by rw[Aa];rfl) (aG (K1.h.hd.rS rfl (K1.h.tR Q hg ?_)))⟩;rw[hp];refine P2 hso K1.h D p hok.1 hok.2 λW E P S=>?_;have K9:=K1.to P S λb _ u=>u;have m:=K1.cW P u (.inr rfl);refine nw (cs:=[.int .i64 0,.int .i64 0]) λaa w s z=>?_;have K10:=K9.box s w;refine z.s1 aA λV j M=>M.s1 aA λY B K=>?_;have K12:=(K10.own j (.inr rfl)).own B (.inr rfl);have A:σ.size≠W.size:=by have:=(K9.b σ.size (.inr rfl)).2;omega
 have d:=Ws B (Ws j (s.bZ m id) A) A;have G:t<(Wt H t p).1.bQ.length:=by rw[Jd];exact D
 obtain⟨x9,X,J,y⟩:=K12.h.th G;have N:QS H t p = {(Wt H t p).1 with bQ:=(Wt H t p).1.bQ.set t {X with ph:=(Wt H t p).2.1}}:=ZL y _;refine aG (K12.h.hd.rS rfl (K12.h.sF J y (Wt H t p).2.1 λab i C=>?_));have K13:=K12.to i C λb _ u=>.inl u;have a:=K12.cW i K (.inr rfl);rw[←N]at K13;refine⟨xo _,a.rI rfl (a.rI rfl ?_)⟩;refine gS (n:=σ.size) K13 (.inl (.inr rfl)) (K12.cW i d (.inl (.inr rfl))) λZ K'=>?_;rw[Aa];exact hR Z E K'.e (K'.fin h)
theorem DR {p:Nat->Prop}(h:∃n,p n):∃n,p n/\∀m,p m->n<=m:=by
 obtain⟨n,d⟩:=h
 induction n using Nat.strongRecOn with
 | _ n ih=>
  by_cases hm:∃m,m<n/\p m
  ·obtain⟨m,b,a⟩:=hm;exact ih m b a
  ·exact⟨n,d,λm a=>Nat.le_of_not_lt λb=>hm ⟨m,b,a⟩⟩
theorem T8 {start:eP []->Prop}{round:eP []->eP []}(Inv:Nat->Hp->Prop)(h0:start λh=>∃n,Inv n h)(hr:∀n h,Inv n h->∀J:Hp->Prop,(∀m h',m<n->Inv m h'->J h')->round J h):W7 [] start round:=by
 classical
 refine FN (λh=>∃n,Inv n h) (λh=>if hx:∃n,Inv n h then(DR hx).choose else 0) h0 λh d=>?_
 have e:=(DR d).choose_spec;refine hr _ h e.1 _ λm h' g b=>⟨⟨m,b⟩,?_⟩;have a:∃n,Inv n h':=⟨m,b⟩;rw[dif_pos a,dif_pos d];exact Nat.lt_of_le_of_lt ((DR a).choose_spec.2 m b) g
inductive iO:Nat->Hw->Nat->Ph->Hw->Int->Int->Prop
 | done {H:Hw} {t:Nat} {p:Ph}:uK H t p->(Wt H t p).2.1=none->iO 1 H t p (QS H t p) (Wt H t p).2.2.1 (Wt H t p).2.2.2
 | next {n:Nat} {H:Hw} {t:Nat} {p p':Ph} {H':Hw} {a e:Int}:uK H t p->(Wt H t p).2.1=some p'->iO n (QS H t p) t p' H' a e->iO (n+1) H t p H' a e
theorem IG {p:Ph}(ht:t<H.bQ.length):∃g,(QS H t p).bQ[t]?=some g/\g.ph=(Wt H t p).2.1:=by
 have a:t<(Wt H t p).1.bQ.length:=by rw[Jd];exact ht
 exact⟨{(Wt H t p).1.bQ[t]with ph:=(Wt H t p).2.1},by simp[QS,eT,Hw.dZ,s8,cM a],rfl⟩
end Go.Ar
namespace Go.Ar
open Go Go.Vc Go.Proofs
open Go.Bu (gE)
variable {σ:Hp}{F:Rg}
def KN (size align:Int):Bool:=decide (1<=size)&&(decide (1<=align)&&(decide (align<=256)&&gE align))
def gO (tb:List bW)(size align:Int):Option Nat:=tb.findIdx? λc=>decide (size<=(c.size:Int))&&((c.size:Int)%align==0)
theorem Tl (n:Int)(h1:1<=n)(h2:n<=256){R:aN}(hR:∀p:Int,(p != n) = !gE n->R p σ):Qe.c n σ R:=by
 refine Qe.o ?_;unfold Qe.v;refine Ko (a:=bN) (bb:=bN) (λ(p q:Int) w=>w=σ/\(p=0/\q=1\/∃k:Nat,k<=8/\p=((2^k:Nat):Int)/\q=((2^(k+1):Nat):Int)/\p<=n)) (λp q _=>1000-q.toNat) ⟨rfl,.inl ⟨rfl,rfl⟩⟩ ?_;rintro(p:Int) (q:Int) w ⟨rfl,hpq⟩;refine cI (λd=>?_) λr=>?_
 ·rcases hpq with⟨rfl,rfl⟩|⟨k,hk,rfl,rfl,hp⟩
  ·exact cA (m:=2) O O ⟨⟨rfl,.inr ⟨0,O,by simp,by simp,O⟩⟩,by simp⟩
  ·have s:k<=7:=by
    apply Classical.byContradiction;intro hc;have:2^9<=2^(k+1):=oM aB O;omega
   have g:=lb (k+1);exact cA (m:=2^(k+1+1)) (by rw[mW 2 (k+1)];omega) (by rw[mW 2 (k+1)];omega) ⟨⟨rfl,.inr ⟨k+1,O,rfl,rfl,d⟩⟩,by rw[mW 2 (k+1)];omega⟩
 ·rcases hpq with⟨rfl,rfl⟩|⟨k,hk,rfl,rfl,hp⟩
  ·omega
  ·refine hR _ ?_;by_cases e:((2^k:Nat):Int)=n
   ·have:gE n=true:=by
     unfold gE;rw[j9];exact⟨k,zU.2 O,by simp[←e]⟩
    rw[this,e];simp
   ·have:gE n=false:=by
     unfold gE;rw[np];intro j hj he;have b:n=((2^j:Nat):Int):=by simpa using he
     rcases qx j k with h3|h3|h3
     ·have:2^(j+1)<=2^k:=oM aB h3;rw[mW]at this;have:=lb j;omega
     ·subst h3;exact e b.symm
     ·have:2^(k+1)<=2^j:=oM aB h3;omega
    rw[this];simpa using e
theorem FO {s:Sl}{xs:List (Int×Int×Int)}(ha:gH σ s xs)(hv:Qi xs=true)(size align:Int){R:Int->Int->Hp->Prop}
 (hR:∀σ',bO σ σ'->R (if KN size align then((gO (xs.map ZW) size align).getD 0:Nat)else 0) (if KN size align then(if(gO (xs.map ZW) size align).isSome then 0 else 4)else 1) σ'):Z1.c s size align σ R:=by
 refine Z1.o ?_;unfold Z1.v;refine nw (cs:=[.int .i64 size]) λv hz e hb=>nw (cs:=[.int .i64 align]) λv1 aa B hb1=>?_;have S:=B.bZ hb id;refine HL (YN ha (e.trans B)) λx W=>?_;rw[hv];have M:=W.bZ S id;have y:=W.bZ hb1 id;have u:=(e.trans B).trans W;refine cG rfl ?_;have key:∀r,r = !KN size align->(If r (R 0 1 x) (Wl.c s ⟨80,#[],#[.pointer (some ⟨σ.size,0,none⟩),.pointer (some ⟨v.size,0,none⟩)]⟩ x λk v4=>If (decide (k<0)) (R 0 4 v4) (R k 0 v4))):=by
  intro r b;cases hok:KN size align with
  | false=>
   rw[hok]at b;have:=hR x u;rw[hok]at this;exact cJ (by rw[b];rfl) this
  | true=>
   rw[hok]at b;refine cG (by rw[b];rfl) ?_;have L:=hok;simp only[KN,zF,zT]at L;refine Wl.o ?_;unfold Wl.v;have hlen:=ha.1;have hxl:=((Qr xs).1 hv).2.1;refine ZU (a:=bN) (λ(z:Int) w=>∃i:Nat,z=(i:Int)/\i<=xs.length/\bO x w/\∀j c,j<i->(xs.map ZW)[j]?=some c->(decide (size<=(c.size:Int))&&((c.size:Int)%align==0))=false) (λz _=>xs.length-z.toNat) ⟨0,rfl,O,Ext.refl _ _,λj c h=>O⟩ ?_;rintro(z:Int) w ⟨i,rfl,hi,ew,hno⟩;refine cI (λhlt=>?_) λhge=>?_
   ·have U:i<xs.length:=by omega
    have C:(xs.map ZW)[i]?=some (ZW xs[i]):=by simp[U]
    generalize ZW xs[i]=c at C;have K:=YN ha (u.trans ew);obtain⟨hx,hcok⟩:=UL K hv C;refine UZ K hx ?_;refine GF (all := #[.agg #[.int .i64 (c.size:Int),.int .i64 (c.aF:Int),.int .i64 (c.batch:Int)],.pointer (some ⟨σ.size,0,none⟩),.pointer (some ⟨v.size,0,none⟩)]) (by kernel_rfl) aA ?_;refine ZY.o ?_;unfold ZY.v;refine nw (cs:=[.int .i64 (c.size:Int),.int .i64 (c.aF:Int),.int .i64 (c.batch:Int)]) λF aa B D=>?_;have Q:=B.bZ (ew.bZ M id) id;have N:=B.bZ (ew.bZ y id) id;have E:=ew.trans B;have go:∀r,r=(decide (size<=(c.size:Int))&&((c.size:Int)%align==0))->If r (If (decide ((i:Int)<0)) (R 0 4 F) (R (i:Int) 0 F)) (Ar .i64 ((i:Int)+1) λH=>(∃i:Nat,H=(i:Int)/\i<=xs.length/\bO x F/\∀j c,j<i->(xs.map ZW)[j]?=some c->(decide (size<=(c.size:Int))&&((c.size:Int)%align==0))=false)/\xs.length-H.toNat<xs.length-(i:Int).toNat):=by
     intro r b;refine cU (λZ=>fG O ?_) λh0=>?_
     ·have X:gO (xs.map ZW) size align=some i:=by
       obtain⟨V,rfl⟩:=cQ.1 C;exact oO.2 ⟨V,by rw[←b];exact Z,λj G=>by rw[hno j _ G (cM O)];simp⟩
      have:=hR F (u.trans E);rw[hok,X]at this;exact this
     ·exact cA (m:=i+1) O O ⟨⟨i+1,rfl,O,E,λj d G hd=>by
       by_cases e:j=i
       ·subst e;rw[C]at hd;cases hd;rw[←b];exact h0
       ·exact hno j d O hd⟩,O⟩
    refine D.rI rfl (Q.xl rfl ?_);refine UC (λr w=>w=F/\r=(decide (size<=(c.size:Int))&&((c.size:Int)%align==0))) (λr w ⟨hw,b⟩=>by subst hw;exact go r b) λJ A=>?_;refine cI (λhge=>D.rI rfl (N.xl rfl (nz O (A _ _ ⟨rfl,?_⟩)))) λhlt2=>A _ _ ⟨rfl,?_⟩
    ·rw[Q9 O,zW (by omega:size<=(c.size:Int)),vI]
    ·rw[zh O,tH]
   ·have X:gO (xs.map ZW) size align=none:=by
     unfold gO;rw[vf];intro c C;obtain⟨j,G⟩:=zN C;have:=(cQ.1 G).1;simp at this;exact hno j c O G
    have:=hR w (u.trans ew);rw[hok,X]at this;exact lU aB this
 refine BM (λr w=>w=x/\r = !KN size align) (λr w ⟨hw,b⟩=>by subst hw;exact key r b) λJ A=>?_;have Y:∀m,m=x->cell m ⟨σ.size,0,none⟩=some (.int .i64 size):=λm P=>by rw[P,M.cell];rfl
 have g:∀m,m=x->cell m ⟨v.size,0,none⟩=some (.int .i64 align):=λm P=>by rw[P,y.cell];rfl
 refine⟨λm=>m=x,rfl,⟨size,Y,?_⟩⟩;refine cI (λZ=>A _ _ ⟨rfl,?_⟩) λZ=>⟨align,g,cI (λh2=>A _ _ ⟨rfl,?_⟩) λh2=>⟨align,g,cI (λh3=>A _ _ ⟨rfl,?_⟩) λh3=>⟨align,g,⟨align,g,?_⟩⟩⟩⟩
 ·simp only[KN,zh (by omega:¬1<=size),tH,yw]
 ·simp only[KN,zh (by omega:¬1<=align),tH,sA,yw]
 ·simp only[KN,zh (by omega:¬align<=256),tH,sA,yw]
 ·refine Tl align O O λp hp=>⟨rfl,A _ _ ⟨rfl,?_⟩⟩;rw[hp];simp only[KN,zW (by omega:1<=size),zW (by omega:1<=align),zW (by omega:align<=256),vI]
end Go.Ar
namespace Go.Ar
open Go Go.Vc Go.Proofs
variable {σ u u':Hp}{F B P Q:Rg}{L:dS}{H H':Hw}{t k n pb:Nat}{A:AR}{Y:Lay}{x:eB}{g:Th}{c:bW}{l:Li}{cs:List Value}
def j5 (c:bW):Int×Int×Int:=((c.size:Int),(c.aF:Int),(c.batch:Int))
theorem S9 (tb:List bW):(tb.map j5).map ZW=tb:=by
 rw[zm]
 conv=>rhs;rw[←wj tb]
 apply zw;intro c _;rfl
theorem GZ {s:Sl}{tb:List bW}(h:cR s 3 (fZ tb) σ F):gH σ s (tb.map j5):=by
 have D:=h.1;rw[KD]at D;refine⟨by simp;omega,λi x y z j=>?_⟩;rw[ze,rF]at j;obtain⟨c,A,g⟩:=j;obtain⟨r,w,C⟩:=Hu A;simp only[j5,Prod.mk.injEq]at g;obtain⟨rfl,rfl,rfl⟩:=g;obtain⟨b,o,d,e⟩:=h.cell r;obtain⟨m,p,a,B⟩:=h.cell w;rw[d]at a;cases a;obtain⟨m,p,a,u⟩:=h.cell C;rw[d]at a;cases a;exact⟨b,o,d,QQ e,by rw[show o+i*3=o+3*i by omega];exact e,by rw[show o+i*3+1=o+(3*i+1) by omega];exact B,by rw[show o+i*3+2=o+(3*i+2) by omega];exact u⟩
def ly (tb:List bW):Prop:=Qi (tb.map j5)=true
def iX (tb:List bW)(kind size align addr:Int):Option Ph:=
 if kind=0 then(if 1<=size/\size<=16384 then(if KN size align then(match gO tb size align with
  | some k=>some (.take k)
  | none=>some (.eV ((size+255).toNat/256)))else none)else none)
 else if kind=1 then some (.find addr)else if kind=2 then some .drain else none
theorem PO (h:HH σ F L H)(hv:ly H.tb)(kind size align addr:Int){R:Value->Hp->Prop}(hR:∀σ',bO σ σ'->R (nu (iX H.tb kind size align addr)) σ'):YA.c (aW L.p) kind size align addr σ R:=by
 refine YA.o ?_;unfold YA.v;refine nw (cs:=[.int .i64 kind,.int .i64 size,.int .i64 align,.int .i64 addr]) λv N e u=>u.rI rfl ?_;have D:=h.bK e;have a:=hR v e;refine cU (λz=>?_) λz=>?_
 ·have g:kind=0:=by simpa using z
  have G:iX H.tb kind size align addr=(if 1<=size/\size<=16384 then(if KN size align then(match gO H.tb size align with
   | some k=>some (.take k)
   | none=>some (.eV ((size+255).toNat/256)))else none)else none):=by unfold iX;rw[zB g]
  rw[G]at hR a;refine u.rI rfl (UC (λr w=>w=v/\r = !decide (1<=size/\size<=16384)) (λr w ⟨M,y⟩=>?_) λJ B=>?_)
  ·subst M;by_cases hs:1<=size/\size<=16384
   ·rw[zB hs]at hR;rw[zW hs]at y;refine cG (by rw[y];rfl) ⟨λm=>m=w,rfl,aG ⟨L.dD,λm x=>by rw[x,add_lit,D.hd.cell];rfl,⟨size,λm x=>by rw[x,add_lit,u.cell];rfl,⟨align,λm x=>by rw[x,add_lit,u.cell];rfl,?_⟩⟩⟩⟩;refine FO (GZ D.jI) hv size align λK C=>?_;rw[S9];have A:=C.bZ u id;have b:=hR K (e.trans C);cases hok:KN size align with
    | false=>
     rw[hok]at b;exact cG rfl (cG rfl b)
    | true=>
     rw[hok]at b;simp only[zS]at b ⊢;cases hcl:gO H.tb size align with
     | some k=>rw[hcl]at b;exact cJ rfl b
     | none=>
      rw[hcl]at b;refine cG rfl (cJ rfl (A.rI rfl (ar O O (ar O O (nz aB (ar (by rw[YK O];omega) (by rw[YK O];omega) ?_))))));rw[YK O];have:(size+256-1)/256=(((size+255).toNat/256:Nat):Int):=by omega
      rw[this];exact b
   ·rw[zA hs]at a;rw[zh hs]at y;exact cJ (by rw[y];rfl) a
  ·refine cI (λE=>B _ _ ⟨rfl,?_⟩) λE=>u.rI rfl (B _ _ ⟨rfl,?_⟩)
   ·rw[zh O];rfl
   ·by_cases h2:size>16384
    ·rw[zW h2,zh O];rfl
    ·rw[zh h2,zW O];rfl
 ·have g:kind≠0:=by simpa using z
  refine cU (λs=>u.rI rfl ?_) λs=>?_
  ·have d:kind=1:=by simpa using s
   unfold iX at a;rw[zA g,zB d]at a;exact a
  ·have d:kind≠1:=by simpa using s
   refine cU (λj=>?_) λj=>?_
   ·have i:kind=2:=by simpa using j
    unfold iX at a;rw[zA g,zA d,zB i]at a;exact a
   ·have i:kind≠2:=by simpa using j
    unfold iX at a;rw[zA g,zA d,zA i]at a;exact a
def KJ (H:Hw)(thread kind size align addr:Int):Int ⊕ (Nat×Ph):=
 if 0<=thread/\thread<(H.bQ.length:Int)then(match H.bQ[thread.toNat]? with
  | some g=>(if g.ph=none then(match iX H.tb kind size align addr with
   | some p=>.inr (thread.toNat,p)
   | none=>.inl 1)else .inl 5)
  | none=>.inl 1)else .inl 1
theorem RW (h:HH σ F L H)(hv:ly H.tb)(thread kind size align addr:Int){R:aN}(h0:∀e,KJ H thread kind size align addr=.inl e->e≠0->∀σ',Ext F σ σ'->HH σ' (Grow F σ) L H->R e σ')
 (h1:∀t p,KJ H thread kind size align addr=.inr (t,p)->thread=(t:Int)->t<H.bQ.length->∀σ',Ext F σ σ'->HH σ' (Grow F σ) L (eT H t (some p))->R 0 σ'):Yd.c (aW L.p) thread kind size align addr σ R:=by
 refine Yd.o ?_;unfold Yd.v;refine nw (cs:=[.int .i64 kind,.int .i64 size,.int .i64 align,.int .i64 addr]) λv y e d=>?_;have K1:=(HK.start h).box e y;refine Kx K1.h (cG rfl (IL K1.h thread ?_));by_cases hth:0<=thread/\thread<(H.bQ.length:Int)
 ·obtain⟨t,rfl⟩:∃t:Nat,thread=(t:Int):=⟨thread.toNat,O⟩;have j:t<H.bQ.length:=by omega
  obtain⟨x,g,m,i⟩:=h.th j;have a:KJ H (t:Int) kind size align addr=(if g.ph=none then(match iX H.tb kind size align addr with
   | some p=>.inr (t,p)
   | none=>.inl 1)else .inl 5):=by
   unfold KJ;rw[zB hth,dC,i]
  refine cG (by rw[zW hth];rfl) (aG (K1.h.hd.rS rfl (K1.h.tR m i ⟨xo _,?_⟩)));cases hp:g.ph with
  | some p=>
   rw[hp,zA aA]at a;exact cJ (by rw[Aa];rfl) (h0 5 a aB v K1.e (K1.fin h))
  | none=>
   rw[hp,zB rfl]at a;refine cG rfl (d.rI rfl (d.rI rfl (d.rI rfl (d.rI rfl (PO K1.h hv kind size align addr λv3 u=>⟨xo _,?_⟩)))));have K3:=K1.fr u;rw[Aa];cases hq:iX H.tb kind size align addr with
   | none=>
    rw[hq]at a;exact cJ rfl (h0 1 a aB v3 K3.e (K3.fin h))
   | some p=>
    rw[hq]at a;refine cG rfl (aG (K3.h.hd.rS rfl (K3.h.sF m i (some p) λs w z=>?_)));have K4:=K3.to w z λb _ d=>.inl d;have r:eT H t (some p) = {H with bQ:=H.bQ.set t {g with ph:=some p}}:=ZL i _;rw[←r]at K4;exact h1 t p a rfl j s K4.e (K4.fin h)
 ·have a:KJ H thread kind size align addr=.inl 1:=by unfold KJ;rw[zA hth]
  exact cJ (by rw[zh hth];rfl) (h0 1 a aB v K1.e (K1.fin h))
theorem OL {p:Option Ph}(ht:t<H.bQ.length):∃g,(eT H t p).bQ[t]?=some g/\g.ph=p:=
 ⟨{H.bQ[t]with ph:=p},by simp[eT,Hw.dZ,s8,cM ht],rfl⟩
theorem Jz (hso:H8)(h:HH σ F L H)(hv:ly H.tb)(thread kind size align addr:Int){R:Int->Int->Hp->Prop}(h0:∀e,KJ H thread kind size align addr=.inl e->e≠0->∀σ',Ext F σ σ'->HH σ' (Grow F σ) L H->R 0 e σ')
 (h1:∀t p,KJ H thread kind size align addr=.inr (t,p)->∃n H' a e,iO n (eT H t (some p)) t p H' a e/\∀σ' ts',Ext F σ σ'->HH σ' (Grow F σ) {L with ts:=ts'} H'->R a e σ'):X0.c (aW L.p) thread kind size align addr σ R:=by
 refine X0.o ?_;unfold X0.v;refine nw (cs:=[.int .i64 kind,.int .i64 size,.int .i64 align,.int .i64 addr]) λv hz e i=>i.rI rfl (i.rI rfl (i.rI rfl (i.rI rfl ?_)));have K1:=(HK.start h).box e hz;refine RW K1.h hv thread kind size align addr (λC he y v1 e1 u=>?_) λt p ad S ht v1 e1 u=>?_
 ·have K2:=K1.to e1 u λb _ i=>i;exact cJ (by simpa using y) (h0 C he y v1 K2.e (K2.fin h))
 ·subst S;have K2:=K1.to e1 u λb _ i=>i;obtain⟨n,Hf,a,C,d,D⟩:=h1 t p ad;refine cG rfl (T8 (λn w=>∃(B P:Rg) (ts:List eB) (H:Hw) (p:Ph),HK F σ B w P {L with ts:=ts} H/\(∃g,H.bQ[t]?=some g/\g.ph=some p)/\iO n H t p Hf a C) ⟨n,_,_,L.ts,_,p,K2,OL ht,d⟩ ?_);rintro n w ⟨B,P,ts,H2,j,K,⟨g,hg,U⟩,d⟩ J hJ;have go:uK H2 t j->((Wt H2 t j).2.1.isNone=true->(Wt H2 t j).2.2.1=a/\(Wt H2 t j).2.2.2=C/\QS H2 t j=Hf)->((Wt H2 t j).2.1.isNone=false->∃m M,m<n/\(Wt H2 t j).2.1=some M/\iO m (QS H2 t j) t M Hf a C)->Zb.c (aW L.p) (t:Int) w λt22 x G t223 v3=>Nw (.cells #[.int .i64 0,.int .i64 0] 156 (0,0)) v3 λr v4=>dG (r.add 0) (.int .i64 x) v4 λv5=>dG (r.add 1) (.int .i64 G) v5 λs=>If t22 (fJ .i64 (r.add 0) s λW=>fJ .i64 (r.add 1) s λac=>R W ac s) (J s):=by
   intro hok hd hn;refine RN hso K.h hg U hok λv3 z e3 X=>?_;have K3:=K.to e3 X λb _ i=>i;refine nw (cs:=[.int .i64 0,.int .i64 0]) λv4 Y e4 ab=>?_;have K4:=K3.box e4 Y;refine ab.s1 aA λv5 o5 b5=>b5.s1 aA λs o6 b6=>?_;have K6:=(K4.own o5 (.inr rfl)).own o6 (.inr rfl);refine cU (λZ=>?_) λV=>?_
   ·obtain⟨q1,q2,q3⟩:=hd Z;rw[q3]at K6;refine b6.rI rfl (b6.rI rfl ?_);rw[q1,q2];exact D s z K6.e (K6.fin h)
   ·obtain⟨m,M,hm,N,Q⟩:=hn V;have htl:t<H2.bQ.length:=(cQ.1 hg).1;obtain⟨g',aa,A⟩:=IG (p:=j) htl;exact hJ m s hm ⟨_,_,z,_,M,K6,⟨g',aa,by rw[A,N]⟩,Q⟩
  cases d with
  | done hok hnone=>exact go hok (λ_=>⟨rfl,rfl,rfl⟩) λE=>by rw[hnone]at E;cases E
  | next hok hsome hrun'=>exact go hok (λE=>by rw[hsome]at E;cases E) λ_=>⟨_,_,Nat.lt_succ_self _,hsome,hrun'⟩
end Go.Ar
namespace Go.Ar
open Go Go.Vc Go.Proofs
variable {σ u w w':Hp}{F B P Q:Rg}{n:Nat}{cs:List Value}{tb:List bW}{cf:Cf}
def Uf (tb:List bW)(cf:Cf):Hw:=⟨tb,cf,Vq cf.aF,List.replicate cf.iq (fH cf.aF cf.room tb),List.replicate cf.threads ⟨List.replicate tb.length iv,[],none⟩,[]⟩
def sf (p a t b r:Int):Bool:=decide (32<=p)&&decide (p<=1024)&&(p%16==0)&&decide (1<=a)&&decide (a<=4)&&decide (1<=t)&&decide (t<=4)&&decide (0<=b)&&decide (b<=65536)&&decide (0<=r)&&decide (r<=8)
theorem lvl {K:aO}{r:Bool}{a:Addr}{x:Int}{k:IntKind}{f:Int->Bool}(hl:∀{K':Int->Prop},K' x->fJ k a w K')(h:K (r&&f x) w):bY K λJ=>If r (fJ k a w λt=>J (f t) w) (J false w):=
 bY.intro (cU (λb=>hl (by rw[b]at h;exact h)) λb=>by rw[b]at h;exact h)
theorem Pz (p a t b r:Int){R:aO}(hR:∀σ',bO σ σ'->R (sf p a t b r) σ'):QB.c p a t b r σ R:=by
 refine QB.o ?_;unfold QB.v;refine nw (cs:=[.int .i64 p,.int .i64 a,.int .i64 t,.int .i64 b,.int .i64 r]) λv A e g=>g.rI rfl ?_;have i:=hR v e;unfold sf at i;refine UC (λm w=>w=v/\m=(decide (32<=p)&&decide (p<=1024))) (λm w ⟨x,u⟩=>?_) λJ j=>?_
 ·subst x;subst u;refine UC (λm z=>z=w/\m=(decide (32<=p)&&decide (p<=1024)&&(p%16==0))) (λm z ⟨x,u⟩=>?_) λJ j=>?_
  ·rw[x];subst u;exact lvl (λd=>g.rI rfl d) (lvl (λd=>g.rI rfl d) (lvl (λd=>g.rI rfl d) (lvl (λd=>g.rI rfl d) (lvl (λd=>g.rI rfl d) (lvl (λd=>g.rI rfl d) (lvl (λd=>g.rI rfl d) (lvl (λd=>g.rI rfl d) i)))))))
  ·refine cU (λs=>g.rI rfl (nz aB (j _ _ ⟨rfl,?_⟩))) λy=>j _ _ ⟨rfl,?_⟩
   ·simp only[zF,zT]at s;rw[Q9 O,zW s.1,zW s.2];rfl
   ·rw[y];rfl
 ·refine cI (λs=>g.rI rfl (j _ _ ⟨rfl,?_⟩)) λy=>j _ _ ⟨rfl,?_⟩
  ·rw[zW (by omega:32<=p)];rfl
  ·rw[zh O];rfl
structure p9 where
 p:Nat
 dD:Sl
 lm:Nat
 hs:Option Nat
 hp:Option Nat
 aw:Sl
 al:List Nat
 ha:Sl
 tw:Sl
 tl:List Value
 ht:Sl
 ys:List Lay
 cs:List gX
def ri (cf:Cf)(N:p9):List Value:=[.slice N.dD.a N.dD.len N.dD.cap,.int .i64 (cf.aF:Int),.int .i64 (cf.iq:Int),.int .i64 (cf.threads:Int),.int .i64 (cf.dB:Int),.int .i64 (cf.room:Int),
 .pointer (N.hp.map λq=>⟨q,0,none⟩),.slice N.ha.a N.ha.len N.ha.cap,.slice N.ht.a N.ht.len N.ht.cap,.map (some N.lm)]
def sy (n room:Nat)(tb:List bW)(y:Option Lay):Hp->Rg->Prop:=λσ F=>match y with
 | some Y=>cX σ F Y (fH n room tb) (cF (fH n room tb) Y)
 | none=>True
def sk (tb:List bW)(bud:Nat)(y:Option gX):Hp->Rg->Prop:=λσ F=>match y with
 | some Y=>eD σ F Y tb bud (List.replicate tb.length iv)
 | none=>True
def yi (n:Nat)(q:Option Nat):Hp->Rg->Prop:=λσ F=>match q with
 | some q=>dE σ F q (Vq n)
 | none=>True
def jA (tb:List bW)(cf:Cf)(N:p9):lh->Hp->Rg->Prop
 | .hd=>iF N.p (ri cf N)
 | .dD=>cR N.dD 3 (fZ tb)
 | .sp=>yi cf.aF N.hs
 | .fX=>bR N.aw 1 (eW N.al)
 | .cL=>bR N.tw 3 N.tl
 | .live=>jZ N.lm .i64 (.ag 4) []
 | .ar k=>sy cf.aF cf.room tb N.ys[k]?
 | .ca k=>sk tb cf.dB N.cs[k]?
 | .hn _=>λ_ _=>True
theorem sy.loc (n room:Nat)(tb:List bW)(y:Option Lay):dR (sy n room tb y):=by
 intro σ σ' F G h hz hs;cases y with
 | some Y=>exact cX.loc _ _ _ _ h hz hs
 | none=>trivial
theorem sk.loc (tb:List bW)(bud:Nat)(y:Option gX):dR (sk tb bud y):=by
 intro σ σ' F G h hz hs;cases y with
 | some Y=>exact eD.loc _ _ _ _ h hz hs
 | none=>trivial
theorem yi.loc (n:Nat)(q:Option Nat):dR (yi n q):=by
 intro σ σ' F G h hz hs;cases q with
 | some q=>exact dE.loc _ _ _ _ h hz hs
 | none=>trivial
theorem jA.loc {N:p9}:∀i,dR (jA tb cf N i)
 | .hd=>iF.loc _ _
 | .dD=>cR.loc _ _ _
 | .sp=>yi.loc _ _
 | .fX=>bR.loc _ _ _
 | .cL=>bR.loc _ _ _
 | .live=>jZ.loc _ _ _ _
 | .ar k=>sy.loc _ _ _ _
 | .ca k=>sk.loc _ _ _
 | .hn _=>λ_ _ _ _ _ _ _=>trivial
structure NK (σ:Hp) (B:Rg) (w:Hp) (P:Rg) (tb:List bW) (cf:Cf) (N:p9):Prop where
 sep:Sep (jA tb cf N) w P
 e:bO σ w
 p:∀b,P b->σ.size<=b/\¬B b/\b<w.size
 b:∀b,B b->σ.size<=b/\b<w.size
variable {N N':p9}
theorem NK.fr (K:NK σ B w P tb cf N)(e:bO w w'):NK σ B w' P tb cf N:=
 ⟨(Sep.loc jA.loc).bK K.sep e,K.e.trans e,λb a=>⟨(K.p b a).1,(K.p b a).2.1,by have:=(K.p b a).2.2;have:=e.1;omega⟩,λb a=>by have:=K.b b a;have:=e.1;omega⟩
theorem NK.box (K:NK σ B w P tb cf N)(e:bO w w')(hz:w'.size=w.size+1):NK σ (λb=>B b\/b=w.size) w' P tb cf N:=by
 have h:=K.fr e;have i:=K.e.1;exact⟨h.sep,h.e,λb a=>⟨(K.p b a).1,λd=>d.elim (K.p b a).2.1 λg=>by have:=(K.p b a).2.2;omega,(h.p b a).2.2⟩,λb a=>a.elim (h.b b) λg=>O⟩
theorem NK.drop (K:NK σ B w P tb cf N){B':Rg}(hb:∀b,B' b->B b):NK σ B' w P tb cf N:=⟨K.sep,K.e,λb h=>⟨(K.p b h).1,λa=>(K.p b h).2.1 (hb b a),(K.p b h).2.2⟩,λb h=>K.b b (hb b h)⟩
theorem NK.put (K:NK σ B w P tb cf N)(e:bO w w')(i:lh)(hj:∀j,j≠i->jA tb cf N' j=jA tb cf N j)(hi:jA tb cf N' i w' (λb=>w.size<=b)):NK σ B w' (λb=>P b\/w.size<=b/\b<w'.size) tb cf N':=by
 have h:=K.fr e;have m:=K.e.1;refine⟨h.sep.put jA.loc i (G:=λb=>w.size<=b/\b<w'.size) (λb a g=>by have:=(K.p b g).2.2;omega) hj ((jA.loc i).mono hi λb a d=>⟨d,a⟩) (jA.loc i),h.e,λb a=>?_,h.b⟩;rcases a with a|a
 ·exact h.p b a
 ·exact⟨O,λd=>by have:=(K.b b d).2;omega,a.2⟩
theorem NK.step (K:NK σ B w P tb cf N)(i:lh):∃G:Rg,(∀b,G b->P b)/\jA tb cf N i w G/\∀(w':Hp) (N':p9) (G':Rg),(∀j,j≠i->jA tb cf N' j=jA tb cf N j)->Ext G w w'->(∀b,G' b->G b\/w.size<=b/\¬B b)->jA tb cf N' i w' G'->(∀b,B b->b<w'.size) →
 NK σ B w' (λb=>(P b/\¬G b\/G' b)/\b<w'.size) tb cf N':=by
 obtain⟨G,m,s,_,g⟩:=K.sep.kh jA.loc i;refine⟨G,m,s,λw' N' G' y e r x u=>⟨?_,?_,λb a=>?_,λb a=>⟨(K.b b a).1,u b a⟩⟩⟩
 ·have:=g w' (jA tb cf N') G' y e (λb a=>(r b a).imp id λd=>d.1) x (jA.loc _);refine(Sep.loc jA.loc).mono this λb a d=>⟨?_,a⟩;exact d.imp (λd=>⟨d.1,d.2.2⟩) id
 ·exact Ext.fF K.e e λb a=>.inr (K.p b (m b a)).1
 ·have z:=K.e.1;rcases a.1 with h1|h1
  ·exact⟨(K.p b h1.1).1,(K.p b h1.1).2.1,a.2⟩
  ·rcases r b h1 with h2|h2
   ·exact⟨(K.p b (m b h2)).1,(K.p b (m b h2)).2.1,a.2⟩
   ·exact⟨O,h2.2,a.2⟩
theorem BY {K:eP [.p]}{body:eP [.p]->Prop}(P:Option Addr->Hp->Prop)(h1:∀r w,P r w->K r w)(h2:∀J:eP [.p],(∀r w,P r w->J r w)->body J):Jn [.p] K body:=Jn.intro (h2 K h1)
def gT:Sl:=⟨none,0,0⟩
def qe (cs:List gX):List Value:=cs.flatMap λc=>[.pointer (some ⟨c.p,0,none⟩),.slice none 0 0,.nilIface]
def N0 (p:Nat)(dD:Sl)(lm:Nat):p9:=⟨p,dD,lm,none,none,gT,[],gT,gT,[],gT,[],[]⟩
def NB (p:Nat)(dD:Sl)(lm q:Nat)(aw:Sl)(ys:List Lay)(tw:Sl)(cs:List gX):p9:=⟨p,dD,lm,some q,some q,aw,ys.map (·.p),aw,tw,qe cs,tw,ys,cs⟩
theorem JM {p lm:Nat}{dD:Sl}{D:Rg}(e:bO σ w)(hz:σ.size<w.size)(hp:bX w p (ri cf (N0 p dD lm)))(hm:dL w lm .i64 (.ag 4) [])(ht:cR dD 3 (fZ tb) w D)(hD:∀b,D b->σ.size<b/\b<w.size/\b≠p/\b≠lm)(hpl:p≠lm)(h1:σ.size<p)(h2:σ.size<lm) :
 NK σ (· = σ.size) w (λb=>D b\/b=p\/b=lm) tb cf (N0 p dD lm):=by
 have d:=hp.lt;have g:=hm.lt;refine⟨⟨λb=>if b=p then .hd else if b=lm then .live else .dD,λi=>?_⟩,e,λb a=>?_,λb a=>O⟩
 ·cases i with
  | hd=>exact⟨⟨.inr (.inl rfl),zB rfl⟩,hp⟩
  | live=>exact⟨⟨.inr (.inr rfl),by show(if lm=p then lh.hd else if lm=lm then lh.live else lh.dD)=.live;rw[zA (Ne.symm hpl),zB rfl]⟩,hm⟩
  | dD=>exact aH.mono ht λb _ a=>⟨.inl a,by show(if b=p then lh.hd else if b=lm then lh.live else lh.dD)=.dD;rw[zA (hD b a).2.2.1,zA (hD b a).2.2.2]⟩
  | sp=>trivial
  | fX=>exact bR.nil _ _ _ _
  | cL=>exact bR.nil _ _ _ _
  | ar k=>trivial
  | ca k=>trivial
  | hn k=>trivial
 ·rcases a with a|a|a
  ·have:=hD b a;omega
  ·omega
  ·omega
theorem NK.Ac (K:NK σ B w P tb cf N):P N.p/\bX w N.p (ri cf N):=by
 obtain⟨G,b,a⟩:=K.sep.get .hd;exact⟨b _ a.1,a.2⟩
theorem NK.oT (K:NK σ B w P tb cf N)(N':p9)(hN':∀j,j≠.hd->jA tb cf N' j=jA tb cf N j)(hp:N'.p=N.p){i:Nat}{v:Value}(hs:(ri cf N).set i v=ri cf N')(hi:i<10){Kk:aP}(hK:∀w' P',NK σ B w' P' tb cf N'->QC w w' N.p->Kk w'):dG (Addr.add ⟨N.p,0,none⟩ i) v w Kk:=by
 obtain⟨G,m,e,a⟩:=K.step .hd;have e:iF N.p (ri cf N) w G:=e;refine e.2.s1 (by simpa[ri]using hi) λw' o g=>hK w' _ (a w' N' G hN' (o.ext.sub λx d=>by rw[d];exact e.1) (λx d=>.inl d) ?_ λx d=>by have:=(K.b x d).2;have:=o.1;omega) o;show iF N'.p (ri cf N') w' G;rw[zG,hs]at g;rw[hp];exact⟨e.1,g⟩
theorem TW {Y:Lay}(h:N'.ys=N.ys++[Y])(hr:∀j,(∀k,j≠.ar k)->jA tb cf N' j=jA tb cf N j):∀j,j≠lh.ar N.ys.length->jA tb cf N' j=jA tb cf N j:=by
 intro j hj;cases j with
 | ar k=>
  have a:k≠N.ys.length:=λe=>hj (by rw[e]);show sy _ _ _ N'.ys[k]?=sy _ _ _ N.ys[k]?;rw[h]
  congr 1
  rcases Nat.lt_or_gt_of_ne a with h1|h1
  ·rw[zd h1]
  ·rw[zY aE,zY O]
 | _=>exact hr _ (λk e=>by cases e)
theorem Nk {Y:gX}(h:N'.cs=N.cs++[Y])(hr:∀j,(∀k,j≠.ca k)->jA tb cf N' j=jA tb cf N j):∀j,j≠lh.ca N.cs.length->jA tb cf N' j=jA tb cf N j:=by
 intro j hj;cases j with
 | ca k=>
  have a:k≠N.cs.length:=λe=>hj (by rw[e]);show sk _ _ N'.cs[k]?=sk _ _ N.cs[k]?;rw[h]
  congr 1
  rcases Nat.lt_or_gt_of_ne a with h1|h1
  ·rw[zd h1]
  ·rw[zY aE,zY O]
 | _=>exact hr _ (λk e=>by cases e)
end Go.Ar
namespace Go.Ar
open Go Go.Vc Go.Proofs
variable {σ u w w':Hp}{F B P Q:Rg}{n:Nat}{cs:List Value}{tb:List bW}{cf:Cf}{N:p9}
theorem Lm (p a t b r:Int):sf p a t b r=true↔(32<=p/\p<=1024/\p%16=0)/\(1<=a/\a<=4)/\(1<=t/\t<=4)/\(0<=b/\b<=65536)/\0<=r/\r<=8:=by
 simp only[sf,zF,zT,zZ];omega
theorem CT (g:Gl σ)(gd:Gd σ):iW (λb=>σ.size<=b)/\¬(σ.size<=1):=by
 refine⟨?_,λh=>by have:=DM gd;omega⟩;have d:iW (λ_=>False):=λb a=>a.elim;exact(d.grow g).sub λb a=>.inr a
theorem ο (cs:List gX)(ls:List Li):gY (cs.map λc=>⟨c,gT⟩) (List.replicate cs.length ⟨ls,[],none⟩)=qe cs:=by
 induction cs with
 | nil=>rfl
 | cons c cs ih=>
  have a:gY ((c::cs).map λc=>(⟨c,gT⟩:eB)) (List.replicate (c::cs).length ⟨ls,[],none⟩)=jM (⟨c,gT⟩,⟨ls,[],none⟩)++gY (cs.map λc=>(⟨c,gT⟩:eB)) (List.replicate cs.length ⟨ls,[],none⟩):=rfl;rw[a,ih];rfl
theorem LJ (cs:List gX):(qe cs).length=cs.length*3:=by
 induction cs with
 | nil=>rfl
 | cons c cs ih=>simp only[qe,mS,zK,zP,ma]at *;omega
set_option maxRecDepth 8000 in
theorem DP {s:Sl}{xs:List (Int×Int×Int)}(ha:gH σ s xs)(g:Gl σ)(gd:Gd σ)(p a t b r:Int){R:Option Addr->Int->Hp->Prop}
 (h2:Qi xs=false->∀σ',bO σ σ'->R none 2 σ')
 (h1:Qi xs=true->sf p a t b r=false->∀σ',bO σ σ'->R none 1 σ')
 (h0:Qi xs=true->sf p a t b r=true->∀σ' L,bO σ σ'->HH σ' (λq=>σ.size<=q) L (Uf (xs.map ZW) ⟨p.toNat,a.toNat,t.toNat,b.toNat,r.toNat⟩)->R (some ⟨L.p,0,none⟩) 0 σ') :
 Kw.c s p a t b r σ R:=by
 refine Kw.o ?_;unfold Kw.v;refine nw (cs:=[.int .i64 p,.int .i64 a,.int .i64 t,.int .i64 b,.int .i64 r]) λv hz e y=>?_;refine HL (YN ha e) λv1 e1=>?_;cases hv:Qi xs with
 | false=>exact cJ rfl (h2 hv v1 (e.trans e1))
 | true=>
 have V:=e1.bZ y id;refine cG rfl (V.rI rfl (V.rI rfl (V.rI rfl (V.rI rfl (V.rI rfl (Pz p a t b r λv2 e2=>?_))))));have X:=(e.trans e1).trans e2;cases hc:sf p a t b r with
 | false=>exact cJ rfl (h1 hv hc v2 X)
 | true=>
 have hcf:=(Lm p a t b r).1 hc;obtain⟨p,rfl⟩:∃n:Nat,p=(n:Int):=⟨p.toNat,O⟩;obtain⟨a,rfl⟩:∃n:Nat,a=(n:Int):=⟨a.toNat,O⟩;obtain⟨t,rfl⟩:∃n:Nat,t=(n:Int):=⟨t.toNat,O⟩;obtain⟨b,rfl⟩:∃n:Nat,b=(n:Int):=⟨b.toNat,O⟩;obtain⟨r,rfl⟩:∃n:Nat,r=(n:Int):=⟨r.toNat,O⟩;simp only[dC]at h0;have h0:=h0 hv hc;have A:=e2.bZ V id;have hxl:=(Qr xs).1 hv;have hz2:=X.1;have hz02:σ.size<v2.size:=A.lt;generalize hcfd:(⟨p,a,t,b,r⟩:Cf)=cf at h0;generalize htbd:xs.map ZW=tb at h0;have hdE:∀(q:Nat) (dD:Sl) (C:Nat),ri cf (N0 q dD C)=[.slice dD.a dD.len dD.cap,.int .i64 (p:Int),.int .i64 (a:Int),.int .i64 (t:Int),.int .i64 (b:Int),.int .i64 (r:Int),.pointer none,.slice none 0 0,.slice none 0 0,.map (some C)]:=λq dD C=>by rw[←hcfd];rfl
 refine cG rfl (BY (λvh w=>∃P q dD C,vh=some ⟨q,0,none⟩/\NK σ (· = σ.size) w P tb cf (N0 q dD C)/\bX w σ.size [.int .i64 (p:Int),.int .i64 (a:Int),.int .i64 (t:Int),.int .i64 (b:Int),.int .i64 (r:Int)]) (λvh w ⟨P,q,dD,C,hvh,K,hbw⟩=>?_) λJ hJ=>?_)
 ·subst hvh;refine hbw.rI rfl (Tt (n:=p) O O λv4 sp e4 _ hS=>?_);have hp:cf.aF=p:=by rw[←hcfd]
  have hroom:cf.room=r:=by rw[←hcfd]
  have hbud:cf.dB=b:=by rw[←hcfd]
  have K1:NK σ (· = σ.size) v4 _ tb cf {N0 q dD C with hs:=some sp}:=K.put e4 .sp (λj M=>by cases j<;>first|rfl|exact absurd rfl M) (by
   show dE v4 _ sp (Vq cf.aF);rw[hp];exact hS)
  have hbw4:=e4.bZ hbw id;refine aG (K1.oT (NB q dD C sp gT [] gT []) (λj M=>by cases j<;>first|rfl|exact absurd rfl M) rfl (i:=6) rfl O λv5 P5 K5 o5=>?_)
  have af:∀{w:Hp} {P:Rg} {N:p9},NK σ (· = σ.size) w P tb cf N->σ.size≠N.p:=λK e=>(K.p _ K.Ac.1).2.1 e.symm;have hbw5:=Ws o5 hbw4 (af K1);refine hbw5.rI rfl ?_;refine ZU (a:=bN) (λ(z:Int) w=>∃(P:Rg) (aw:Sl) (ys:List Lay),z=(ys.length:Int)/\ys.length<=a/\(∀Y∈ys,Y.hs=sp)/\NK σ (· = σ.size) w P tb cf (NB q dD C sp aw ys gT [])/\bX w σ.size [.int .i64 (p:Int),.int .i64 (a:Int),.int .i64 (t:Int),.int .i64 (b:Int),.int .i64 (r:Int)]) (λz _=>a-z.toNat) ⟨P5,gT,[],rfl,by simp,by simp,K5,hbw5⟩ ?_;rintro(z:Int) w6 ⟨P6,aw,ys,rfl,hyl,hys,K6,hbw6⟩;refine cI (λhlt=>?_) λhge=>?_
  ·refine⟨λu=>u=w6,rfl,aG ⟨some ⟨sp,0,none⟩,λu hu=>by cases hu;rw[add_lit];exact(bX.cell (b:=q) K6.Ac.2).trans rfl,⟨(r:Int),λu hu=>by cases hu;rw[add_lit,hbw6.cell];rfl,?_⟩⟩⟩;obtain⟨GS,hGS,hSp⟩:=K6.sep.get .sp;have hSp:dE w6 GS sp (Vq cf.aF):=hSp;have hnl:(Vq cf.aF).st.length=p:=by rw[hp];simp[Vq]
   have hnE:lF xs (Vq cf.aF).st.length (r:Int)=0:=by
    unfold lF;rw[zB hv,hnl,zB O]
   refine WnO (YN ha K6.e) hSp (r:Int) (λhne=>absurd hnE hne) λ_ v7 Y e7 hYh hA=>?_;rw[hnl,dC,htbd]at hA;have K7:NK σ (· = σ.size) v7 _ tb cf {NB q dD C sp aw ys gT []with ys:=ys++[Y]}:=K6.put e7 (.ar ys.length) (TW (N:=NB q dD C sp aw ys gT []) rfl (λj M=>by
    cases j with
    | ar k=>exact absurd rfl (M k)
    | _=>rfl)) (by
    show sy cf.aF cf.room tb (ys++[Y])[ys.length]? v7 _;rw[zo (zD _),pA,hp,hroom];exact hA)
   have Q:=e7.bZ hbw6 id;refine aG (K7.Ac.2.rS (a:=aw.a) (n:=aw.len) (c:=aw.cap) rfl (nw (cs:=[.pointer (some ⟨Y.p,0,none⟩)]) λv8 hz8 e8 hb8=>?_));have K8:=K7.box e8 hz8;obtain⟨G,hG,d,ac⟩:=K8.step .fX;have d:bR aw 1 (eW (ys.map (·.p))) v8 G:=d;have hal:aw.len=ys.length:=by have:=d.1;simp[eW]at this;omega
   refine d.app (ys:=[.pointer (some ⟨Y.p,0,none⟩)]) rfl rfl ?_ (by simp[dN]) ?_ ?_ nA λs' v9 _ e9 hr9=>?_
   ·intro j u hu;rw[add_lit,zG,hb8.cell];exact hu
   ·simp only;omega
   ·simp only;omega
   have hz9:=e9.1;have hbw9:bX v9 σ.size _:=e9.bZ (e8.bZ Q id) λE=>(K8.p _ (hG _ E)).2.1 (.inl rfl);have K9:=(ac v9 {NB q dD C sp aw ys gT []with ys:=ys++[Y],aw:=s',al:=(ys++[Y]).map (·.p)} (λb=>Grow G v8 b/\b<v9.size) (λj M=>by cases j<;>first|rfl|exact absurd rfl M) e9 (λb y=>y.1.imp id λE=>⟨E,λhB=>by have:=(K8.b b hB).2;omega⟩) (by
    show bR s' 1 (eW ((ys++[Y]).map (·.p))) v9 _;have:eW ((ys++[Y]).map (·.p))=eW (ys.map (·.p))++[.pointer (some ⟨Y.p,0,none⟩)]:=by simp[eW]
    rw[this];exact aI.mono hr9 λb y E=>⟨E,y⟩) λb hB=>by have:=(K8.b b hB).2;omega).drop (B':=(· = σ.size)) λb y=>.inl y
   refine aG (K9.oT (NB q dD C sp s' (ys++[Y]) gT []) (λj M=>by cases j<;>first|rfl|exact absurd rfl M) rfl (i:=7) rfl O λai P10 K10 fV=>?_)
   have H:=Ws fV hbw9 (af K9);exact cA (m:=ys.length+1) O O ⟨⟨P10,s',ys++[Y],by simp,by simp;omega,λZ hZ=>(zR.1 hZ).elim (hys Z) λh=>by
    rw[zV]at h;rw[h];exact hYh,K10,H⟩,O⟩
  ·have hya:ys.length=a:=by omega
   refine hbw6.rI rfl ?_;refine ZU (a:=bN) (λ(z:Int) w=>∃(P:Rg) (tw:Sl) (cs:List gX),z=(cs.length:Int)/\cs.length<=t/\NK σ (· = σ.size) w P tb cf (NB q dD C sp aw ys tw cs)/\bX w σ.size [.int .i64 (p:Int),.int .i64 (a:Int),.int .i64 (t:Int),.int .i64 (b:Int),.int .i64 (r:Int)]) (λz _=>t-z.toNat) ⟨P6,gT,[],rfl,by simp,K6,hbw6⟩ ?_;rintro(z:Int) w7 ⟨P7,tw,cs,rfl,hcsl,K7,Q⟩;refine cI (λhlt=>?_) λhge2=>?_
   ·refine Q.rI rfl (TG (YN ha K7.e) (b:Int) (λhvf=>by rw[hv]at hvf;cases hvf) (λ_ hn=>absurd ⟨O,O⟩ hn) λ_ _ _ v8 Y e8 hC=>?_);rw[dC,htbd]at hC;have K8:NK σ (· = σ.size) v8 _ tb cf {NB q dD C sp aw ys tw cs with cs:=cs++[Y]}:=K7.put e8 (.ca cs.length) (Nk (N:=NB q dD C sp aw ys tw cs) rfl (λj M=>by
     cases j with
     | ca k=>exact absurd rfl (M k)
     | _=>rfl)) (by
     show sk tb cf.dB (cs++[Y])[cs.length]? v8 _;rw[zo (zD _),pA,hbud];exact hC)
    have hbw8:=e8.bZ Q id;refine aG (K8.Ac.2.rS (a:=tw.a) (n:=tw.len) (c:=tw.cap) rfl (nw (cs:=[.pointer (some ⟨Y.p,0,none⟩),.slice none 0 0,.nilIface]) λv9 hz9 e9 hb9=>?_));have K9:=K8.box e9 hz9;obtain⟨G,hG,d,ac⟩:=K9.step .cL;have d:bR tw 3 (qe cs) v9 G:=d;have hal:tw.len=cs.length:=by have:=d.1;rw[LJ]at this;omega
    refine d.app (ys:=[.pointer (some ⟨Y.p,0,none⟩),.slice none 0 0,.nilIface]) rfl rfl ?_ (by simp[dN]) ?_ ?_ nA λs' ai _ e10 hr10=>?_
    ·intro j u hu;rw[add_lit,zG,hb9.cell];exact hu
    ·simp only;omega
    ·simp only;omega
    have hz10:=e10.1;have H:bX ai σ.size _:=e10.bZ (e9.bZ hbw8 id) λE=>(K9.p _ (hG _ E)).2.1 (.inl rfl);have K10:=(ac ai {NB q dD C sp aw ys tw cs with cs:=cs++[Y],tw:=s',tl:=qe (cs++[Y])} (λb=>Grow G v9 b/\b<ai.size) (λj M=>by cases j<;>first|rfl|exact absurd rfl M) e10 (λb y=>y.1.imp id λE=>⟨E,λhB=>by have:=(K9.b b hB).2;omega⟩) (by
     show bR s' 3 (qe (cs++[Y])) ai _;have:qe (cs++[Y])=qe cs++[.pointer (some ⟨Y.p,0,none⟩),.slice none 0 0,.nilIface]:=by simp[qe]
     rw[this];exact aI.mono hr10 λb y E=>⟨E,y⟩) λb hB=>by have:=(K9.b b hB).2;omega).drop (B':=(· = σ.size)) λb y=>.inl y
    refine aG (K10.oT (NB q dD C sp aw ys s' (cs++[Y])) (λj M=>by cases j<;>first|rfl|exact absurd rfl M) rfl (i:=8) rfl O λv11 P11 K11 o11=>?_)
    have hbw11:=Ws o11 H (af K10);exact cA (m:=cs.length+1) O O ⟨⟨P11,s',cs++[Y],by simp,by simp;omega,K11,hbw11⟩,O⟩
   ·have hct:cs.length=t:=by omega
    have U:cf.threads=cs.length:=by rw[←hcfd,hct]
    have aj:cf.iq=ys.length:=by rw[←hcfd,hya]
    have hN:=CT g gd;refine h0 w7 ⟨q,sp,C,dD,aw,tw,ys,cs.map λc=>⟨c,gT⟩⟩ K7.e ⟨⟨?_,hys,?_,?_,?_,?_,?_,?_⟩,?_,g.bK K7.e,gd.bK K7.e,hN.1,hN.2⟩
    ·simp[Uf,aj]
    ·simp[Uf,U]
    ·simp[Uf,aj];omega
    ·simp[Uf,aj];omega
    ·simp[Uf,U];omega
    ·simp[Uf,U];omega
    ·intro B hB;have:=Dz hB;rw[this];rfl
    ·refine(Sep.loc CH.loc).mono (G:=λq=>σ.size<=q) ?_ λb _ y=>y;obtain⟨ρ,hs⟩:=(Sep.loc jA.loc).mono K7.sep (G:=λq=>σ.size<=q) λb _ y=>(K7.p b y).1;refine⟨ρ,λi=>?_⟩;have S:=hs i;cases i with
     | hd=>exact S
     | dD=>exact S
     | sp=>exact S
     | fX=>exact bR.gp S
     | cL=>
      show bR tw 3 (gY (cs.map λc=>⟨c,gT⟩) (List.replicate cf.threads ⟨List.replicate tb.length iv,[],none⟩)) w7 _;rw[U,ο];exact S
     | live=>exact S
     | ar k=>
      show oL ys[k]? (List.replicate cf.iq (fH cf.aF cf.room tb))[k]? w7 _;have S:sy cf.aF cf.room tb ys[k]? w7 _:=S;unfold oL;by_cases hk:k<ys.length
      ·rw[nk,zB O,cM hk];rw[cM hk]at S;exact S
      ·rw[zY O];trivial
     | ca k=>
      show qf (cs.map λc=>(⟨c,gT⟩:eB))[k]? (List.replicate cf.threads (⟨List.replicate tb.length iv,[],none⟩:Th))[k]? tb cf.dB w7 _;have S:sk tb cf.dB cs[k]? w7 _:=S;unfold qf;by_cases hk:k<cs.length
      ·rw[nk,zB O,ze,cM hk];rw[cM hk]at S;exact S
      ·rw[ze,zY O];trivial
     | hn k=>
      show pf (cs.map λc=>(⟨c,gT⟩:eB))[k]? (List.replicate cf.threads (⟨List.replicate tb.length iv,[],none⟩:Th))[k]? w7 _;unfold pf;by_cases hk:k<cs.length
      ·rw[nk,zB O,ze,cM hk];exact ik.nil _ _ _
      ·rw[ze,zY O];trivial
 ·have rd:∀(i:Nat) (x:Int),[Value.int .i64 (p:Int),.int .i64 (a:Int),.int .i64 (t:Int),.int .i64 (b:Int),.int .i64 (r:Int)][i]?=some (.int .i64 x)->∀m,bX m σ.size [.int .i64 (p:Int),.int .i64 (a:Int),.int .i64 (t:Int),.int .i64 (b:Int),.int .i64 (r:Int)]->cell m (Addr.add ⟨σ.size,0,none⟩ i)=some (.int .i64 x):=λi x E m hm=>by
   rw[add_lit,hm.cell,zG];exact E
  refine⟨λm=>bX m σ.size [.int .i64 (p:Int),.int .i64 (a:Int),.int .i64 (t:Int),.int .i64 (b:Int),.int .i64 (r:Int)],A,⟨(p:Int),rd 0 _ rfl,⟨(a:Int),rd 1 _ rfl,⟨(t:Int),rd 2 _ rfl,⟨(b:Int),rd 3 _ rfl,⟨(r:Int),rd 4 _ rfl,⟨?_,?_⟩⟩⟩⟩⟩⟩⟩
  ·refine VZ (YN ha X) hv λdD v16 W F=>⟨W.bZ A id,tz λv17 z17 ae hm=>⟨ae.bZ (W.bZ A id) id,?_⟩⟩;rw[htbd]at F;have hz16:=W.1;refine nw (cs:=[.slice dD.a dD.len dD.cap,.int .i64 (p:Int),.int .i64 (a:Int),.int .i64 (t:Int),.int .i64 (b:Int),.int .i64 (r:Int),.pointer none,.slice none 0 0,.slice none 0 0,.map (some v16.size)]) λv18 z18 ah hb18=>⟨ah.bZ (ae.bZ (W.bZ A id) id) id,hJ _ _ ⟨_,v17.size,dD,v16.size,rfl,JM (D:=λq=>v2.size<=q/\q<v16.size) (((X.trans W).trans ae).trans ah) O (by rw[hdE];exact hb18) (ah.gL (hm .i64 (.ag 4)) id) ?_ (λb y=>O) O O O,ah.bZ (ae.bZ (W.bZ A id) id) id⟩⟩;exact aH.bK (aH.bK (aH.mono F (G:=λq=>v2.size<=q/\q<v16.size) λb y E=>⟨E,y⟩) ae) ah
  ·refine tz λv19 z19 aa hm=>⟨aa.bZ A id,VZ (YN ha (X.trans aa)) hv λdD v20 ab F=>⟨ab.bZ (aa.bZ A id) id,?_⟩⟩;rw[htbd]at F;have hz20:=ab.1;refine nw (cs:=[.slice dD.a dD.len dD.cap,.int .i64 (p:Int),.int .i64 (a:Int),.int .i64 (t:Int),.int .i64 (b:Int),.int .i64 (r:Int),.pointer none,.slice none 0 0,.slice none 0 0,.map (some v2.size)]) λv21 z21 ad hb21=>⟨ad.bZ (ab.bZ (aa.bZ A id) id) id,hJ _ _ ⟨_,v20.size,dD,v2.size,rfl,JM (D:=λq=>v19.size<=q/\q<v20.size) (((X.trans aa).trans ab).trans ad) O (by rw[hdE];exact hb21) (ad.gL (ab.gL (hm .i64 (.ag 4)) id) id) ?_ (λb y=>O) O O O,ad.bZ (ab.bZ (aa.bZ A id) id) id⟩⟩;exact aH.bK (aH.mono F (G:=λq=>v19.size<=q/\q<v20.size) λb y E=>⟨E,y⟩) ad
end Go.Ar
namespace Go.Ar
open Go Go.Vc Go.Proofs
variable {σ u w w':Hp}{F B P Q:Rg}{L:dS}{H:Hw}{t:Nat}{g:Th}
def mw (H:Hw):Prop:=1<=H.cf.aF/\H.cf.threads=H.bQ.length/\ly H.tb
end Go.Ar
namespace Go.Ar
open Go Go.Vc Go.Proofs
open Go.Bu (gE)
variable {σ u w w':Hp}{F B P Q:Rg}{L:dS}{H H':Hw}{t:Nat}{g:Th}
def U1 (H:Hw)(thread kind size align addr:Int)(H':Hw)(a e:Int):Prop:=
 (KJ H thread kind size align addr=.inl e/\e≠0/\H'=H/\a=0)\/∃t p n,KJ H thread kind size align addr=.inr (t,p)/\iO n (eT H t (some p)) t p H' a e
theorem Ch (hso:H8)(h:HH σ F L H)(hv:ly H.tb){thread kind size align addr:Int}{a e:Int}(hw:U1 H thread kind size align addr H' a e){R:Int->Int->Hp->Prop}
 (hR:∀σ' ts',Ext F σ σ'->HH σ' (Grow F σ) {L with ts:=ts'} H'->R a e σ'):X0.c (aW L.p) thread kind size align addr σ R:=by
 rcases hw with⟨hs,hne,rfl,rfl⟩|⟨t,p,n,hs,hr⟩
 ·exact Jz hso h hv thread kind size align addr (λd b _ σ' g i=>by
   rw[hs]at b;cases b;exact hR σ' L.ts g i) λt p b=>by rw[hs]at b;cases b
 ·exact Jz hso h hv thread kind size align addr (λd b=>by rw[hs]at b;cases b) λm j b=>by
   rw[hs]at b;cases b;exact⟨n,H',a,e,hr,hR⟩
theorem SL (hso:H8)(h:HH σ F L H)(hv:ly H.tb){thread size align:Int}{a e:Int}(hw:U1 H thread 0 size align 0 H' a e){R:Int->Int->Hp->Prop}
 (hR:∀σ' ts',Ext F σ σ'->HH σ' (Grow F σ) {L with ts:=ts'} H'->R a e σ'):Yh.c (aW L.p) thread size align σ R:=by
 refine Yh.o ?_;unfold Yh.v;exact Ch hso h hv hw hR
theorem RU (hso:H8)(h:HH σ F L H)(hv:ly H.tb){thread addr:Int}{a e:Int}(hw:U1 H thread 1 0 0 addr H' a e){R:aN}
 (hR:∀σ' ts',Ext F σ σ'->HH σ' (Grow F σ) {L with ts:=ts'} H'->R e σ'):Zr.c (aW L.p) thread addr σ R:=by
 refine Zr.o ?_;unfold Zr.v;exact Ch hso h hv hw hR
theorem Η (hso:H8)(h:HH σ F L H)(hv:ly H.tb){thread:Int}{a e:Int}(hw:U1 H thread 2 0 0 0 H' a e){R:aN}
 (hR:∀σ' ts',Ext F σ σ'->HH σ' (Grow F σ) {L with ts:=ts'} H'->R e σ'):Zl.c (aW L.p) thread σ R:=by
 refine Zl.o ?_;unfold Zl.v;exact Ch hso h hv hw hR
def Z8 (H' H:Hw):Prop:=H'.tb=H.tb/\H'.cf=H.cf/\H'.bQ.length=H.bQ.length/\H'.bT.length=H.bT.length
theorem Z8.refl (H:Hw):Z8 H H:=⟨rfl,rfl,rfl,rfl⟩
theorem Z8.trans {H1 H2 H3:Hw}(a:Z8 H2 H1)(b:Z8 H3 H2):Z8 H3 H1:=⟨b.1.trans a.1,b.2.1.trans a.2.1,b.2.2.1.trans a.2.2.1,b.2.2.2.trans a.2.2.2⟩
theorem KK (H:Hw)(t:Nat)(f:Th->Th):Z8 (H.dZ t f) H:=⟨rfl,rfl,by simp[Hw.dZ],rfl⟩
theorem Z9 (H:Hw)(k:Nat)(A:AR)(sp:Sp):Z8 {H.cB k A with sp:=sp} H:=⟨rfl,rfl,rfl,by simp[Hw.cB]⟩
theorem N9 (H:Hw)(k:Nat)(part:Nat->List Int)(j:Nat):Z8 (Vp H k part (List.range j)) H:=by
 induction j with
 | zero=>exact Z8.refl H
 | succ j ih=>
  rw[Vg];split
  ·split
   ·exact ih
   ·exact ih.trans (Z9 _ _ _ _)
  ·exact ih
theorem η (H:Hw)(own k:Nat)(xs:List Int):Z8 (HU H own k xs) H:=by
 unfold HU;split
 ·split
  ·exact Z9 _ _ _ H.sp
  ·refine Z8.trans ?_ (N9 _ _ _ _);split
   ·exact Z9 _ _ _ H.sp
   ·exact Z8.refl H
 ·exact Z8.refl H
theorem Rt (H:Hw)(t k:Nat)(x:Int):Z8 (iE H t k x) H:=by
 unfold iE;simp only;split<;>split<;>exact⟨rfl,rfl,by simp[Hw.dZ,QP],rfl⟩
theorem Ol (H:Hw)(t:Nat)(p:Ph):Z8 (Wt H t p).1 H:=by
 cases p with
 | take k=>simp only[Wt];split<;>exact⟨rfl,rfl,by simp[VI,QP,Hw.dZ,Hw.cB],by simp[VI,QP,Hw.dZ,Hw.cB]⟩
 | cN k w=>
  simp only[Wt];split
  ·split
   ·exact(Z9 _ _ _ H.sp).trans (KK _ _ _)
   ·exact Z8.refl H
  ·exact Z8.refl H
 | cO k w=>
  simp only[Wt];split
  ·exact Z9 _ _ _ H.sp
  ·exact(Z9 _ _ _ H.sp).trans (KK _ _ _)
 | grow k w=>simp only[Wt];split<;>exact Z9 _ _ _ _
 | fill=>
  simp only[Wt];split
  ·exact⟨rfl,rfl,by simp[VI,QP,Hw.dZ,Hw.cB],by simp[VI,QP,Hw.dZ,Hw.cB]⟩
  ·exact Z8.refl H
 | eV m=>simp only[Wt];split<;>exact⟨rfl,rfl,by simp[VI,QP,Hw.dZ,Hw.cB],by simp[VI,QP,Hw.dZ,Hw.cB]⟩
 | find x=>
  simp only[Wt,UY];split
  ·exact Z8.refl H
  ·split
   ·exact⟨rfl,rfl,rfl,rfl⟩
   ·exact Z8.trans (H2:={H with live:=Go.Vc.cT H.live x}) ⟨rfl,rfl,rfl,rfl⟩ (KK _ _ _)
 | put k x=>exact Rt H t k x
 | back=>
  simp only[Wt];split
  ·exact(KK _ _ _).trans (η _ _ _ _)
  ·exact Z8.refl H
 | dJ s a=>
  simp only[Wt];split
  ·exact Z9 _ _ _ H.sp
  ·exact Z8.refl H
 | drain=>exact KK _ _ _
theorem HY (H:Hw)(t:Nat)(p:Ph):Z8 (QS H t p) H:=(Ol H t p).trans (KK _ _ _)
theorem Fc {n:Nat}{H H':Hw}{t:Nat}{p:Ph}{a e:Int}(h:iO n H t p H' a e):Z8 H' H:=by
 induction h with
 | done=>exact HY _ _ _
 | next _ _ _ ih=>exact(HY _ _ _).trans ih
theorem mw.bU (h:mw H)(k:Z8 H' H):mw H':=⟨by rw[k.2.1];exact h.1,by rw[k.2.1,k.2.2.1];exact h.2.1,by rw[k.1];exact h.2.2⟩
end Go.Ar
namespace Go.Ar
variable {c:bW}{ss:List cH}
structure dI (c:bW) (ss:List cH):Prop where
 ok:c.ok
 tk:∀s∈ss,s.tk.length=c.n
 sD:ss.Pairwise λa b=>a.st+c.aF<=b.st
def Tk (c:bW)(ss:List cH)(x:Int):Prop:=eI c ss x=some true
def sC (c:bW)(ss:List cH)(p:Nat):Prop:=∃s∈ss,s.st<=p/\p<s.st+c.aF
theorem dI.pos (h:dI c ss):0<c.size:=by have:=h.ok;unfold bW.ok at this;omega
theorem dI.pg (h:dI c ss):1<=c.aF:=by have:=h.ok;unfold bW.ok at this;omega
theorem dI.pO (h:dI c ss):ss.Pairwise λa b=>a.st<b.st:=h.sD.imp λ{a b} d=>by have:=h.pg;omega
theorem dI.sR (h:dI c ss){i j:Nat}{s t:cH}(hi:ss[i]?=some s)(hj:ss[j]?=some t)(hij:i<j):s.st+c.aF<=t.st:=by
 obtain⟨b,rfl⟩:=cQ.1 hi;obtain⟨a,rfl⟩:=cQ.1 hj;exact kj.1 h.sD i j b a hij
theorem dI.vU (h:dI c ss){i j:Nat}{s t:cH}{p:Nat}(hi:ss[i]?=some s)(hj:ss[j]?=some t)(h1:s.st<=p)(h2:p<s.st+c.aF)(h3:t.st<=p)(h4:p<t.st+c.aF):i=j:=by
 rcases qx i j with hl|hl|hl
 ·have:=h.sR hi hj hl;omega
 ·exact hl
 ·have:=h.sR hj hi hl;omega
theorem Lh (hp:0<c.size){s:cH}{i:Nat}(hi:i<c.n):s.st*256<=at_ c s i/\at_ c s i+c.size<=(s.st+c.aF)*256:=by
 have b:=bW.rK c;have a:(i+1)*c.size<=c.n*c.size:=lN _ hi;unfold at_;rw[zl]at a;omega
theorem Gr (hp:0<c.size){s:cH}{i x:Nat}(hi:i<c.n)(h1:at_ c s i<=x)(h2:x<at_ c s i+c.size):s.st<=x/256/\x/256<s.st+c.aF:=by
 have:=Lh hp (s:=s) hi;omega
theorem Uw (h:dI c ss){k l:Nat}{s t:cH}{i j x:Nat}(hk:ss[k]?=some s)(hl:ss[l]?=some t)(hi:i<c.n)(hj:j<c.n)(h1:at_ c s i<=x)(h2:x<at_ c s i+c.size)(h3:at_ c t j<=x)(h4:x<at_ c t j+c.size):k=l/\s=t/\i=j:=by
 have a:=Gr h.pos hi h1 h2;have b:=Gr h.pos hj h3 h4;have e:=h.vU hk hl a.1 a.2 b.1 b.2;subst e;rw[hk]at hl;cases hl;refine⟨rfl,rfl,?_⟩;unfold at_ at *;have d:=h.pos;rcases qx i j with hl|hl|hl
 ·have:(i+1)*c.size<=j*c.size:=lN _ hl;rw[zl]at this;omega
 ·exact hl
 ·have:(j+1)*c.size<=i*c.size:=lN _ hl;rw[zl]at this;omega
theorem CM (h:dI c ss){s:cH}(hs:s∈ss){x:Int}{i:Nat}(hi:idx c s x=some i):i<c.n/\((s.st*256:Nat):Int)<=x/\x<(((s.st+c.aF)*256:Nat):Int)/\((at_ c s i:Nat):Int)<=x/\x<((at_ c s i+c.size:Nat):Int):=by
 obtain⟨d,b,a⟩:=(V1 h.pos).1 hi;rw[h.tk s hs]at a;have:=Lh h.pos (s:=s) a;have e:at_ c s (i+1)=at_ c s i+c.size:=by unfold at_;rw[zl];omega
 rw[e]at b;omega
theorem FX (h:dI c ss){k:Nat}{s:cH}{x:Int}{i:Nat}(hs:ss[k]?=some s)(hi:idx c s x=some i):lj c ss x=some k:=by
 obtain⟨r,e⟩:=cQ.1 hs;refine oO.2 ⟨r,by rw[e,hi];rfl,λj p m=>?_⟩;have d:j<ss.length:=by omega
 obtain⟨u,g⟩:=qC.1 m;have a:=CM h (zE hs) hi;have b:=CM h (zc d) g;have:=h.sR (cM d) hs p;omega
theorem JE (h:dI c ss){x:Int}{b:Bool}:eI c ss x=some b↔∃(k:Nat) (s:cH) (i:Nat),ss[k]?=some s/\i<c.n/\x=((at_ c s i:Nat):Int)/\s.is i=b:=by
 constructor
 ·intro hx;obtain⟨k,s,i,_,a,e,g⟩:=yl hx;obtain⟨m,j⟩:=(UO h.pos).1 e;rw[h.tk s (zE a)]at j;exact⟨k,s,i,a,j,m,g⟩
 ·rintro⟨k,s,i,a,hi,rfl,g⟩;have p:=h.tk s (zE a);have e:obj c s ((at_ c s i:Nat):Int)=some i:=(UO h.pos).2 ⟨rfl,O⟩;have d:idx c s ((at_ c s i:Nat):Int)=some i:=(V1 h.pos).2 ⟨ql _,by have:=h.pos;unfold at_;rw[zl];omega,O⟩;rw[VV (FX h a d) a,e,←g];rfl
theorem Ue (h:dI c ss){x:Int}:Tk c ss x↔∃(k:Nat) (s:cH) (i:Nat),ss[k]?=some s/\i<c.n/\x=((at_ c s i:Nat):Int)/\s.is i=true:=JE h
theorem Ed (h:dI c ss){x:Int}{a:Nat}:rz c ss x=some a↔∃(k:Nat) (s:cH) (i:Nat),ss[k]?=some s/\i<c.n/\a=at_ c s i/\((at_ c s i:Nat):Int)<=x/\x<((at_ c s i+c.size:Nat):Int):=by
 constructor
 ·intro hf;cases ho:lj c ss x with
  | none=>rw[JU ho]at hf;cases hf
  | some k=>
   have j:=(oO.1 ho).1;have b:ss[k]?=some ss[k]:=cM j;rw[Gf ho b]at hf;obtain⟨i,g,rfl⟩:=rF.1 hf;have:=CM h (zE b) g;exact⟨k,_,i,b,this.1,rfl,this.2.2.2.1,this.2.2.2.2⟩
 ·rintro⟨k,s,i,b,g,rfl,h1,h2⟩;have m:=h.tk s (zE b);have e:at_ c s (i+1)=at_ c s i+c.size:=by unfold at_;rw[zl];omega
  have d:idx c s x=some i:=(V1 h.pos).2 ⟨h1,by rw[e];exact h2,O⟩;rw[Gf (FX h b d) b,d];rfl
theorem dI.put (h:dI c ss){k i:Nat}{s:cH}(hs:ss[k]?=some s)(v:Bool):dI c (ss.set k (s.put i v)):=by
 have r:=(cQ.1 hs).1;refine⟨h.ok,λt p=>?_,?_⟩
 ·rcases vR p with p|rfl
  ·exact h.tk t p
  ·rw[show(s.put i v).tk.length=s.tk.length by simp[cH.put]];exact h.tk s (zE hs)
 ·rw[kj];intro a b ha hb hab;have d:a<ss.length:=by simpa using ha
  have m:b<ss.length:=by simpa using hb
  have g:∀j (hj:j<(ss.set k (s.put i v)).length) (hj':j<ss.length),(ss.set k (s.put i v))[j].st=ss[j].st:=by
   intro j hj hj';rw[List.getElem_set];split
   ·rename_i e;subst e;have:ss[k]=s:=(cQ.1 hs).2;rw[this];rfl
   ·rfl
  rw[g a ha d,g b hb m];exact kj.1 h.sD a b d m hab
theorem FM {k i:Nat}{s:cH}(hs:ss[k]?=some s)(v:Bool):(ss.set k (s.put i v)).map (·.st)=ss.map (·.st):=by
 apply zz;intro j;simp only[ze];by_cases hjk:j=k
 ·subst hjk;rw[zM (cQ.1 hs).1,hs];rfl
 ·rw[zi (Ne.symm hjk)]
theorem C4 {s:cH}{i j:Nat}{v:Bool}(hi:i<s.tk.length):(s.put i v).is j=if j=i then v else s.is j:=by
 unfold cH.is cH.put;simp only[zL];by_cases hj:j=i
 ·subst hj;rw[zM hi,zB rfl];rfl
 ·rw[zi (Ne.symm hj),zA hj]
theorem Ib (h:dI c ss){k i:Nat}{s:cH}(hs:ss[k]?=some s)(hi:i<c.n)(v:Bool){y:Int}:Tk c (ss.set k (s.put i v)) y↔(y=((at_ c s i:Nat):Int)/\v=true)\/(y≠((at_ c s i:Nat):Int)/\Tk c ss y):=by
 have b:=(cQ.1 hs).1;have g:=h.tk s (zE hs);have m:=h.pos;rw[Ue (h.put hs v),Ue h];constructor
 ·rintro⟨l,t,j,ht,hj,rfl,hb⟩;by_cases hlk:l=k
  ·subst hlk;rw[zM b]at ht;cases ht;rw[C4 O]at hb;by_cases a:j=i
   ·subst a;rw[zB rfl]at hb;exact .inl ⟨rfl,hb⟩
   ·rw[zA a]at hb;refine .inr ⟨λe=>a ?_,l,s,j,hs,hj,rfl,hb⟩;have d:at_ c s j=at_ c s i:=by have:=Int.ofNat.inj e;exact this
    exact(Uw h hs hs hj hi (zD _) O O O).2.2
  ·rw[zi (Ne.symm hlk)]at ht;refine .inr ⟨λe=>hlk ?_,l,t,j,ht,hj,rfl,hb⟩;have d:at_ c t j=at_ c s i:=Int.ofNat.inj e;exact(Uw h ht hs hj hi (zD _) O O O).1
 ·rintro(⟨rfl,rfl⟩|⟨hne,l,t,j,ht,hj,rfl,hb⟩)
  ·exact⟨k,s.put i true,i,zM b,hi,rfl,by rw[C4 O,zB rfl]⟩
  ·by_cases hlk:l=k
   ·subst hlk;rw[hs]at ht;cases ht;have a:j≠i:=λe=>hne (by rw[e]);exact⟨l,s.put i v,j,zM b,hj,rfl,by rw[C4 O,zA a];exact hb⟩
   ·exact⟨l,t,j,(zi (Ne.symm hlk)).trans ht,hj,rfl,hb⟩
theorem F2 {p:Nat}:sC c ss p↔∃x∈ss.map (·.st),x<=p/\p<x+c.aF:=by
 constructor
 ·rintro⟨s,a,h⟩;exact⟨_,zC.2 ⟨s,a,rfl⟩,h⟩
 ·rintro⟨x,hx,h⟩;obtain⟨s,a,rfl⟩:=zC.1 hx;exact⟨s,a,h⟩
theorem RG {ss':List cH}(e:ss'.map (·.st)=ss.map (·.st)){p:Nat}:sC c ss' p↔sC c ss p:=by rw[F2,F2,e]
theorem TI (h:dI c ss){x:Nat}{ss':List cH}(ho:ji c ss=some (x,ss')):dI c ss'/\ss'.map (·.st)=ss.map (·.st)/\¬Tk c ss (x:Int)/\∀y,Tk c ss' y↔y=(x:Int)\/Tk c ss y:=by
 unfold ji at ho;split at ho
 ·rename_i k hk;obtain⟨_,s,g,p⟩:=QV hk;rw[g]at ho;simp only at ho;split at ho
  ·rename_i i hi;cases ho;obtain⟨r,w,m,u⟩:=G4 p;rw[hi]at w;cases w;have j:i<c.n:=by rw[←h.tk s (zE g)];exact m
   have d:¬Tk c ss ((at_ c s i:Nat):Int):=λa=>by
    have z:=(JE h (x:=((at_ c s i:Nat):Int)) (b:=false)).2 ⟨k,s,i,g,j,rfl,u⟩;unfold Tk at a;rw[z]at a;cases a
   refine⟨h.put g true,FM g true,d,λy=>?_⟩;rw[Ib h g j];constructor
   ·rintro(⟨e,_⟩|⟨_,a⟩)
    ·exact .inl e
    ·exact .inr a
   ·rintro(e|a)
    ·exact .inl ⟨e,rfl⟩
    ·exact .inr ⟨λe=>d (e▸a),a⟩
  ·cases ho
 ·cases ho
theorem Gb:∀(m:Nat) {ss:List cH},dI c ss->dI c (Q8 c m ss).2/\(Q8 c m ss).2.map (·.st)=ss.map (·.st)/\(Q8 c m ss).1.length<=m/\(Q8 c m ss).1.Nodup/\(∀x∈(Q8 c m ss).1,¬Tk c ss (x:Int))/\∀y,Tk c (Q8 c m ss).2 y↔(∃x∈(Q8 c m ss).1,y=((x:Nat):Int))\/Tk c ss y
 | 0,ss,h=>⟨h,rfl,zD _,qJ,by simp[Q8],by simp[Q8]⟩
 | m+1,ss,h=>by
  cases ho:ji c ss with
  | none=>
   have e:Q8 c (m+1) ss=([],ss):=by simp[Q8,ho]
   rw[e];exact⟨h,rfl,by simp,qJ,by simp,by simp⟩
  | some r=>
   obtain⟨x,j⟩:=r;rw[HT ho];obtain⟨z,u,A,a⟩:=TI h ho;obtain⟨g,w,B,i,b,p⟩:=Gb m z;refine⟨g,w.trans u,by simp;omega,zq.2 ⟨λs=>b x s ((a _).2 (.inl rfl)),i⟩,?_,λy=>?_⟩
   ·intro y hy;rcases zQ.1 hy with rfl|hy
    ·exact A
    ·exact λd=>b y hy ((a _).2 (.inr d))
   ·rw[p,a];simp only[zQ,exists_eq_or_imp];constructor
    ·rintro(h|h|h)
     ·exact .inl (.inr h)
     ·exact .inl (.inl h)
     ·exact .inr h
    ·rintro((h|h)|h)
     ·exact .inr (.inl h)
     ·exact .inl h
     ·exact .inr (.inr h)
theorem Lz:∀(xs:List Int) {ss:List cH},dI c ss->kY c ss xs->dI c (xs.foldl (fM c) ss)/\(xs.foldl (fM c) ss).map (·.st)=ss.map (·.st)/\∀y,Tk c (xs.foldl (fM c) ss) y↔Tk c ss y/\y∉xs
 | [],ss,h,_=>⟨h,rfl,by simp⟩
 | x::xs,ss,h,hA=>by
  have hx:=hA.1 x aA;obtain⟨k,s,i,w,d,j,_⟩:=yl hx;obtain⟨b,a⟩:=(UO h.pos).1 j;rw[h.tk s (zE d)]at a;have e:=yB w d j;have m:=h.put d false (i:=i);have g:=hA.next h.pos;obtain⟨p,u,r⟩:=Lz xs (ss:=fM c ss x) (by rw[e];exact m) g;rw[lg];refine⟨p,u.trans (by rw[e];exact FM d false),λy=>?_⟩;rw[r,e,Ib h d a,←b];simp only[zb,and_false,false_or,zQ,not_or];constructor
  ·rintro⟨⟨b,a⟩,h3⟩;exact⟨a,b,h3⟩
  ·rintro⟨a,b,h3⟩;exact⟨⟨b,a⟩,h3⟩
theorem JL {s:cH}(h0:s.many=0)(i:Nat):s.is i=false:=by
 unfold cH.many at h0;rw[wy]at h0;unfold cH.is;rw[zL];cases hi:s.tk[i]? with
 | none=>rfl
 | some b=>
  cases b
  ·rfl
  ·exact absurd (zE hi) h0
theorem dI.cK (h:dI c ss):dI c (Go.Ar.cK ss):=⟨h.ok,λs a=>h.tk s (zH.1 a).1,h.sD.filter _⟩
theorem I0 (h:dI c ss){y:Int}:Tk c (cK ss) y↔Tk c ss y:=by
 rw[Ue h.cK,Ue h];constructor
 ·rintro⟨k,s,i,hs,hi,rfl,hb⟩;obtain⟨l,a⟩:=zN (zH.1 (zE hs)).1;exact⟨l,s,i,a,hi,rfl,hb⟩
 ·rintro⟨k,s,i,hs,hi,rfl,hb⟩;have:s∈cK ss:=zH.2 ⟨zE hs,by
   have:s.many≠0:=λb=>by rw[JL b i]at hb;cases hb
   simpa using this⟩
  obtain⟨l,a⟩:=zN this;exact⟨l,s,i,a,hi,rfl,hb⟩
theorem Ci {x:Nat}:x∈Z7 ss↔∃s∈ss,s.many=0/\s.st=x:=by
 unfold Z7;simp only[zC,zH,zZ,and_assoc]
theorem EK (h:dI c ss){p:Nat}:sC c (cK ss) p↔sC c ss p/\¬∃x∈Z7 ss,x<=p/\p<x+c.aF:=by
 constructor
 ·rintro⟨s,hs,h1,h2⟩;have b:=zH.1 hs;refine⟨⟨s,b.1,h1,h2⟩,?_⟩;rintro⟨x,hx,h3,h4⟩;obtain⟨t,m,a,rfl⟩:=Ci.1 hx;obtain⟨i,g⟩:=zN b.1;obtain⟨j,d⟩:=zN m;have e:=h.vU g d h1 h2 h3 h4;subst e;rw[g]at d;cases d;simp[a]at b
 ·rintro⟨⟨s,hs,h1,h2⟩,hn⟩;refine⟨s,zH.2 ⟨hs,?_⟩,h1,h2⟩;have:s.many≠0:=λa=>hn ⟨s.st,Ci.2 ⟨s,hs,a,rfl⟩,h1,h2⟩;simpa using this
theorem Ο (h:dI c ss):(Z7 ss).Pairwise λa b=>a+c.aF<=b:=by
 unfold Z7;rw[qD];exact h.sD.filter _
theorem Vu {st:Nat}{t:cH}:t∈iy c ss st↔t=⟨st,List.replicate c.n false⟩\/t∈ss:=by
 unfold iy;rw[zR,zQ];have:t∈ss↔t∈ss.takeWhile (λs=>decide (s.st<st))\/t∈ss.dropWhile (λs=>decide (s.st<st)):=by
  rw[←zR,Ck]
 rw[this];constructor
 ·rintro(h|h|h)
  ·exact .inr (.inl h)
  ·exact .inl h
  ·exact .inr (.inr h)
 ·rintro(h|h|h)
  ·exact .inr (.inl h)
  ·exact .inl h
  ·exact .inr (.inr h)
theorem Ez (h:dI c ss){st:Nat}(hd:∀s∈ss,s.st+c.aF<=st\/st+c.aF<=s.st):dI c (iy c ss st):=by
 refine⟨h.ok,λs m=>?_,?_⟩
 ·rcases Vu.1 m with rfl|m
  ·simp
  ·exact h.tk s m
 ·have g:=Gy h.pO st;have u:=h.pg;rw[vO];refine pS.2 ⟨h.sD.sublist (DO _ _),mM.2 ⟨λb e=>?_,h.sD.sublist (C0 _ _)⟩,λa r b e=>?_⟩
  ·obtain⟨i,d⟩:=zN e;rw[zp]at d;have:=g.2 _ _ d;rcases hd b (qi e)with h1|h1
   ·omega
   ·exact h1
  ·obtain⟨i,d⟩:=zN r;rw[zX]at d;split at d
   ·rename_i hlt;rcases zQ.1 e with rfl|e
    ·have:=(g.2 _ _ d).2 hlt;rcases hd a (zE d)with h1|h1
     ·exact h1
     ·omega
    ·obtain⟨j,p⟩:=zN e;rw[zp]at p;exact h.sR d p O
   ·cases d
theorem IJ (h:dI c ss){st:Nat}(hd:∀s∈ss,s.st+c.aF<=st\/st+c.aF<=s.st){y:Int}:Tk c (iy c ss st) y↔Tk c ss y:=by
 rw[Ue (Ez h hd),Ue h];constructor
 ·rintro⟨k,s,i,hs,hi,rfl,hb⟩;rcases Vu.1 (zE hs)with rfl|hm
  ·have:(⟨st,List.replicate c.n false⟩:cH).is i=false:=JL (by simp[cH.many,Ai]) i;rw[this]at hb;cases hb
  ·obtain⟨l,a⟩:=zN hm;exact⟨l,s,i,a,hi,rfl,hb⟩
 ·rintro⟨k,s,i,hs,hi,rfl,hb⟩;obtain⟨l,a⟩:=zN (Vu.2 (.inr (zE hs)):s∈iy c ss st);exact⟨l,s,i,a,hi,rfl,hb⟩
theorem MU {st:Nat}(hd:∀s∈ss,s.st+c.aF<=st\/st+c.aF<=s.st):GW c ss st=0:=by
 unfold GW;rw[zA];simp only[j9,zT,not_exists,not_and];intro s hs hlt;rcases hd s hs with h|h<;>omega
end Go.Ar
namespace Go.Ar
open Go.Bu (Zf QK j2 Zu qB iA Vb VX dJ take Kj Kg Bounded)
def gf (st:List Nat)(p:Nat):Nat:=st.getD p 0
def AR.f (A:AR)(p:Nat):Nat:=gf A.st p
def iM (rs:List (Nat×Nat))(p:Nat):Prop:=∃r∈rs,r.1<=p/\p<r.1+r.2
theorem Fe {st:List Nat}{p:Nat}(h:gf st p≠0):p<st.length:=by
 apply Classical.byContradiction;intro hn;exact h (by unfold gf;rw[zL,zY O];rfl)
theorem Hs {st:List Nat}{a b v p:Nat}(hb:b<=st.length):gf (fY st a b v) p=if a<=p/\p<b then v else gf st p:=by
 unfold gf;rw[zL,zL,Hm];by_cases hp:p<st.length
 ·rw[cM hp];simp only[zf,pN]
 ·rw[zY O,zA O];rfl
theorem Vl {n a m:Nat}:Zf n (a:Int) (m:Int)=true↔1<=m/\a+m<=n:=by
 simp only[Zf,zF,zT];omega
theorem Ek {st:List Nat}{a m:Nat}{fr:List Nat}(hl:a+m<=st.length):uF st a m fr=true↔∀p,a<=p->p<a+m->gf st p∈fr:=by
 unfold uF;rw[kN];constructor
 ·intro h p h1 h2;have d:p<st.length:=by omega
  have:st[p]∈(st.drop a).take m:=by
   refine zE (i:=p-a) ?_;rw[zX,zB O,zp,show a+(p-a)=p by omega,cM d]
  have:=h _ this;unfold gf;rw[zL,cM d];simpa using this
 ·intro h x hx;obtain⟨i,b⟩:=zN hx;rw[zX]at b;split at b
  ·rename_i hlt;rw[zp]at b;have:=h (a+i) O O;unfold gf at this;rw[zL,b]at this;simpa using this
  ·cases b
theorem Cx {st:List Nat}{a m v:Nat}{fr:List Nat}(h1:1<=m)(hl:a+m<=st.length)(h:∀p,a<=p->p<a+m->gf st p∈fr):VQ st (a:Int) (m:Int) v fr=fY st a (a+m) v:=by
 unfold VQ GX;rw[zB (Vl.2 ⟨h1,hl⟩),dC,dC,(Ek hl).2 h];rfl
theorem Na {st:List Nat}{a m v:Nat}(hl:a+m<=st.length):yT st a m v=false↔∀p,a<=p->p<a+m->gf st p≠v:=by
 have:=Ek (fr:=[v]) hl;unfold yT;constructor
 ·intro h p h1 h2 e;have d:p<st.length:=by omega
  have g:st[p]∈(st.drop a).take m:=by
   refine zE (i:=p-a) ?_;rw[zX,zB O,zp,show a+(p-a)=p by omega,cM d]
  have j:st[p]=v:=by
   unfold gf at e;rw[zL,cM d]at e;exact e
  rw[j]at g;rw[tT.2 g]at h;cases h
 ·intro h;apply mL.2;intro hc;obtain⟨i,b⟩:=zN (tT.1 hc);rw[zX]at b;split at b
  ·rename_i hlt;rw[zp]at b;refine h (a+i) O O ?_;unfold gf;rw[zL,b];rfl
  ·cases b
structure PG (A:AR):Prop where
 len:A.st.length=A.n
 n1:32<=A.n
 n2:A.n<=1024
 n16:A.n%16=0
 le:∀p,A.f p<=3
 us:∀p,A.f p=1↔A.ow p≠0
 fr:∀p,A.S p=true↔2<=A.f p
 hp:∀p,A.f p=0↔A.f (p/16*16)=0
theorem PG.lt {A:AR}(h:PG A){p:Nat}(hp:A.f p≠0):p<A.n:=h.len▸Fe hp
theorem PG.jC {A:AR}(h:PG A):Bounded A.S A.n:=λp a=>h.lt (by have:=(h.fr p).1 a;omega)
theorem PG.ke {A:AR}(h:PG A){p q:Nat}(e:p/16=q/16):A.f p=0↔A.f q=0:=by rw[h.hp p,h.hp q,e]
theorem PG.same {A B:AR}(h:PG A)(e1:B.n=A.n)(e2:B.st=A.st)(e3:B.S=A.S)(e4:B.ow=A.ow):PG B:=by
 have a:∀p,B.f p=A.f p:=λp=>by unfold AR.f;rw[e2]
 exact⟨by rw[e2,e1];exact h.len,by rw[e1];exact h.n1,by rw[e1];exact h.n2,by rw[e1];exact h.n16,λp=>by rw[a];exact h.le p,λp=>by rw[a,e4];exact h.us p,λp=>by rw[a,e3];exact h.fr p,λp=>by rw[a,a];exact h.hp p⟩
theorem Iw {ow:Nat->Nat}{a m no:Nat}(h1:1<=m)(h2:a+m<=1024)(p:Nat):j0 ow a m no p=if a<=p/\p<a+m then no else ow p:=by
 unfold j0;rw[zB (Vl.2 ⟨h1,h2⟩)]
theorem Ir {n:Nat}{S:Nat->Bool}{a m:Nat}(h1:1<=m)(h2:a+m<=n)(h:∀p,a<=p->p<a+m->S p=false):QK n S (a:Int) (m:Int)=dJ S a (a+m):=by
 unfold QK;rw[Vl.2 ⟨h1,h2⟩,dC,dC,Vb.2 h];rfl
theorem Υ {n:Nat}{S:Nat->Bool}{a m:Nat}(h1:1<=m)(h2:a+m<=n)(h:∀p,a<=p->p<a+m->S p=true):j2 n S (a:Int) (m:Int)=take S a (a+m):=by
 unfold j2;rw[Vl.2 ⟨h1,h2⟩,dC,dC,VX.2 h];rfl
structure Out (A B:AR) (a b:Nat):Prop where
 n:B.n=A.n
 len:B.st.length=A.st.length
 f:∀p,¬(a<=p/\p<b)->B.f p=A.f p
 ow:∀p,¬(a<=p/\p<b)->B.ow p=A.ow p
 S:∀p,¬(a<=p/\p<b)->B.S p=A.S p
theorem Out.pg {A B:AR}{a b v:Nat}(o:Out A B a b)(h:PG A)(hv:v<=3)(hf:∀p,a<=p->p<b->B.f p=v)(hw:∀p,a<=p->p<b->(v=1↔B.ow p≠0))(hS:∀p,a<=p->p<b->(B.S p=true↔2<=v))
 (hz:∀p,B.f p=0↔B.f (p/16*16)=0):PG B:=by
 refine⟨by rw[o.len,o.n];exact h.len,by rw[o.n];exact h.n1,by rw[o.n];exact h.n2,by rw[o.n];exact h.n16,λp=>?_,λp=>?_,λp=>?_,hz⟩
 ·by_cases hp:a<=p/\p<b
  ·rw[hf p hp.1 hp.2];exact hv
  ·rw[o.f p hp];exact h.le p
 ·by_cases hp:a<=p/\p<b
  ·rw[hf p hp.1 hp.2];exact hw p hp.1 hp.2
  ·rw[o.f p hp,o.ow p hp];exact h.us p
 ·by_cases hp:a<=p/\p<b
  ·rw[hf p hp.1 hp.2];exact hS p hp.1 hp.2
  ·rw[o.f p hp,o.S p hp];exact h.fr p
theorem Out.zero {A B:AR}{a b v:Nat}(o:Out A B a b)(h:PG A)(hf:∀p,a<=p->p<b->B.f p=v)(hv:v≠0)(hA:∀p,a<=p->p<b->A.f p≠0):∀p,B.f p=0↔A.f p=0:=by
 intro p;by_cases hp:a<=p/\p<b
 ·rw[hf p hp.1 hp.2];exact⟨λe=>(hv e).elim,λe=>(hA p hp.1 hp.2 e).elim⟩
 ·rw[o.f p hp]
theorem BJ {A B:AR}(h:PG A)(e:∀p,B.f p=0↔A.f p=0):∀p,B.f p=0↔B.f (p/16*16)=0:=λp=>by rw[e,e];exact h.hp p
theorem I3 {A:AR}(h:PG A){a m:Nat}(h1:1<=m)(hu:∀p,a<=p->p<a+m->A.f p=1):Out A (V3 A (a,m)) a (a+m)/\(∀p,a<=p->p<a+m->(V3 A (a,m)).f p=2/\(V3 A (a,m)).ow p=0)/\PG (V3 A (a,m))/\∀p,(V3 A (a,m)).f p=0↔A.f p=0:=by
 have g:a+m<=A.n:=by have:=h.lt (p:=a+m-1) (by rw[hu _ O O];omega);omega
 have y:=h.n2;have x:(V3 A (a,m)).st=fY A.st a (a+m) 2:=Cx h1 (by rw[h.len];exact g) λp d b=>by
  have:=hu p d b;unfold AR.f at this;rw[this];simp
 have s:(V3 A (a,m)).S=dJ A.S a (a+m):=Ir h1 g λp d b=>by
  apply mL.2;intro hS;have:=(h.fr p).1 hS;have:=hu p d b;omega
 have j:∀p,(V3 A (a,m)).ow p=if a<=p/\p<a+m then 0 else A.ow p:=λp=>Iw h1 O p
 have r:∀p,(V3 A (a,m)).f p=if a<=p/\p<a+m then 2 else A.f p:=λp=>by unfold AR.f;rw[x,Hs (by rw[h.len];exact g)]
 have o:Out A (V3 A (a,m)) a (a+m):=⟨rfl,by rw[x,Qj],λp e=>by rw[r,zA e],λp e=>by rw[j,zA e],λp e=>by
  rw[s];unfold dJ;have:(decide (a<=p)&&decide (p<a+m))=false:=by simp;omega
  rw[this,Bool.or_false]⟩
 have i:∀p,a<=p->p<a+m->(V3 A (a,m)).f p=2:=λp d b=>by rw[r,zB ⟨d,b⟩]
 have w:∀p,a<=p->p<a+m->(V3 A (a,m)).ow p=0:=λp d b=>by rw[j,zB ⟨d,b⟩]
 have u:=o.zero h i O λp d b=>by rw[hu p d b];omega
 refine⟨o,λp d b=>⟨i p d b,w p d b⟩,o.pg h O i (λp d b=>by rw[w p d b];simp) (λp d b=>?_) (BJ h u),u⟩;rw[s,Kj];exact⟨λ_=>zD _,λ_=>.inr ⟨d,b⟩⟩
structure su (A B:AR) (rs:List (Nat×Nat)):Prop where
 pg:PG B
 n:B.n=A.n
 tb:B.tb=A.tb
 room:B.room=A.room
 cE:B.cE=A.cE
 cC:B.cC=A.cC
 runs:B.runs=A.runs
 i:∀p,iM rs p->B.f p=2/\B.ow p=0
 o:∀p,¬iM rs p->B.f p=A.f p/\B.ow p=A.ow p
 z:∀p,B.f p=0↔A.f p=0
theorem Fq:∀(rs:List (Nat×Nat)) {A:AR},PG A->(∀r∈rs,1<=r.2)->(∀r∈rs,∀p,r.1<=p->p<r.1+r.2->A.f p=1)->rs.Pairwise (λa b=>a.1+a.2<=b.1\/b.1+b.2<=a.1)->su A (VO A rs) rs
 | [],A,h,_,_,_=>⟨h,rfl,rfl,rfl,rfl,rfl,rfl,λp ⟨r,hr,_⟩=>by simp at hr,λp _=>⟨rfl,rfl⟩,λp=>Iff.rfl⟩
 | (a,m)::rs,A,h,hp,hu,hd=>by
  have hd':=mM.1 hd;obtain⟨o,B,w,C⟩:=I3 h (hp _ (lf ..)) (hu _ (lf ..));have d:=Fq rs w (λr hr=>hp r (kM _ hr)) (λr hr p u s=>by
   have:=hd'.1 r hr;simp only at this;rw[o.f p O];exact hu r (kM _ hr) p u s) hd'.2
  have e:VO A ((a,m)::rs)=VO (V3 A (a,m)) rs:=rfl;rw[e];refine⟨d.pg,d.n,d.tb,d.room,d.cE,d.cC,d.runs,λp g=>?_,λp g=>?_,λp=>(d.z p).trans (C p)⟩
  ·by_cases j:iM rs p
   ·exact d.i p j
   ·have:=d.o p j;obtain⟨r,hr,u,s⟩:=g;rcases zQ.1 hr with rfl|hr
    ·rw[this.1,this.2];exact B p u s
    ·exact(j ⟨r,hr,u,s⟩).elim
  ·have j:¬iM rs p:=λ⟨r,hr,x⟩=>g ⟨r,kM _ hr,x⟩;have y:¬(a<=p/\p<a+m):=λx=>g ⟨(a,m),lf ..,x⟩;have:=d.o p j;exact⟨this.1.trans (o.f p y),this.2.trans (o.ow p y)⟩
theorem Dv {A:AR}(h:PG A){a m no:Nat}(h1:1<=m)(hn:no≠0)(hS:∀p,a<=p->p<a+m->A.S p=true):Out A (dV A a m no) a (a+m)/\(∀p,a<=p->p<a+m->(dV A a m no).f p=1/\(dV A a m no).ow p=no)/\PG (dV A a m no)/\∀p,(dV A a m no).f p=0↔A.f p=0:=by
 have g:∀p,a<=p->p<a+m->2<=A.f p:=λp d b=>(h.fr p).1 (hS p d b);have s:a+m<=A.n:=by have:=h.lt (p:=a+m-1) (by have:=g (a+m-1) O O;omega);omega
 have y:=h.n2;have x:(dV A a m no).st=fY A.st a (a+m) 1:=Cx h1 (by rw[h.len];exact s) λp d b=>by
  have z:=g p d b;have B:=h.le p;unfold AR.f at z B;have:gf A.st p=2\/gf A.st p=3:=by omega
  simpa using this
 have j:∀p,(dV A a m no).ow p=if a<=p/\p<a+m then no else A.ow p:=λp=>Iw h1 O p
 have r:∀p,(dV A a m no).f p=if a<=p/\p<a+m then 1 else A.f p:=λp=>by unfold AR.f;rw[x,Hs (by rw[h.len];exact s)]
 have o:Out A (dV A a m no) a (a+m):=⟨rfl,by rw[x,Qj],λp e=>by rw[r,zA e],λp e=>by rw[j,zA e],λp e=>by
  show take A.S a (a+m) p=A.S p;unfold take;have:(decide (a<=p)&&decide (p<a+m))=false:=by simp;omega
  rw[this];simp⟩
 have i:∀p,a<=p->p<a+m->(dV A a m no).f p=1:=λp d b=>by rw[r,zB ⟨d,b⟩]
 have w:∀p,a<=p->p<a+m->(dV A a m no).ow p=no:=λp d b=>by rw[j,zB ⟨d,b⟩]
 have u:=o.zero h i O λp d b=>by have:=g p d b;omega
 refine⟨o,λp d b=>⟨i p d b,w p d b⟩,o.pg h O i (λp d b=>by rw[w p d b];simp[hn]) (λp d b=>?_) (BJ h u),u⟩;show take A.S a (a+m) p=true↔_;rw[Kg];constructor
 ·rintro⟨_,hx⟩;exact(hx ⟨d,b⟩).elim
 ·intro hx;omega
theorem Jq:∀(m:Nat) {st:List Nat} {a:Nat},(a+m)*16<=st.length->(∀p,a*16<=p->p<(a+m)*16->gf st p=0)->(UR st a m).length=st.length/\∀p,gf (UR st a m) p=if a*16<=p/\p<(a+m)*16 then 3 else gf st p
 | 0,st,a,hl,hz=>⟨rfl,λp=>by rw[zA O];rfl⟩
 | m+1,st,a,hl,hz=>by
  obtain⟨i1,i2⟩:=Jq m (st:=st) (a:=a) O λp d g=>hz p d O;rw[FL];have b:gf (UR st a m) (16*(a+m))=0:=by rw[i2,zA O];exact hz _ O O
  have ok:ld (UR st a m) ((a+m:Nat):Int)=0:=by
   unfold ld;rw[UE (by rw[i1];omega),zB rfl,dC];unfold gf at b;rw[zB b]
  have e:jo (UR st a m) ((a+m:Nat):Int)=fY (UR st a m) (16*(a+m)) (16*(a+m)+16) 3:=by
   unfold jo;rw[zB ok,dC]
  rw[e];refine⟨by rw[Qj,i1],λp=>?_⟩;rw[Hs (by rw[i1];omega),i2];by_cases h1:16*(a+m)<=p/\p<16*(a+m)+16
  ·rw[zB h1,zB O]
  ·rw[zA h1];by_cases h2:a*16<=p/\p<(a+m)*16
   ·rw[zB h2,zB O]
   ·rw[zA h2,zA O]
theorem CY {sp:Sp}{s m:Nat}(h:fC sp (s:Int) (m:Int)=0):1<=m/\s+m<=sp.st.length/\∀p,s<=p->p<s+m->gf sp.st p=0:=by
 unfold fC at h;split at h
 ·rename_i hr;obtain⟨e,d⟩:=Vl.1 hr;rw[dC,dC]at h;split at h
  ·cases h
  ·rename_i hn;refine⟨e,d,λp j g=>?_⟩;have a:p<sp.st.length:=by omega
   have b:sp.st[p]∈(sp.st.drop s).take m:=by
    refine zE (i:=p-s) ?_;rw[zX,zB O,zp,show s+(p-s)=p by omega,cM a]
   simp only[j9,not_exists,not_and]at hn;have:=hn _ b;unfold gf;rw[zL,cM a];simpa using this
 ·cases h
structure Grown (A B:AR) (sp sp':Sp) (s size:Nat):Prop where
 pg:PG B
 n:B.n=A.n
 tb:B.tb=A.tb
 room:B.room=A.room
 cE:B.cE=A.cE
 cC:B.cC=A.cC
 runs:B.runs=A.runs
 ow:B.ow=A.ow
 s16:s%16=0
 s1:16<=s
 sl:s+size<=A.n
 un:∀p,s<=p->p<s+size->gf sp.st p=0
 i:∀p,s<=p->p<s+size->B.f p=3/\gf sp'.st p=1
 o:∀p,¬(s<=p/\p<s+size)->B.f p=A.f p/\gf sp'.st p=gf sp.st p
 w:∀x,¬(s*32<=x/\x<(s+size)*32)->sp'.wd x=sp.wd x
 l:sp'.st.length=sp.st.length
 pk:sp'.pk=sp.pk
theorem UW {sp:Sp}{size s:Nat}(h1:1<=size)(h:cY sp size=some s):fC sp (s:Int) (size:Int)=0/\s≠0/\(∃j,s=j*size)/\∀j,j*size<s->1<=j->fC sp ((j*size:Nat):Int) (size:Int)≠0:=by
 unfold cY at h;obtain⟨p,us,vs,u,A⟩:=List.find?_eq_some_iff_append.1 h;simp only[zF,bne_iff_ne,ne_eq,zZ]at p;have e:s∈(List.range (sp.st.length/size)).map (· * size):=by rw[u];simp
 obtain⟨j,x,rfl⟩:=zC.1 e;rw[zU]at x;refine⟨p.2,p.1,⟨j,rfl⟩,λi w y=>?_⟩;have z:i<j:=Nat.lt_of_mul_lt_mul_right w;have:i*size∈us:=by
  have g:i*size∈(List.range (sp.st.length/size)).map (· * size):=zC.2 ⟨i,zU.2 O,rfl⟩;have d:((List.range (sp.st.length/size)).map (· * size)).Pairwise (· < ·):=by
   rw[qD];exact List.pairwise_lt_range.imp λ{a b} m=>Nat.mul_lt_mul_of_pos_right m O
  rw[u]at g d;rcases zR.1 g with h|h
  ·exact h
  ·rcases zQ.1 h with h|h
   ·have:=xq O h;omega
   ·have:=(mM.1 (pS.1 d).2.1).1 _ h;omega
 have:=A _ this;have r:i*size≠0:=by
  have:=Nat.mul_pos (show 0<i by omega) (show 0<size by omega);omega
 simpa[r]using this
theorem Ly {sp:Sp}{s m:Nat}(h:fC sp (s:Int) (m:Int)=0):(gC sp (s:Int) (m:Int)).st.length=sp.st.length/\(∀p,gf (gC sp (s:Int) (m:Int)).st p=if s<=p/\p<s+m then 1 else gf sp.st p)/\(∀x,¬(s*32<=x/\x<(s+m)*32)->(gC sp (s:Int) (m:Int)).wd x=sp.wd x)/\(gC sp (s:Int) (m:Int)).pk=sp.pk:=by
 obtain⟨d,b,_⟩:=CY h;unfold gC;rw[zB h,dC,dC];refine⟨by simp[Sp.set,Qj],λp=>Hs b,λx a=>?_,rfl⟩;show(if s*32<=x/\x<(s+m)*32 then 0 else sp.wd x)=_
 rw[zA a]
theorem NQ {A:AR}{sp:Sp}(h:PG A)(hl:sp.st.length=A.n)(hz:∀p,gf sp.st p=0->A.f p=0){size:Nat}(hs:size=16\/size=32\/size=64){B:AR}{sp':Sp}(hg:UT A sp size=some (B,sp')) :
 ∃s,cY sp size=some s/\Grown A B sp sp' s size:=by
 unfold UT at hg;split at hg
 ·cases hg
 ·rename_i s hgs;cases hg;obtain⟨x,F,⟨j,M⟩,_⟩:=UW O hgs;obtain⟨H,D,w⟩:=CY x;have m:s%16=0:=by rcases hs with rfl|rfl|rfl<;>omega
  have C:size%16=0:=by rcases hs with rfl|rfl|rfl<;>omega
  have E:s/16*16=s:=by omega
  have r:(s/16+size/16)*16=s+size:=by omega
  have e:∀p,s<=p->p<s+size->A.f p=0:=λp d b=>hz p (w p d b);obtain⟨G,g⟩:=Jq (size/16) (st:=A.st) (a:=s/16) (by rw[r,h.len,←hl];exact D) (by rw[E,r];exact e);rw[E,r]at g;obtain⟨J,z,K,L⟩:=Ly x;have i:s+size<=A.n:=by rw[←hl];exact D
  have y:QK A.n A.S (s:Int) (size:Int)=dJ A.S s (s+size):=Ir H i λp d b=>by
   apply mL.2;intro hS;have:=(h.fr p).1 hS;have:=e p d b;omega
  refine⟨s,hgs,⟨?_,rfl,rfl,rfl,rfl,rfl,rfl,rfl,m,O,i,w,λp d b=>⟨?_,?_⟩,λp hp=>⟨?_,?_⟩,K,J,L⟩⟩
  ·have o:Out A {A with st:=UR A.st (s/16) (size/16),S:=QK A.n A.S (s:Int) (size:Int)} s (s+size):=⟨rfl,G,λp hp=>by show gf _ p=_;rw[g,zA hp];rfl,λp hp=>rfl,λp hp=>by
    show QK A.n A.S (s:Int) (size:Int) p=A.S p;rw[y];unfold dJ;have:(decide (s<=p)&&decide (p<s+size))=false:=by simp;omega
    rw[this,Bool.or_false]⟩
   have u:∀p,s<=p->p<s+size->AR.f {A with st:=UR A.st (s/16) (size/16),S:=QK A.n A.S (s:Int) (size:Int)} p=3:=λp d b=>by show gf _ p=3;rw[g,zB ⟨d,b⟩]
   refine o.pg h (zD _) u (λp d b=>?_) (λp d b=>?_) λp=>?_
   ·have F:=e p d b;have:=h.us p;constructor
    ·intro hx;omega
    ·intro hx;have:=this.2 hx;omega
   ·show QK A.n A.S (s:Int) (size:Int) p=true↔_;rw[y,Kj];exact⟨λ_=>O,λ_=>.inr ⟨d,b⟩⟩
   ·by_cases hp:s<=p/\p<s+size
    ·rw[u p hp.1 hp.2,u (p/16*16) O O]
    ·rw[o.f p hp,o.f (p/16*16) O];exact h.hp p
  ·show gf (UR A.st (s/16) (size/16)) p=3;rw[g,zB ⟨d,b⟩]
  ·rw[z,zB ⟨d,b⟩]
  ·show gf (UR A.st (s/16) (size/16)) p=A.f p;rw[g,zA hp];rfl
  ·rw[z,zA hp]
end Go.Ar
namespace Go.Ar
open Go.Bu (Zf QK j2 Zu qB iA Vb VX dJ take Kj Kg Bounded full can YP VS ZM QU ZQ Kc QT Qb)
def Cl (A:AR)(k:Nat)(c:bW)(ss:List cH):Prop:=A.tb[k]?=some c/\A.cC[k]?=some ss
def eZ (A:AR)(k:Nat)(x:Int):Prop:=∃c ss,Cl A k c ss/\Tk c ss x
def ie (A:AR)(k:Nat)(x:Int):Prop:=∃t,A.cE[k]?=some t/\x∈t.bs.flatten
structure GA (A:AR):Prop where
 pg:PG A
 tb:A.tb.length<=40
 lc:A.cC.length=A.tb.length
 lt:A.cE.length=A.tb.length
 cC:∀k c ss,Cl A k c ss->dI c ss
 one:∀k c ss,Cl A k c ss->∀s∈ss,s.st/16=(s.st+c.aF-1)/16
 ow:∀k c ss,Cl A k c ss->∀p,A.ow p=k+1↔sC c ss p
 jm:∀p,A.ow p=41↔iM A.runs p
 pa:∀p,A.ow p=41\/A.ow p<=A.tb.length
 gR:∀r∈A.runs,1<=r.2
 jR:A.runs.Pairwise λa b=>a.1+a.2<=b.1\/b.1+b.2<=a.1
 oQ:∀(k:Nat) (t:fQ),A.cE[k]?=some t->t.bs.flatten.Nodup
 lG:∀(k:Nat) c ss (t:fQ),Cl A k c ss->A.cE[k]?=some t->∀x∈t.bs.flatten,Tk c ss x
 oC:∀(k:Nat) (c:bW) (t:fQ),A.tb[k]?=some c->A.cE[k]?=some t->∀xs∈t.bs,xs.length=c.batch
structure Kp (A B:AR):Prop where
 n:B.n=A.n
 tb:B.tb=A.tb
 room:B.room=A.room
 z:∀p,B.f p=0↔A.f p=0
 t:∀p,B.f p=3->A.f p=3
theorem Kp.refl (A:AR):Kp A A:=⟨rfl,rfl,rfl,λ_=>Iff.rfl,λ_=>id⟩
theorem Kp.trans {A B C:AR}(h:Kp A B)(k:Kp B C):Kp A C:=⟨k.n.trans h.n,k.tb.trans h.tb,k.room.trans h.room,λp=>(k.z p).trans (h.z p),λp a=>h.t p (k.t p a)⟩
theorem Kp.aF {A B:AR}(e1:B.n=A.n)(e2:B.tb=A.tb)(e3:B.room=A.room)(e4:B.st=A.st):Kp A B:=⟨e1,e2,e3,λp=>by unfold AR.f;rw[e4],λp=>by unfold AR.f;rw[e4];exact id⟩
variable {A:AR}{k:Nat}{c:bW}{ss:List cH}
theorem Cl.lt (h:Cl A k c ss):k<A.tb.length:=(cQ.1 h.1).1
theorem Cl.eq {c':bW}{ss':List cH}(h:Cl A k c ss)(h':Cl A k c' ss'):c=c'/\ss=ss':=⟨Option.some.inj (h.1.symm.trans h'.1),Option.some.inj (h.2.symm.trans h'.2)⟩
theorem GA.cl (h:GA A){k:Nat}(hk:k<A.tb.length):∃c ss t,Cl A k c ss/\A.cE[k]?=some t:=by
 have b:=h.lc;have a:=h.lt;exact⟨A.tb[k],A.cC[k],A.cE[k],⟨by simp,by simp⟩,by simp⟩
theorem GA.used (h:GA A)(hk:Cl A k c ss){s:cH}(hs:s∈ss){p:Nat}(h1:s.st<=p)(h2:p<s.st+c.aF):A.f p=1/\A.ow p=k+1:=by
 have:=(h.ow k c ss hk p).2 ⟨s,hs,h1,h2⟩;exact⟨(h.pg.us p).2 O,this⟩
theorem GA.jr (h:GA A){r:Nat×Nat}(hr:r∈A.runs){p:Nat}(h1:r.1<=p)(h2:p<r.1+r.2):A.f p=1/\A.ow p=41:=by
 have:=(h.jm p).2 ⟨r,hr,h1,h2⟩;exact⟨(h.pg.us p).2 O,this⟩
theorem GA.ic (h:GA A){r s:Nat×Nat}(hr:r∈A.runs)(hs:s∈A.runs){x:Nat}(h1:r.1<=x)(h2:x<r.1+r.2)(h3:s.1<=x)(h4:x<s.1+s.2):r=s:=by
 obtain⟨i,e⟩:=zN hr;obtain⟨j,d⟩:=zN hs;obtain⟨a,rfl⟩:=cQ.1 e;obtain⟨b,rfl⟩:=cQ.1 d;rcases qx i j with hl|hl|hl
 ·have:=kj.1 h.jR i j a b hl;omega
 ·subst hl;rfl
 ·have:=kj.1 h.jR j i b a hl;omega
theorem GA.fit (h:GA A){r:Nat×Nat}(hr:r∈A.runs):r.1+r.2<=A.n:=by
 have:=h.gR r hr;have:=h.pg.lt (p:=r.1+r.2-1) (by rw[(h.jr hr (p:=r.1+r.2-1) O O).1];omega);omega
theorem GA.pT (h:GA A):ja A:=by
 have w:=h.pg.n2;refine⟨λr b s p x g d i j=>h.ic b p g d i j,λx m a=>?_,λx m u a=>?_,λr b=>?_⟩
 ·obtain⟨r,b,g,d⟩:=(h.jm x).1 a;unfold sv;rw[Bg];exact⟨r,b,by simp[g,d]⟩
 ·rcases h.pa x with e|e
  ·exact(a e).elim
  ·exact e
 ·have:=h.fit b;omega
theorem Ui (hk:Cl A k c ss){ss':List cH}{j:Nat}{d:bW}{tt:List cH}(h:Cl {A with cC:=A.cC.set k ss'} j d tt):(j=k/\d=c/\tt=ss')\/(j≠k/\Cl A j d tt):=by
 obtain⟨b,a⟩:=h;by_cases hjk:j=k
 ·subst hjk;have e:=(cQ.1 hk.2).1;simp only[zM e]at a;exact .inl ⟨rfl,Option.some.inj (b.symm.trans hk.1),(Option.some.inj a).symm⟩
 ·simp only[zi (Ne.symm hjk)]at a;exact .inr ⟨hjk,b,a⟩
theorem U5 (hk:Cl A k c ss)(ss':List cH):Cl {A with cC:=A.cC.set k ss'} k c ss':=⟨hk.1,zM (cQ.1 hk.2).1⟩
theorem Nu {ss':List cH}{j:Nat}{d:bW}{tt:List cH}(hjk:j≠k)(h:Cl A j d tt):Cl {A with cC:=A.cC.set k ss'} j d tt:=⟨h.1,(zi (Ne.symm hjk)).trans h.2⟩
theorem GA.lV (h:GA A)(hk:Cl A k c ss){ss':List cH}(hC:dI c ss')(hst:ss'.map (·.st)=ss.map (·.st))(ht:∀t,A.cE[k]?=some t->∀x∈t.bs.flatten,Tk c ss' x):GA {A with cC:=A.cC.set k ss'}:=by
 refine⟨h.pg.same rfl rfl rfl rfl,h.tb,by simp[h.lc],h.lt,λj d b a=>?_,λj d b a s i=>?_,λj d b a p=>?_,h.jm,h.pa,h.gR,h.jR,h.oQ,λj d b t a g=>?_,h.oC⟩
 ·rcases Ui hk a with⟨rfl,rfl,rfl⟩|⟨hne,a⟩
  ·exact hC
  ·exact h.cC j d b a
 ·rcases Ui hk a with⟨rfl,rfl,rfl⟩|⟨hne,a⟩
  ·have:s.st∈ss.map (·.st):=by rw[←hst];exact zC.2 ⟨s,i,rfl⟩
   obtain⟨t,ht,e⟩:=zC.1 this;rw[←e];exact h.one _ _ _ hk t ht
  ·exact h.one j d b a s i
 ·rcases Ui hk a with⟨rfl,rfl,rfl⟩|⟨hne,a⟩
  ·rw[RG hst];exact h.ow _ _ _ hk p
  ·exact h.ow j d b a p
 ·rcases Ui hk a with⟨rfl,rfl,rfl⟩|⟨hne,a⟩
  ·exact ht t g
  ·exact h.lG j d b t a g
theorem yK (hk:Cl A k c ss){ss':List cH}{j:Nat}{x:Int}:eZ {A with cC:=A.cC.set k ss'} j x↔(j=k/\Tk c ss' x)\/(j≠k/\eZ A j x):=by
 constructor
 ·rintro⟨d,tt,hj,hx⟩;rcases Ui hk hj with⟨rfl,rfl,rfl⟩|⟨hne,hj⟩
  ·exact .inl ⟨rfl,hx⟩
  ·exact .inr ⟨hne,d,tt,hj,hx⟩
 ·rintro(⟨rfl,hx⟩|⟨hne,d,tt,hj,hx⟩)
  ·exact⟨c,ss',U5 hk ss',hx⟩
  ·exact⟨d,tt,Nu hne hj,hx⟩
theorem KR (hk:Cl A k c ss){x:Int}:eZ A k x↔Tk c ss x:=by
 constructor
 ·rintro⟨d,tt,hj,hx⟩;obtain⟨rfl,rfl⟩:=hk.eq hj;exact hx
 ·intro hx;exact⟨c,ss,hk,hx⟩
def swp (A:AR)(k:Nat)(c:bW)(ss:List cH):AR:=VO {A with cC:=A.cC.set k (cK ss)} ((Z7 ss).map λs=>(s,c.aF))
theorem Bn {p:Nat}:iM ((Z7 ss).map λs=>(s,c.aF)) p↔∃x∈Z7 ss,x<=p/\p<x+c.aF:=by
 unfold iM;simp only[zC];constructor
 ·rintro⟨_,⟨x,hx,rfl⟩,h⟩;exact⟨x,hx,h⟩
 ·rintro⟨x,hx,h⟩;exact⟨_,⟨x,hx,rfl⟩,h⟩
theorem GA.ky (h:GA A)(hk:Cl A k c ss){x:Nat}(hx:x∈Z7 ss){p:Nat}(h1:x<=p)(h2:p<x+c.aF):A.f p=1/\A.ow p=k+1:=by
 obtain⟨s,a,_,rfl⟩:=Ci.1 hx;exact h.used hk a h1 h2
theorem GA.pV (h:GA A)(hk:Cl A k c ss):su {A with cC:=A.cC.set k (cK ss)} (swp A k c ss) ((Z7 ss).map λs=>(s,c.aF)):=by
 have g:=h.cC k c ss hk;refine Fq _ (h.pg.same rfl rfl rfl rfl) (λr d=>?_) (λr d p m i=>?_) ?_
 ·obtain⟨x,_,rfl⟩:=zC.1 d;exact g.pg
 ·obtain⟨x,j,rfl⟩:=zC.1 d;exact(h.ky hk j m i).1
 ·rw[qD];exact(Ο g).imp λ{a b} e=>.inl e
theorem GA.swp (h:GA A)(hk:Cl A k c ss):GA (Go.Ar.swp A k c ss):=by
 have b:=h.pV hk;have w:=h.cC k c ss hk;have F:=hk.lt;have C:=h.tb;have cl:∀{j d m},Cl (Go.Ar.swp A k c ss) j d m->(j=k/\d=c/\m=cK ss)\/(j≠k/\Cl A j d m):=λ{j d m} a=>Ui hk ⟨by rw[←b.tb];exact a.1,by rw[←b.cC];exact a.2⟩;have own:∀p,iM ((Z7 ss).map λs=>(s,c.aF)) p->A.ow p=k+1:=λp g=>by
  obtain⟨x,u,E,z⟩:=Bn.1 g;exact(h.ky hk u E z).2
 have cE:(Go.Ar.swp A k c ss).cE=A.cE:=b.cE;have tb:(Go.Ar.swp A k c ss).tb=A.tb:=b.tb;have runs:(Go.Ar.swp A k c ss).runs=A.runs:=b.runs;refine⟨b.pg,by rw[tb];exact h.tb,by rw[b.cC,tb];simp[h.lc],by rw[cE,tb];exact h.lt,λj d m a=>?_,λj d m a s y=>?_,λj d m a p=>?_,λp=>?_,λp=>?_,by rw[runs];exact h.gR,by rw[runs];exact h.jR,by rw[cE];exact h.oQ,λj d m t a r=>?_,by rw[cE,tb];exact h.oC⟩
 ·rcases cl a with⟨rfl,rfl,rfl⟩|⟨hne,a⟩
  ·exact w.cK
  ·exact h.cC j d m a
 ·rcases cl a with⟨rfl,rfl,rfl⟩|⟨hne,a⟩
  ·exact h.one _ _ _ hk s (zH.1 y).1
  ·exact h.one j d m a s y
 ·by_cases g:iM ((Z7 ss).map λs=>(s,c.aF)) p
  ·rw[(b.i p g).2];have D:=own p g;rcases cl a with⟨rfl,rfl,rfl⟩|⟨hne,a⟩
   ·rw[EK w];constructor
    ·intro e;omega
    ·rintro⟨_,hn⟩;exact(hn (Bn.1 g)).elim
   ·rw[←h.ow j d m a p,D];omega
  ·rw[(b.o p g).2];rcases cl a with⟨rfl,rfl,rfl⟩|⟨hne,a⟩
   ·rw[EK w];show A.ow p=_↔_;rw[h.ow _ _ _ hk p];exact⟨λu=>⟨u,λB=>g (Bn.2 B)⟩,λu=>u.1⟩
   ·exact h.ow j d m a p
 ·rw[runs];by_cases g:iM ((Z7 ss).map λs=>(s,c.aF)) p
  ·rw[(b.i p g).2,←h.jm,own p g];omega
  ·rw[(b.o p g).2];exact h.jm p
 ·rw[tb];by_cases g:iM ((Z7 ss).map λs=>(s,c.aF)) p
  ·rw[(b.i p g).2];omega
  ·rw[(b.o p g).2];exact h.pa p
 ·rw[cE]at r;rcases cl a with⟨rfl,rfl,rfl⟩|⟨hne,a⟩
  ·intro x u;exact(I0 w).2 (h.lG _ _ _ t hk r x u)
  ·exact h.lG j d m t a r
theorem GA.xJ (h:GA A)(hk:Cl A k c ss):Kp A (Go.Ar.swp A k c ss):=by
 have b:=h.pV hk;refine⟨b.n,b.tb,b.room,b.z,λp a=>?_⟩;by_cases hi:iM ((Z7 ss).map λs=>(s,c.aF)) p
 ·rw[(b.i p hi).1]at a;omega
 ·rw[(b.o p hi).1]at a;exact a
theorem GA.wI (h:GA A)(hk:Cl A k c ss){j:Nat}{x:Int}:eZ (Go.Ar.swp A k c ss) j x↔eZ A j x:=by
 have b:=h.pV hk;have a:=h.cC k c ss hk;have e:eZ (Go.Ar.swp A k c ss) j x↔eZ {A with cC:=A.cC.set k (cK ss)} j x:=by unfold eZ Cl;rw[b.tb,b.cC]
 rw[e,yK hk,I0 a];constructor
 ·rintro(⟨rfl,hx⟩|⟨_,hx⟩)
  ·exact(KR hk).2 hx
  ·exact hx
 ·intro hx;by_cases hjk:j=k
  ·subst hjk;exact .inl ⟨rfl,(KR hk).1 hx⟩
  ·exact .inr ⟨hjk,hx⟩
theorem Hy {k:Int}:A.ck k=true↔∃j:Nat,k=j/\j<A.tb.length:=by
 unfold AR.ck;simp only[zF,zT];constructor
 ·intro h;exact⟨k.toNat,O,O⟩
 ·rintro⟨j,rfl,h⟩;omega
structure Ob (A B:AR):Prop where
 ga:GA B
 kp:Kp A B
 runs:B.runs=A.runs
theorem Fs (h:GA A)(k m:Int):Ob A (YO A k m)/\(YO A k m).cE=A.cE/\(Yt A k m).Nodup/\(Yt A k m≠[]->∃j:Nat,k=j/\j<A.tb.length)/\(∀x∈Yt A k m,¬eZ A k.toNat (x:Int)) ∧
 ∀j y,eZ (YO A k m) j y↔eZ A j y\/(j=k.toNat/\∃x∈Yt A k m,y=((x:Nat):Int)):=by
 by_cases h0:QF A k m=0
 ·have g:A.ck k=true:=by
   unfold QF at h0;split at h0
   ·assumption
   ·cases h0
  obtain⟨j,rfl,s⟩:=Hy.1 g;obtain⟨c,ss,t,b,D⟩:=h.cl s;have r:Vz A (j:Int) m=Q8 c m.toNat ss:=by unfold Vz;rw[dC,b.1,b.2]
  have e:YO A (j:Int) m = {A with cC:=A.cC.set j (Q8 c m.toNat ss).2}:=by unfold YO;rw[zB h0,r,dC]
  have p:Yt A (j:Int) m=(Q8 c m.toNat ss).1:=by unfold Yt;rw[zB h0,r]
  rw[e,p];obtain⟨s1,B,E,z,w,u⟩:=Gb m.toNat (h.cC j c ss b);refine⟨⟨h.lV b s1 B λC d x a=>(u x).2 (.inr (h.lG j c ss C b d x a)),Kp.aF rfl rfl rfl rfl,rfl⟩,rfl,z,λ_=>⟨j,rfl,s⟩,λx a=>?_,λi y=>?_⟩
  ·rw[dC,KR b];exact w x a
  ·rw[yK b,u,dC];by_cases hij:i=j
   ·subst hij;rw[KR b];constructor
    ·rintro(⟨_,a|a⟩|⟨a,_⟩)
     ·exact .inr ⟨rfl,a⟩
     ·exact .inl a
     ·exact(a rfl).elim
    ·rintro(a|⟨_,a⟩)
     ·exact .inl ⟨rfl,.inr a⟩
     ·exact .inl ⟨rfl,.inl a⟩
   ·constructor
    ·rintro(⟨a,_⟩|⟨_,a⟩)
     ·exact(hij a).elim
     ·exact .inl a
    ·rintro(a|⟨a,_⟩)
     ·exact .inr ⟨hij,a⟩
     ·exact(hij a).elim
 ·have e:YO A k m=A:=by unfold YO;rw[zA h0]
  have p:Yt A k m=[]:=by unfold Yt;rw[zA h0]
  rw[e,p];exact⟨⟨h,Kp.refl A,rfl⟩,rfl,qJ,by simp,by simp,by simp⟩
theorem IS {xs:List Int}(h:kY c ss xs):iS c ss xs=0:=by
 unfold iS;have b:xs.any (λx=>(eI c ss x).isNone)=false:=by
  rw[np];intro x hx;rw[h.1 x hx];simp
 have a:xs.any (λx=>eI c ss x==some false)=false:=by
  rw[np];intro x hx;rw[h.1 x hx];simp
 rw[b,a,zW h.2];rfl
theorem H9 (h:GA A)(hk:Cl A k c ss)(xs:List Int):QW A (k:Int) xs=iS c ss xs:=by
 unfold QW;rw[Hy.2 ⟨k,rfl,hk.lt⟩,zB rfl,dC,hk.1,hk.2]
theorem CJ (h:GA A){k:Int}{xs:List Int}(h0:QW A k xs=0):∃(j:Nat) (c:bW) (ss:List cH),k=j/\Cl A j c ss/\kY c ss xs:=by
 have a:A.ck k=true:=by
  unfold QW at h0;split at h0
  ·assumption
  ·cases h0
 obtain⟨j,rfl,d⟩:=Hy.1 a;obtain⟨c,ss,t,b,e⟩:=h.cl d;rw[H9 h b]at h0;exact⟨j,c,ss,rfl,b,Fo h0⟩
theorem CU (h:GA A){k:Int}{xs:List Int}(hd:QW A k xs=0->∀x∈xs,¬ie A k.toNat x):Ob A (Zg A k xs)/\(Zg A k xs).cE=A.cE ∧
 (QW A k xs=0->∀j y,eZ (Zg A k xs) j y↔eZ A j y/\¬(j=k.toNat/\y∈xs))/\(QW A k xs≠0->Zg A k xs=A):=by
 by_cases h0:QW A k xs=0
 ·obtain⟨j,c,g,rfl,e,C⟩:=CJ h h0;obtain⟨D,B,u⟩:=Lz xs (h.cC j c g e) C;have p:=h.lV e D B λt s x a=>(u x).2 ⟨h.lG j c g t e s x a,λz=>hd h0 x z ⟨t,by rw[dC];exact s,a⟩⟩;have d:=U5 e (xs.foldl (fM c) g);have r:Zg A (j:Int) xs=swp {A with cC:=A.cC.set j (xs.foldl (fM c) g)} j c (xs.foldl (fM c) g):=by
   unfold Zg swp;rw[zB h0,dC,e.1,e.2];simp only[od]
  have b:=p.pV d;rw[r];refine⟨⟨p.swp d,(Kp.aF rfl rfl rfl rfl:Kp A {A with cC:=A.cC.set j (xs.foldl (fM c) g)}).trans (p.xJ d),b.runs⟩,b.cE,λ_ i y=>?_,λw=>(w h0).elim⟩;rw[p.wI d,yK e,u,dC];by_cases hij:i=j
  ·subst hij;rw[KR e];constructor
   ·rintro(⟨_,a,hy⟩|⟨a,_⟩)
    ·exact⟨a,λm=>hy m.2⟩
    ·exact(a rfl).elim
   ·rintro⟨a,hy⟩;exact .inl ⟨rfl,a,λm=>hy ⟨rfl,m⟩⟩
  ·constructor
   ·rintro(⟨a,_⟩|⟨_,a⟩)
    ·exact(hij a).elim
    ·exact⟨a,λm=>hij m.1⟩
   ·rintro⟨a,_⟩;exact .inr ⟨hij,a⟩
 ·have r:Zg A k xs=A:=by unfold Zg;rw[zA h0]
  rw[r];exact⟨⟨h,Kp.refl A,rfl⟩,rfl,λa=>(h0 a).elim,λ_=>rfl⟩
theorem GA.kF (h:GA A){k:Nat}{t':fQ}(h1:t'.bs.flatten.Nodup)(h2:∀x∈t'.bs.flatten,eZ A k x)(h3:∀c,A.tb[k]?=some c->∀xs∈t'.bs,xs.length=c.batch):GA {A with cE:=A.cE.set k t'}:=by
 have get:∀{j t},(A.cE.set k t')[j]?=some t->(j=k/\t=t')\/(j≠k/\A.cE[j]?=some t):=by
  intro j t a;by_cases hjk:j=k
  ·subst hjk;have e:j<A.cE.length:=by have:=(cQ.1 a).1;simpa using this
   rw[zM e]at a;exact .inl ⟨rfl,(Option.some.inj a).symm⟩
  ·rw[zi (Ne.symm hjk)]at a;exact .inr ⟨hjk,a⟩
 refine⟨h.pg.same rfl rfl rfl rfl,h.tb,h.lc,by simp[h.lt],h.cC,h.one,h.ow,h.jm,h.pa,h.gR,h.jR,λj t a=>?_,λj c g t b a x d=>?_,λj c t b a=>?_⟩
 ·rcases get a with⟨rfl,rfl⟩|⟨_,a⟩
  ·exact h1
  ·exact h.oQ j t a
 ·rcases get a with⟨rfl,rfl⟩|⟨_,a⟩
  ·exact(KR b).1 (h2 x d)
  ·exact h.lG j c g t b a x d
 ·rcases get a with⟨rfl,rfl⟩|⟨_,a⟩
  ·exact h3 c b
  ·exact h.oC j c t b a
theorem y8 {t':fQ}{j:Nat}{x:Int}(hk:k<A.cE.length):ie {A with cE:=A.cE.set k t'} j x↔(j=k/\x∈t'.bs.flatten)\/(j≠k/\ie A j x):=by
 by_cases hjk:j=k
 ·subst hjk;have a:(A.cE.set j t')[j]?=some t':=zM hk;constructor
  ·rintro⟨t,e,hx⟩;have e:(A.cE.set j t')[j]?=some t:=e;rw[a]at e;cases e;exact .inl ⟨rfl,hx⟩
  ·rintro(⟨_,hx⟩|⟨hx,_⟩)
   ·exact⟨_,a,hx⟩
   ·exact(hx rfl).elim
 ·have a:(A.cE.set k t')[j]?=A.cE[j]? := zi (Ne.symm hjk);constructor
  ·rintro⟨t,e,hx⟩;have e:(A.cE.set k t')[j]?=some t:=e;rw[a]at e;exact .inr ⟨hjk,t,e,hx⟩
  ·rintro(⟨hx,_⟩|⟨_,t,e,hx⟩)
   ·exact(hjk hx).elim
   ·exact⟨t,a.trans e,hx⟩
theorem HX {t:fQ}(ht:A.cE[k]?=some t){x:Int}:ie A k x↔x∈t.bs.flatten:=by
 constructor
 ·rintro⟨t',e,hx⟩;rw[ht]at e;cases e;exact hx
 ·intro hx;exact⟨t,ht,hx⟩
theorem Lr (h:GA A)(k:Int):Ob A (ZR A k)/\(∀j y,eZ (ZR A k) j y↔eZ A j y)/\(∀x∈YL A k,ie A k.toNat x)/\(YL A k).Nodup/\(YL A k≠[]->∃j:Nat,k=j/\j<A.tb.length) ∧
 ∀j y,ie (ZR A k) j y↔ie A j y/\¬(j=k.toNat/\y∈YL A k):=by
 by_cases h0:Z6 A k=0
 ·have p:A.ck k=true:=by
   unfold Z6 at h0;split at h0
   ·assumption
   ·cases h0
  obtain⟨j,rfl,D⟩:=Hy.1 p;obtain⟨c,H,t,E,g⟩:=h.cl D;have hne:t.bs≠[]:=by
   intro e;unfold Z6 at h0;rw[p,zB rfl,dC,g]at h0;simp[e]at h0
  have z:ZR A (j:Int) = {A with cE:=A.cE.set j t.rem}:=by unfold ZR;rw[zB h0,dC,K0 g]
  have B:YL A (j:Int)=t.bs.getLast?.getD []:=by unfold YL;rw[zB h0,dC,g]
  have C:t.bs=t.bs.dropLast++[t.bs.getLast hne]:=(List.dropLast_concat_getLast hne).symm;have J:YL A (j:Int)=t.bs.getLast hne:=by rw[B,List.getLast?_eq_some_getLast hne];rfl
  have d:t.bs.flatten=t.bs.dropLast.flatten++t.bs.getLast hne:=by
   conv=>lhs;rw[C]
   simp
  have r:=h.oQ j t g;rw[d]at r;have b:=og.1 r;have m:t.rem.bs=t.bs.dropLast:=rfl;rw[z,J];refine⟨⟨h.kF (by rw[m];exact b.1) (λx a=>(KR E).2 (h.lG j c H t E g x (by rw[d];exact nI _ a))) λF u G w=>h.oC j F t u g G ((List.dropLast_sublist _).subset w),Kp.aF rfl rfl rfl rfl,rfl⟩,λ_ _=>Iff.rfl,λx a=>?_,b.2.1,λ_=>⟨j,rfl,D⟩,λi y=>?_⟩
  ·rw[dC,HX g,d];exact pL _ a
  ·rw[y8 (by rw[h.lt];exact D),m,dC];by_cases hij:i=j
   ·subst hij;rw[HX g,d,zR];constructor
    ·rintro(⟨_,a⟩|⟨a,_⟩)
     ·exact⟨.inl a,λs=>b.2.2 y a y s.2 rfl⟩
     ·exact(a rfl).elim
    ·rintro⟨a|a,s⟩
     ·exact .inl ⟨rfl,a⟩
     ·exact(s ⟨rfl,a⟩).elim
   ·constructor
    ·rintro(⟨a,_⟩|⟨_,a⟩)
     ·exact(hij a).elim
     ·exact⟨a,λs=>hij s.1⟩
    ·rintro⟨a,_⟩;exact .inr ⟨hij,a⟩
 ·have z:ZR A k=A:=by unfold ZR;rw[zA h0]
  have B:YL A k=[]:=by unfold YL;rw[zA h0]
  rw[z,B];exact⟨⟨h,Kp.refl A,rfl⟩,λ_ _=>Iff.rfl,by simp,qJ,by simp,by simp⟩
theorem RS (h:GA A)(k:Int){xs:List Int}(hn:xs.Nodup)(hd:∀x∈xs,¬ie A k.toNat x):Ob A (Q7 A k xs)/\(∀j y,eZ (Q7 A k xs) j y↔eZ A j y) ∧
 (Vm A k xs=true->(∃j:Nat,k=j/\j<A.tb.length)/\(∀x∈xs,eZ A k.toNat x)/\∀j y,ie (Q7 A k xs) j y↔ie A j y\/(j=k.toNat/\y∈xs))/\(Vm A k xs=false->Q7 A k xs=A):=by
 by_cases h0:Vm A k xs=true
 ·have C:Hx A k xs=0:=by
   unfold Vm at h0;simp only[zF,zT]at h0;exact h0.1
  have z:A.ck k=true:=by
   unfold Hx at C;split at C
   ·assumption
   ·cases C
  obtain⟨j,rfl,D⟩:=Hy.1 z;obtain⟨c,F,t,u,s⟩:=h.cl D;have g:=C;unfold Hx at g;rw[z,zB rfl,dC,u.1,u.2]at g;simp only at g;have p:xs.length=c.batch:=by
   apply Classical.byContradiction;intro d;rw[zA d]at g;cases g
  rw[zB p]at g;have w:∀x∈xs,eZ A j x:=by
   intro x d;split at g
   ·rename_i B;rw[kN]at B;rw[KR u];simpa[Tk]using B x d
   ·cases g
  have E:Q7 A (j:Int) xs = {A with cE:=A.cE.set j {t with bs:=t.bs++[xs]}}:=by unfold Q7;rw[zB h0,dC,K0 s]
  have r:(t.bs++[xs]).flatten=t.bs.flatten++xs:=by simp
  rw[E];refine⟨⟨h.kF ?_ ?_ ?_,Kp.aF rfl rfl rfl rfl,rfl⟩,λ_ _=>Iff.rfl,λ_=>⟨⟨j,rfl,D⟩,by rw[dC];exact w,λi y=>?_⟩,λG=>by rw[G]at h0;cases h0⟩
  ·show(t.bs++[xs]).flatten.Nodup;rw[r,og];exact⟨h.oQ j t s,hn,λa B b H e=>hd b H (by subst e;rw[dC,HX s];exact B)⟩
  ·intro x d;have d:x∈(t.bs++[xs]).flatten:=d;rw[r,zR]at d;rcases d with d|d
   ·exact(KR u).2 (h.lG j c F t u s x d)
   ·exact w x d
  ·intro c' hc' ys m;have m:ys∈t.bs++[xs]:=m;rcases zR.1 m with m|m
   ·exact h.oC j c' t hc' s ys m
   ·simp only[zV]at m;rw[u.1]at hc';cases hc';rw[m];exact p
  ·rw[y8 (by rw[h.lt];exact D),dC];show(i=j/\y∈(t.bs++[xs]).flatten)\/_↔_;rw[r,zR];by_cases hij:i=j
   ·subst hij;rw[HX s];constructor
    ·rintro(⟨_,d|d⟩|⟨d,_⟩)
     ·exact .inl d
     ·exact .inr ⟨rfl,d⟩
     ·exact(d rfl).elim
    ·rintro(d|⟨_,d⟩)
     ·exact .inl ⟨rfl,.inl d⟩
     ·exact .inl ⟨rfl,.inr d⟩
   ·constructor
    ·rintro(⟨d,_⟩|⟨_,d⟩)
     ·exact(hij d).elim
     ·exact .inl d
    ·rintro(d|⟨d,_⟩)
     ·exact .inr ⟨hij,d⟩
     ·exact(hij d).elim
 ·have E:Q7 A k xs=A:=by unfold Q7;rw[zA h0]
  rw[E];exact⟨⟨h,Kp.refl A,rfl⟩,λ_ _=>Iff.rfl,λd=>(h0 d).elim,λ_=>rfl⟩
end Go.Ar
namespace Go.Ar
open Go.Bu (Zf QK j2 Zu qB iA Vb VX dJ take Kj Kg Bounded full can YP VS ZM QU ZQ Kc QT Qb VY U3 lD)
variable {A:AR}{sp:Sp}{k:Nat}{c:bW}{ss:List cH}
structure Ow (A:AR) (sp:Sp):Prop where
 l:sp.st.length=A.n
 own:∀p,A.f p≠0->gf sp.st p≠0
 cl:∀p,A.f p=3->gf sp.st p=1
 le:∀p,gf sp.st p<=2
structure St (A B:AR) (sp sp':Sp):Prop where
 ga:GA B
 ow:Ow B sp'
 n:B.n=A.n
 tb:B.tb=A.tb
 room:B.room=A.room
 same:∀p,A.f p=0->B.f p=0->gf sp'.st p=gf sp.st p
 gone:∀p,A.f p≠0->B.f p=0->gf sp'.st p=0
 new:∀p,A.f p=0->B.f p≠0->gf sp.st p=0/\16<=p
theorem St.refl (h:GA A)(hw:Ow A sp):St A A sp sp:=⟨h,hw,rfl,rfl,rfl,λ_ _ _=>rfl,λp b a=>(b a).elim,λp b a=>(a b).elim⟩
theorem Ow.len {B C:AR}{sp sp':Sp}(h:Ow B sp)(k:Ow C sp')(e:C.n=B.n):sp'.st.length=sp.st.length:=by rw[h.l,k.l,e]
theorem St.trans {B C:AR}{sp' sp'':Sp}(h:St A B sp sp')(k:St B C sp' sp''):St A C sp sp'':=by
 refine⟨k.ga,k.ow,k.n.trans h.n,k.tb.trans h.tb,k.room.trans h.room,λp b a=>?_,λp b a=>?_,λp b a=>?_⟩
 ·by_cases hB:B.f p=0
  ·rw[k.same p hB a,h.same p b hB]
  ·rw[k.gone p hB a,(h.new p b hB).1]
 ·by_cases hB:B.f p=0
  ·rw[k.same p hB a,h.gone p b hB]
  ·exact k.gone p hB a
 ·by_cases hB:B.f p=0
  ·have:=k.new p hB a;rw[h.same p b hB]at this;exact this
  ·exact h.new p b hB
theorem Ow.kp {B:AR}(hw:Ow A sp)(h:Kp A B):Ow B sp:=⟨hw.l.trans h.n.symm,λp a=>hw.own p λe=>a ((h.z p).2 e),λp a=>hw.cl p (h.t p a),hw.le⟩
theorem St.kp {B:AR}(hg:GA B)(hw:Ow A sp)(h:Kp A B):St A B sp sp:=
 ⟨hg,hw.kp h,h.n,h.tb,h.room,λ_ _ _=>rfl,λp b a=>(b ((h.z p).1 a)).elim,λp b a=>(a ((h.z p).2 b)).elim⟩
theorem Ob.st {B:AR}(o:Ob A B)(hw:Ow A sp):St A B sp sp:=St.kp o.ga hw o.kp
theorem GA.grown (h:GA A){B:AR}{sp':Sp}{s size:Nat}(g:Grown A B sp sp' s size):GA B:=by
 have e:∀{j d tt},Cl B j d tt↔Cl A j d tt:=λ{j d tt}=>by unfold Cl;rw[g.tb,g.cC]
 exact⟨g.pg,by rw[g.tb];exact h.tb,by rw[g.cC,g.tb];exact h.lc,by rw[g.cE,g.tb];exact h.lt,λj d tt a=>h.cC j d tt (e.1 a),λj d tt a=>h.one j d tt (e.1 a),λj d tt a p=>by rw[g.ow];exact h.ow j d tt (e.1 a) p,
  λp=>by rw[g.ow,g.runs];exact h.jm p,λp=>by rw[g.ow,g.tb];exact h.pa p,by rw[g.runs];exact h.gR,by rw[g.runs];exact h.jR,by rw[g.cE];exact h.oQ,λj d tt t a b=>h.lG j d tt t (e.1 a) (by rw[←g.cE];exact b),by rw[g.tb,g.cE];exact h.oC⟩
theorem Grown.st (h:GA A)(hw:Ow A sp){B:AR}{sp':Sp}{s size:Nat}(g:Grown A B sp sp' s size):St A B sp sp':=by
 have d:∀p,B.f p≠A.f p->s<=p/\p<s+size:=λp b=>by
  apply Classical.byContradiction;intro hn;exact b (g.o p hn).1
 refine⟨h.grown g,⟨g.l.trans (hw.l.trans g.n.symm),λp b=>?_,λp b=>?_,λp=>?_⟩,g.n,g.tb,g.room,λp j e=>?_,λp j e=>?_,λp j e=>?_⟩
 ·by_cases a:s<=p/\p<s+size
  ·rw[(g.i p a.1 a.2).2];omega
  ·rw[(g.o p a).2];rw[(g.o p a).1]at b;exact hw.own p b
 ·by_cases a:s<=p/\p<s+size
  ·rw[(g.i p a.1 a.2).2]
  ·rw[(g.o p a).2];rw[(g.o p a).1]at b;exact hw.cl p b
 ·by_cases a:s<=p/\p<s+size
  ·rw[(g.i p a.1 a.2).2];omega
  ·rw[(g.o p a).2];exact hw.le p
 ·refine(g.o p λa=>?_).2;rw[(g.i p a.1 a.2).1]at e;omega
 ·have:=d p O;rw[(g.i p this.1 this.2).1]at e;omega
 ·have:=d p O;exact⟨g.un p this.1 this.2,by have:=g.s1;omega⟩
theorem LM {n:Nat}{S:Nat->Bool}(hb:Bounded S n)(hn:n<=1024){j q m a:Nat}(hf:full S j q=true)(hm:m<=2^j)(ha:a<=2^j):Zu n S m a≠none:=by
 intro h0;have r:S (q*2^j)=true:=YP.1 hf _ (DB _ (lb j));obtain⟨i,e⟩:=VS hb r;have g:j<=i:=by
  apply Classical.byContradiction;intro hlt;exact QU e hf rfl (DB _ (lb j)) O
 have s:=ZQ hb (ZM.1 e).1;have d:i<11:=by
  apply Classical.byContradiction;intro hge;have:2^11<=2^i:=oM O O;omega
 have p:2^j<=2^i:=oM O g;have:=U3 h0 i d O O;have b:=(QT hb (k:=i)).2 ⟨_,rfl,e⟩;rw[this]at b;simp at b
theorem C8 (m:Nat):Q4 m=16\/Q4 m=32\/Q4 m=64:=by
 unfold Q4;split
 ·exact .inl rfl
 ·split
  ·exact .inr (.inl rfl)
  ·exact .inr (.inr rfl)
theorem Mf {m:Nat}(h:m<=64):m<=Q4 m:=by
 unfold Q4;split
 ·omega
 ·split<;>omega
theorem EE (h:GA A)(hw:Ow A sp){m a no:Nat}(h1:1<=m)(h2:m<=64)(ha:1<=a/\a<=16) :
 (cZ A sp m a no=(none,A,sp)/\Zu A.n A.S m a=none/\cY sp (Q4 (max m a))=none) ∨
 ∃x A1 sp1,cZ A sp m a no=(some x,dV A1 x m no,sp1)/\Zu A1.n A1.S m a=some x/\(A1=A/\sp1=sp\/Zu A.n A.S m a=none/\∃s,cY sp (Q4 (max m a))=some s/\Grown A A1 sp sp1 s (Q4 (max m a))):=by
 cases ht:Zu A.n A.S m a with
 | some x=>exact .inr ⟨x,A,sp,by unfold cZ;rw[ht],ht,.inl ⟨rfl,rfl⟩⟩
 | none=>
  cases hg:UT A sp (Q4 (max m a))with
  | none=>
   refine .inl ⟨by unfold cZ;rw[ht,hg],rfl,?_⟩;unfold UT at hg;split at hg
   ·assumption
   ·cases hg
  | some r=>
   obtain⟨A1,sp1⟩:=r;obtain⟨s,w,g⟩:=NQ h.pg hw.l (λp b=>Classical.byContradiction λy=>hw.own p y b) (C8 _) hg;have d:Zu A1.n A1.S m a≠none:=by
    have z:=Mf (m:=max m a) O;obtain⟨_,_,⟨i,B⟩,_⟩:=UW (by have:=C8 (max m a);omega) w;have key:∃j,Q4 (max m a)=2^j:=by
     rcases C8 (max m a)with e|e|e
     ·exact⟨4,e⟩
     ·exact⟨5,e⟩
     ·exact⟨6,e⟩
    obtain⟨j,C⟩:=key;refine LM g.pg.jC g.pg.n2 (j:=j) (q:=i) (YP.2 λp b=>?_) O O;rw[g.pg.fr];rw[Qb,←C,←B]at b;rw[(g.i p b.1 b.2).1];omega
   obtain⟨x,u⟩:=Option.ne_none_iff_exists'.1 d;exact .inr ⟨x,A1,sp1,by unfold cZ;rw[ht,hg];simp only;rw[u],u,.inr ⟨rfl,s,w,g⟩⟩
theorem IU (h:PG A){m a x:Nat}(hx:Zu A.n A.S m a=some x):∀p,x<=p->p<x+m->A.S p=true:=λp b d=>(lD h.jC hx).2 p b d
theorem OA (h:PG A){m a x:Nat}(h1:1<=m)(h4:m<=4)(hx:Zu A.n A.S m a=some x):x/16=(x+m-1)/16:=by
 obtain⟨j,_,b,_,d,_⟩:=VY hx;obtain⟨q,rfl,g⟩:=(QT h.jC).1 (List.mem_of_head? d)
 match j,b with
 | 0,b=>
  have:m=1:=by omega
  subst this;rfl
 | 1,b=>
  have:m<=2:=by omega
  simp only[Nat.pow_one]at *;omega
 | j+2,b=>
  have e:2^(j+2)=4*2^j:=by rw[Nat.pow_add];omega
  rw[e,←xj,Nat.mul_comm q 4,xj];generalize q*2^j=z;omega
theorem Jl (h:PG A){a m no:Nat}(h1:1<=m)(hn:no≠0)(hS:∀p,a<=p->p<a+m->A.S p=true):Kp A (dV A a m no):=by
 obtain⟨o,e,g,d⟩:=Dv h h1 hn hS;refine⟨rfl,rfl,rfl,d,λp b=>?_⟩;by_cases hin:a<=p/\p<a+m
 ·rw[(e p hin.1 hin.2).1]at b;omega
 ·rw[o.f p hin]at b;exact b
theorem GA.rj (h:GA A)(hk:Cl A k c ss){x:Nat}(hS:∀p,x<=p->p<x+c.aF->A.S p=true)(h1:x/16=(x+c.aF-1)/16) :
 GA {dV A x c.aF (k+1)with cC:=(dV A x c.aF (k+1)).cC.set k (iy c ss x)}/\(∀s∈ss,s.st+c.aF<=x\/x+c.aF<=s.st):=by
 have u:=h.cC k c ss hk;have m:=u.pg;have E:=hk.lt;have B:=h.tb;obtain⟨o,i,pg,F⟩:=Dv h.pg m (no:=k+1) O hS;have r:∀p,x<=p->p<x+c.aF->A.ow p=0:=λp D C=>by
  have z:=(h.pg.fr p).1 (hS p D C);apply Classical.byContradiction;intro hne;have:=(h.pg.us p).2 hne;omega
 have hd:∀s∈ss,s.st+c.aF<=x\/x+c.aF<=s.st:=λs b=>by
  apply Classical.byContradiction;intro hn;have z:=r (max x s.st) O O;have:=(h.used hk b (p:=max x s.st) O O).2;omega
 refine⟨?_,hd⟩;have e:Cl (dV A x c.aF (k+1)) k c ss:=hk;refine⟨pg.same rfl rfl rfl rfl,h.tb,by show(A.cC.set k _).length=_;simp[h.lc];rfl,h.lt,λj d g a=>?_,λj d g a s b=>?_,λj d g a p=>?_,λp=>?_,λp=>?_,h.gR,h.jR,h.oQ,λj d g t a w=>?_,h.oC⟩
 ·rcases Ui e a with⟨rfl,rfl,rfl⟩|⟨hne,a⟩
  ·exact Ez u hd
  ·exact h.cC j d g a
 ·rcases Ui e a with⟨rfl,rfl,rfl⟩|⟨hne,a⟩
  ·rcases Vu.1 b with rfl|b
   ·exact h1
   ·exact h.one _ _ _ hk s b
  ·exact h.one j d g a s b
 ·show(dV A x c.aF (k+1)).ow p=j+1↔_;by_cases hp:x<=p/\p<x+c.aF
  ·rw[(i p hp.1 hp.2).2];rcases Ui e a with⟨rfl,rfl,rfl⟩|⟨hne,a⟩
   ·exact⟨λ_=>⟨_,Vu.2 (.inl rfl),hp.1,hp.2⟩,λ_=>rfl⟩
   ·rw[←h.ow j d g a p,r p hp.1 hp.2];omega
  ·rw[o.ow p hp];rcases Ui e a with⟨rfl,rfl,rfl⟩|⟨hne,a⟩
   ·rw[h.ow _ _ _ hk p];constructor
    ·rintro⟨s,b,h3⟩;exact⟨s,Vu.2 (.inr b),h3⟩
    ·rintro⟨s,b,h3⟩;rcases Vu.1 b with rfl|b
     ·exact(hp h3).elim
     ·exact⟨s,b,h3⟩
   ·exact h.ow j d g a p
 ·show(dV A x c.aF (k+1)).ow p=41↔iM A.runs p;by_cases hp:x<=p/\p<x+c.aF
  ·rw[(i p hp.1 hp.2).2,←h.jm,r p hp.1 hp.2];omega
  ·rw[o.ow p hp];exact h.jm p
 ·show(dV A x c.aF (k+1)).ow p=41\/(dV A x c.aF (k+1)).ow p<=A.tb.length;by_cases hp:x<=p/\p<x+c.aF
  ·rw[(i p hp.1 hp.2).2];omega
  ·rw[o.ow p hp];exact h.pa p
 ·rcases Ui e a with⟨rfl,rfl,rfl⟩|⟨hne,a⟩
  ·intro y hy;exact(IJ u hd).2 (h.lG _ _ _ t hk w y hy)
  ·exact h.lG j d g t a w
theorem GA.sG (h:GA A){x m:Nat}(hm:1<=m)(hS:∀p,x<=p->p<x+m->A.S p=true):GA {dV A x m 41 with runs:=A.runs++[(x,m)]}:=by
 have z:=h.tb;obtain⟨o,e,pg,B⟩:=Dv h.pg hm (no:=41) O hS;have i:∀p,x<=p->p<x+m->A.ow p=0:=λp y w=>by
  have u:=(h.pg.fr p).1 (hS p y w);apply Classical.byContradiction;intro hne;have:=(h.pg.us p).2 hne;omega
 refine⟨pg.same rfl rfl rfl rfl,h.tb,h.lc,h.lt,h.cC,h.one,λj d tt b p=>?_,λp=>?_,λp=>?_,λr a=>?_,?_,h.oQ,h.lG,h.oC⟩
 ·have b:Cl A j d tt:=b;have:=b.lt;show(dV A x m 41).ow p=j+1↔_;by_cases hp:x<=p/\p<x+m
  ·rw[(e p hp.1 hp.2).2,←h.ow j d tt b p,i p hp.1 hp.2];omega
  ·rw[o.ow p hp];exact h.ow j d tt b p
 ·show(dV A x m 41).ow p=41↔iM (A.runs++[(x,m)]) p;by_cases hp:x<=p/\p<x+m
  ·rw[(e p hp.1 hp.2).2];exact⟨λ_=>⟨(x,m),by simp,hp⟩,λ_=>rfl⟩
  ·rw[o.ow p hp,h.jm];constructor
   ·rintro⟨r,a,h3⟩;exact⟨r,by simp[a],h3⟩
   ·rintro⟨r,a,h3⟩;rcases zR.1 a with a|a
    ·exact⟨r,a,h3⟩
    ·simp only[zV]at a;subst a;exact(hp h3).elim
 ·show(dV A x m 41).ow p=41\/(dV A x m 41).ow p<=A.tb.length;by_cases hp:x<=p/\p<x+m
  ·rw[(e p hp.1 hp.2).2];omega
  ·rw[o.ow p hp];exact h.pa p
 ·rcases zR.1 a with a|a
  ·exact h.gR r a
  ·simp only[zV]at a;subst a;exact hm
 ·refine pS.2 ⟨h.jR,by simp,λr a s g=>?_⟩;simp only[zV]at g;subst g;apply Classical.byContradiction;intro hn;simp only at hn;have:=h.gR r a;have u:=i (max x r.1) O O;have:=(h.jr a (p:=max x r.1) O O).2;omega
theorem PF {l:List (Nat×Nat)}{x m:Nat}(h:∀r∈l,r.1≠x):cD.mset2 l x m=l++[(x,m)]:=by
 unfold cD.mset2;rw[zA];simp only[j9,zZ,not_exists,not_and];exact h
theorem Iq (h:GA A)(hw:Ow A sp)(k:Int) :
 ((cP A sp k=(A,sp))/\KQ A sp k≠0) ∨
 ∃(j:Nat) (c:bW) (ss:List cH) (x:Nat) (A1:AR) (sp1:Sp),k=j/\Cl A j c ss/\Cl A1 j c ss/\KQ A sp k=0/\cP A sp k=({dV A1 x c.aF (j+1)with cC:=(dV A1 x c.aF (j+1)).cC.set j (iy c ss x)},sp1) ∧
  St A A1 sp sp1/\A1.runs=A.runs/\A1.cE=A.cE/\A1.cC=A.cC/\Zu A1.n A1.S c.aF 1=some x/\(∀s∈ss,s.st+c.aF<=x\/x+c.aF<=s.st)/\St A (cP A sp k).1 sp (cP A sp k).2:=by
 by_cases hck:A.ck k=true
 ·obtain⟨j,rfl,C⟩:=Hy.1 hck;obtain⟨c,ss,t,b,H⟩:=h.cl C;have F:=h.cC j c ss b;have y:=F.ok;unfold bW.ok at y;have G:=b.lt;rcases EE h hw (m:=c.aF) (a:=1) (no:=j+1) O O O with⟨hg,_⟩|⟨x,A1,sp1,hg,htk,hor⟩
  ·left;have w:KQ A sp (j:Int)=6:=by unfold KQ;rw[hck,zB rfl,dC,b.1,b.2];simp only;rw[hg]
   have E:cP A sp (j:Int)=(A,sp):=by unfold cP;rw[hck,zB rfl,dC,b.1,b.2];simp only;rw[hg]
   rw[E,w];exact⟨rfl,by simp⟩
  ·right;have w:KQ A sp (j:Int)=GW c ss x:=by unfold KQ;rw[hck,zB rfl,dC,b.1,b.2];simp only;rw[hg]
   have u:GA A1:=by
    rcases hor with⟨rfl,rfl⟩|⟨_,s,_,g⟩
    ·exact h
    ·exact h.grown g
   have d:St A A1 sp sp1:=by
    rcases hor with⟨rfl,rfl⟩|⟨_,s,_,g⟩
    ·exact St.refl h hw
    ·exact g.st h hw
   have e:A1.runs=A.runs/\A1.cE=A.cE/\A1.cC=A.cC:=by
    rcases hor with⟨rfl,rfl⟩|⟨_,s,_,g⟩
    ·exact⟨rfl,rfl,rfl⟩
    ·exact⟨g.runs,g.cE,g.cC⟩
   have i:Cl A1 j c ss:=⟨by rw[d.tb];exact b.1,by rw[e.2.2];exact b.2⟩;have z:=IU u.pg htk;obtain⟨D,hd⟩:=u.rj i z (OA u.pg O O htk);have B:=MU hd;have p:cP A sp (j:Int)=({dV A1 x c.aF (j+1)with cC:=(dV A1 x c.aF (j+1)).cC.set j (iy c ss x)},sp1):=by
    unfold cP;rw[hck,zB rfl,dC,b.1,b.2];simp only;rw[hg];simp only;rw[zB B]
   refine⟨j,c,ss,x,A1,sp1,rfl,b,i,by rw[w];exact B,p,d,e.1,e.2.1,e.2.2,htk,hd,?_⟩;rw[p];have kp:=Jl u.pg (no:=j+1) O O z;exact d.trans (St.kp D d.ow (kp.trans (Kp.aF rfl rfl rfl rfl)))
 ·left;have r:A.ck k=false:=by simpa using hck
  unfold cP KQ;rw[r];exact⟨rfl,by simp⟩
theorem θ (h:GA A)(hw:Ow A sp)(k:Int):St A (cP A sp k).1 sp (cP A sp k).2/\(cP A sp k).1.runs=A.runs/\(cP A sp k).1.cE=A.cE/\(∀j y,eZ (cP A sp k).1 j y↔eZ A j y)/\(KQ A sp k≠0->cP A sp k=(A,sp)):=by
 rcases Iq h hw k with⟨e,_⟩|⟨j,c,ss,x,A1,sp1,rfl,hk,hk1,hE,e,hst,r1,r2,r3,_,hd,hS⟩
 ·rw[e];exact⟨St.refl h hw,rfl,rfl,λ_ _=>Iff.rfl,λ_=>rfl⟩
 ·refine⟨hS,by rw[e];exact r1,by rw[e];exact r2,λi y=>?_,λd=>(d hE).elim⟩;rw[e];have b:Cl (dV A1 x c.aF (j+1)) j c ss:=hk1;rw[yK b,IJ (h.cC j c ss hk) hd];have g:eZ (dV A1 x c.aF (j+1)) i y↔eZ A i y:=by
   have:(dV A1 x c.aF (j+1)).tb=A.tb/\(dV A1 x c.aF (j+1)).cC=A.cC:=⟨hst.tb,r3⟩;unfold eZ Cl;rw[this.1,this.2]
  rw[g];by_cases hij:i=j
  ·subst hij;rw[KR hk];exact⟨λa=>by rcases a with⟨_,a⟩|⟨a,_⟩;exact a;exact(a rfl).elim,λa=>.inl ⟨rfl,a⟩⟩
  ·exact⟨λa=>by rcases a with⟨a,_⟩|⟨_,a⟩;exact(hij a).elim;exact a,λa=>.inr ⟨hij,a⟩⟩
theorem Tx {m a:Int}(h:Kl m a=true):∃x y:Nat,m=x/\a=y/\1<=x/\x<=64/\(y=1\/y=2\/y=4\/y=8\/y=16):=by
 unfold Kl at h;simp only[zF,zT,ot,zZ]at h;exact⟨m.toNat,a.toNat,O,O,O,O,O⟩
theorem Pg (h:GA A)(hw:Ow A sp)(m a:Int) :
 (cD A sp m a=(A,sp)/\Qz A sp m a≠0/\(Kl m a=true->Qz A sp m a=6/\Zu A.n A.S m.toNat a.toNat=none/\cY sp (Q4 (max m.toNat a.toNat))=none)) ∨
 ∃(x:Nat) (A1:AR) (sp1:Sp),Kl m a=true/\Qz A sp m a=0/\Z5 A sp m a=x/\cD A sp m a=({dV A1 x m.toNat 41 with runs:=A.runs++[(x,m.toNat)]},sp1) ∧
  Zu A1.n A1.S m.toNat a.toNat=some x/\(A1=A/\sp1=sp\/Zu A.n A.S m.toNat a.toNat=none/\∃s,cY sp (Q4 (max m.toNat a.toNat))=some s/\Grown A A1 sp sp1 s (Q4 (max m.toNat a.toNat))) ∧
  St A (cD A sp m a).1 sp (cD A sp m a).2/\(cD A sp m a).1.cE=A.cE/\(∀j y,eZ (cD A sp m a).1 j y↔eZ A j y):=by
 by_cases hp:Kl m a=true
 ·obtain⟨b,u,rfl,rfl,K,J,V⟩:=Tx hp;have F:Qz A sp (b:Int) (u:Int)=if(cZ A sp b u 41).1.isSome then 0 else 6:=by unfold Qz;rw[zB hp,dC,dC]
  have N:Z5 A sp (b:Int) (u:Int)=(cZ A sp b u 41).1.getD 0:=by unfold Z5;rw[zB hp,dC,dC]
  rcases EE h hw (m:=b) (a:=u) (no:=41) K J O with⟨hg,hn1,hn2⟩|⟨x,A1,sp1,hg,htk,hor⟩
  ·left;have L:cD A sp (b:Int) (u:Int)=(A,sp):=by unfold cD;rw[zB hp,dC,dC,hg]
   rw[L,F,hg,dC,dC];exact⟨rfl,by simp,λ_=>⟨rfl,hn1,hn2⟩⟩
  ·right;have z:GA A1:=by
    rcases hor with⟨rfl,rfl⟩|⟨_,s,_,g⟩
    ·exact h
    ·exact h.grown g
   have w:St A A1 sp sp1:=by
    rcases hor with⟨rfl,rfl⟩|⟨_,s,_,g⟩
    ·exact St.refl h hw
    ·exact g.st h hw
   have d:A1.runs=A.runs/\A1.cE=A.cE/\A1.cC=A.cC:=by
    rcases hor with⟨rfl,rfl⟩|⟨_,s,_,g⟩
    ·exact⟨rfl,rfl,rfl⟩
    ·exact⟨g.runs,g.cE,g.cC⟩
   have E:=IU z.pg htk;have B:∀r∈A.runs,r.1≠x:=λr H e=>by
    have C:r∈A1.runs:=by rw[d.1];exact H
    have:=z.gR r C;have R:=(z.jr C (p:=x) O O).1;have U:=(z.pg.fr x).1 (E x O O);omega
   have i:cD A sp (b:Int) (u:Int)=({dV A1 x b 41 with runs:=A.runs++[(x,b)]},sp1):=by
    unfold cD;rw[zB hp,dC,dC,hg];show({dV A1 x b 41 with runs:=cD.mset2 A1.runs x b},sp1)=_;rw[d.1,PF B]
   have G:=z.sG O E;rw[d.1]at G;have kp:=Jl z.pg (no:=41) O O E;refine⟨x,A1,sp1,hp,by rw[F,hg];rfl,by rw[N,hg];rfl,by rw[dC];exact i,by rw[dC,dC];exact htk,by rw[dC,dC];exact hor,?_,by rw[i];exact d.2.1,λj y=>?_⟩
   ·rw[i];exact w.trans (St.kp G w.ow (kp.trans (Kp.aF rfl rfl rfl rfl)))
   ·rw[i];have Q:({dV A1 x b 41 with runs:=A.runs++[(x,b)]}:AR).tb=A.tb:=w.tb;have M:({dV A1 x b 41 with runs:=A.runs++[(x,b)]}:AR).cC=A.cC:=d.2.2;unfold eZ Cl;rw[Q,M]
 ·left;have D:Kl m a=false:=by simpa using hp
  unfold cD Qz;rw[D];exact⟨rfl,by simp,λP=>by cases P⟩
theorem NW {x:Int}{r:Nat×Nat}(h:qz A x=some r):r∈A.runs/\x=(r.1:Int):=by
 unfold qz at h;exact⟨tZ h,by have:=sI h;simpa using Eq.symm (by simpa using this)⟩
theorem Nl (h:GA A)(x:Int):(Kp A (QE A x)/\GA (QE A x))/\(QE A x).cE=A.cE/\(∀j y,eZ (QE A x) j y↔eZ A j y)/\(KT A x≠0->QE A x=A) ∧
 (KT A x=0->∃r∈A.runs,x=(r.1:Int)/\(QE A x).runs=A.runs.filter λq=>!(q==r)):=by
 cases hr:qz A x with
 | none=>
  have e:QE A x=A:=by unfold QE;rw[hr]
  have C:KT A x=8:=by unfold KT;rw[hr];rfl
  rw[e,C];exact⟨⟨Kp.refl A,h⟩,rfl,λ_ _=>Iff.rfl,λ_=>rfl,λi=>by cases i⟩
 | some r=>
  obtain⟨b,i⟩:=NW hr;have u:=h.gR r b;have s:A.runs.filter (λq=>!((q.1:Int)==x))=A.runs.filter λq=>!(q==r):=by
   apply zx;intro q g;have:((q.1:Int)==x)=(q==r):=by
    rw[nL];simp only[zZ];constructor
    ·intro e;have G:=h.gR q g;exact h.ic g b (x:=q.1) O O O O
    ·rintro rfl;exact i.symm
   rw[this]
  have e:QE A x=V3 {A with runs:=A.runs.filter λq=>!(q==r)} r:=by unfold QE;rw[hr];simp only;rw[s]
  have C:KT A x=0:=by unfold KT;rw[hr];rfl
  obtain⟨a,m⟩:=r;obtain⟨o,B,pg,H⟩:=I3 (A:={A with runs:=A.runs.filter λq=>!(q==(a,m))}) (h.pg.same rfl rfl rfl rfl) u (λp F E=>(h.jr b F E).1);have own:∀p,a<=p->p<a+m->A.ow p=41:=λp F E=>(h.jr b F E).2;have J:=h.tb;rw[e,C];refine⟨⟨⟨rfl,rfl,rfl,H,λp D=>?_⟩,?_⟩,rfl,λ_ _=>Iff.rfl,λi=>(i rfl).elim,λ_=>⟨_,b,i,rfl⟩⟩
  ·by_cases hin:a<=p/\p<a+m
   ·rw[(B p hin.1 hin.2).1]at D;omega
   ·rw[o.f p hin]at D;exact D
  ·refine⟨pg,h.tb,h.lc,h.lt,h.cC,h.one,λj d tt w p=>?_,λp=>?_,λp=>?_,λq g=>h.gR q (zH.1 g).1,h.jR.filter _,h.oQ,h.lG,h.oC⟩
   ·have w:Cl A j d tt:=w;have:=w.lt;by_cases hin:a<=p/\p<a+m
    ·rw[(B p hin.1 hin.2).2,←h.ow j d tt w p,own p hin.1 hin.2];omega
    ·rw[o.ow p hin];exact h.ow j d tt w p
   ·show _↔iM (A.runs.filter λq=>!(q==(a,m))) p;by_cases hin:a<=p/\p<a+m
    ·rw[(B p hin.1 hin.2).2];constructor
     ·intro i;omega
     ·rintro⟨q,g,q1,q2⟩;have z:=zH.1 g;have:=h.ic z.1 b q1 q2 hin.1 hin.2;subst this;simp at z
    ·rw[o.ow p hin];show A.ow p=41↔_;rw[h.jm];constructor
     ·rintro⟨q,g,q1⟩;refine⟨q,zH.2 ⟨g,?_⟩,q1⟩;have:q≠(a,m):=by rintro rfl;exact hin q1
      simpa using this
     ·rintro⟨q,g,q1⟩;exact⟨q,(zH.1 g).1,q1⟩
   ·by_cases hin:a<=p/\p<a+m
    ·rw[(B p hin.1 hin.2).2];omega
    ·rw[o.ow p hin];exact h.pa p
theorem ψ (hk:Cl A k c ss):QM A k=swp A k c ss:=by unfold QM swp;rw[hk.1,hk.2]
theorem Jk (h:GA A):∀m,m<=A.tb.length->Ob A ((List.range m).foldl QM A)/\((List.range m).foldl QM A).cE=A.cE/\∀j y,eZ ((List.range m).foldl QM A) j y↔eZ A j y
 | 0,_=>⟨⟨h,Kp.refl A,rfl⟩,rfl,λ_ _=>Iff.rfl⟩
 | m+1,hm=>by
  obtain⟨o,e,t⟩:=Jk h m O;rw[j7,mN,lg,List.foldl_nil];generalize (List.range m).foldl QM A=B at o e t;obtain⟨c,d,_,a,_⟩:=o.ga.cl (k:=m) (by rw[o.kp.tb];omega);rw[ψ a];have b:=o.ga.pV a;exact⟨⟨o.ga.swp a,o.kp.trans (o.ga.xJ a),b.runs.trans o.runs⟩,b.cE.trans e,λj y=>(o.ga.wI a).trans (t j y)⟩
theorem Up (h:GA A):Ob A (YI A)/\(YI A).cE=A.cE/\∀j y,eZ (YI A) j y↔eZ A j y:=Jk h _ (zD _)
theorem BI (k:Nat):∀(outs:List (List Int)) {A:AR},GA A->outs.flatten.Nodup->(∀x∈outs.flatten,eZ A k x/\¬ie A k x) →
 Ob A (outs.foldl (λA' xs=>Zg A' (k:Int) xs) A)/\(outs.foldl (λA' xs=>Zg A' (k:Int) xs) A).cE=A.cE/\∀j y,eZ (outs.foldl (λA' xs=>Zg A' (k:Int) xs) A) j y↔eZ A j y/\¬(j=k/\y∈outs.flatten)
 | [],A,h,_,_=>⟨⟨h,Kp.refl A,rfl⟩,rfl,by simp⟩
 | xs::outs,A,h,hn,ht=>by
  rw[uU]at hn ht;have hn':=og.1 hn;have m:∀x∈xs,eZ A k x/\¬ie A k x:=λx i=>ht x (nI _ i);rw[lg];cases xs with
  | nil=>
   have s:Zg A (k:Int) []=A\/QW A (k:Int) []=0:=by
    by_cases w:QW A (k:Int) []=0
    ·exact .inr w
    ·exact .inl (by unfold Zg;rw[zA w])
   obtain⟨o,e,t,_⟩:=CU h (k:=(k:Int)) (xs:=[]) (λ_=>by simp);have u:∀j y,eZ (Zg A (k:Int) []) j y↔eZ A j y:=λj y=>by
    rcases s with s|s
    ·rw[s]
    ·rw[t s];simp
   have p:∀j y,ie (Zg A (k:Int) []) j y↔ie A j y:=λj y=>by unfold ie;rw[e]
   obtain⟨o2,B,z⟩:=BI k outs o.ga hn'.2.1 λx i=>by rw[u,p];exact ht x (pL _ i)
   exact⟨⟨o2.ga,o.kp.trans o2.kp,o2.runs.trans o.runs⟩,B.trans e,λj y=>by rw[z,u];simp⟩
  | cons x0 xs=>
   obtain⟨c,D,C,_⟩:=(m x0 aA).1;have w:QW A (k:Int) (x0::xs)=0:=by
    rw[H9 h C];exact IS ⟨λx i=>(KR C).1 (m x i).1,hn'.1⟩
   obtain⟨o,e,t,_⟩:=CU h (k:=(k:Int)) (xs:=x0::xs) (λ_ x i=>by rw[dC];exact(m x i).2);have u:=t w;have p:∀j y,ie (Zg A (k:Int) (x0::xs)) j y↔ie A j y:=λj y=>by unfold ie;rw[e]
   obtain⟨o2,B,z⟩:=BI k outs o.ga hn'.2.1 λx i=>by
    rw[u,p];have:=ht x (pL _ i);exact⟨⟨this.1,λg=>hn'.2.2 x g.2 x i rfl⟩,this.2⟩
   refine⟨⟨o2.ga,o.kp.trans o2.kp,o2.runs.trans o.runs⟩,B.trans e,λj y=>?_⟩;rw[z,u,dC,uU,zR];constructor
   ·rintro⟨⟨a,b⟩,d⟩;refine⟨a,λ⟨r,g⟩=>?_⟩;rcases g with g|g
    ·exact b ⟨r,g⟩
    ·exact d ⟨r,g⟩
   ·rintro⟨a,b⟩;exact⟨⟨a,λ⟨r,g⟩=>b ⟨r,.inl g⟩⟩,λ⟨r,g⟩=>b ⟨r,.inr g⟩⟩
structure tv (A B:AR):Prop where
 ob:Ob A B
 sub:∀j y,ie B j y->ie A j y
 tk:∀j y,eZ B j y↔eZ A j y/\(ie A j y->ie B j y)
theorem tv.trans {B C:AR}(h:tv A B)(k:tv B C):tv A C:=
 ⟨⟨k.ob.ga,h.ob.kp.trans k.ob.kp,k.ob.runs.trans h.ob.runs⟩,λj y g=>h.sub j y (k.sub j y g),λj y=>by
  rw[k.tk,h.tk];exact⟨λ⟨⟨a,b⟩,d⟩=>⟨a,λe=>d (b e)⟩,λ⟨a,b⟩=>⟨⟨a,λe=>k.sub j y (b e)⟩,λe=>b (h.sub j y e)⟩⟩⟩
theorem Ov (h:GA A)(hk:k<A.tb.length):tv A (Ks A k):=by
 obtain⟨c,H,t,D,m⟩:=h.cl hk;have u:k<A.cE.length:=by rw[h.lt];exact hk
 have e:Ks A k=t.out.foldl (λA' w=>Zg A' (k:Int) w) {A with cE:=A.cE.set k t.tick}:=by unfold Ks;rw[m]
 have C:t.bs=t.out++t.tick.bs:=(mZ ((t.low+1)/2) t.bs).symm;have i:t.bs.flatten=t.out.flatten++t.tick.bs.flatten:=by conv=>lhs;rw[C];rw[Dl]
 have s:=h.oQ k t m;rw[i]at s;have g:=og.1 s;have p:∀x∈t.bs.flatten,eZ A k x:=λx d=>(KR D).2 (h.lG k c H t D m x d);have J:GA {A with cE:=A.cE.set k t.tick}:=h.kF g.2.1 (λx d=>p x (by rw[i];exact pL _ d)) λG z w B=>h.oC k G t z m w (t.mC w B);obtain⟨o,E,F⟩:=BI k t.out J g.1 λx d=>by
  refine⟨p x (by rw[i];exact nI _ d),?_⟩;rw[y8 u];rintro(⟨_,hy⟩|⟨hy,_⟩)
  ·exact g.2.2 x d x hy rfl
  ·exact hy rfl
 rw[←e]at o E F;have r:∀j y,ie (Ks A k) j y↔(j=k/\y∈t.tick.bs.flatten)\/(j≠k/\ie A j y):=λj y=>by
  rw[←y8 u];unfold ie;rw[E]
 refine⟨⟨o.ga,(Kp.aF rfl rfl rfl rfl:Kp A {A with cE:=A.cE.set k t.tick}).trans o.kp,o.runs⟩,λj y d=>?_,λj y=>?_⟩
 ·rcases(r j y).1 d with⟨rfl,hy⟩|⟨_,hy⟩
  ·rw[HX m,i];exact pL _ hy
  ·exact hy
 ·rw[F,r];show eZ A j y/\_↔_;by_cases hjk:j=k
  ·subst hjk;rw[HX m,i,zR];constructor
   ·rintro⟨a,b⟩;refine⟨a,λd=>?_⟩;rcases d with d|d
    ·exact(b ⟨rfl,d⟩).elim
    ·exact .inl ⟨rfl,d⟩
   ·rintro⟨a,b⟩;refine⟨a,λ⟨_,d⟩=>?_⟩;rcases b (.inl d)with⟨_,hy⟩|⟨hy,_⟩
    ·exact g.2.2 y d y hy rfl
    ·exact hy rfl
  ·exact⟨λ⟨a,_⟩=>⟨a,λd=>.inr ⟨hjk,d⟩⟩,λ⟨a,_⟩=>⟨a,λ⟨d,_⟩=>hjk d⟩⟩
theorem Ey (h:GA A):∀m,m<=A.tb.length->tv A ((List.range m).foldl Ks A)
 | 0,_=>⟨⟨h,Kp.refl A,rfl⟩,λ_ _=>id,λ_ _=>⟨λa=>⟨a,id⟩,λa=>a.1⟩⟩
 | m+1,hm=>by
  have t:=Ey h m O;rw[j7,mN,lg,List.foldl_nil];exact t.trans (Ov t.ob.ga (by rw[t.ob.kp.tb];omega))
theorem Sa (h:GA A):tv A (U7 A):=Ey h _ (by rw[h.lt];exact zD _)
end Go.Ar
namespace Go.Ar
open Go.Bu (Zf QK j2 Zu qB iA Vb VX dJ take Kj Kg Bounded)
variable {A:AR}{sp:Sp}{k:Nat}{c:bW}{ss:List cH}
theorem Db {st:List Nat}{a m v:Nat}(hl:a+m<=st.length):v∈(st.drop a).take m↔∃p,a<=p/\p<a+m/\gf st p=v:=by
 constructor
 ·intro hm;obtain⟨i,b⟩:=zN hm;rw[zX]at b;split at b
  ·rename_i hlt;rw[zp]at b;refine⟨a+i,O,O,?_⟩;unfold gf;rw[zL,b];rfl
  ·cases b
 ·rintro⟨p,h1,h2,h3⟩;have d:p<st.length:=by omega
  unfold gf at h3;rw[zL,cM d]at h3;refine zE (i:=p-a) ?_;rw[zX,zB O,zp,show a+(p-a)=p by omega,cM d];exact congrArg some h3
theorem Ht {st:List Nat}{a b v:Nat}(hab:a<=b)(hb:b<=st.length):gA st a b v=0↔∀p,a<=p->p<b->gf st p≠v:=by
 unfold gA;rw[wy,Db O];constructor
 ·intro h p d g e;exact h ⟨p,d,O,e⟩
 ·rintro h ⟨p,d,g,e⟩;exact h p d O e
theorem IA {s m v:Nat}(h1:1<=m)(h2:s+m<=sp.st.length)(h:∀p,s<=p->p<s+m->gf sp.st p≠0):dX sp (s:Int) (m:Int) v=sp.set s m v:=by
 unfold dX fD;rw[zB (Vl.2 ⟨h1,h2⟩),dC,dC,(Na h2).2 h];rfl
theorem EM {s m v:Nat}(h2:s+m<=sp.st.length)(p:Nat):gf (sp.set s m v).st p=if s<=p/\p<s+m then v else gf sp.st p:=Hs h2
theorem EH {s m v x:Nat}(h:¬(s<=x/32/\x/32<s+m)):(sp.set s m v).wd x=sp.wd x:=by
 show(if s*32<=x/\x<(s+m)*32 then 0 else sp.wd x)=_
 rw[zA O]
structure CP (A B:AR) (sp sp':Sp) (l:List Nat):Prop where
 st:St A B sp sp'
 f:∀p,B.f p=if p/16∈l then 0 else A.f p
 ow:B.ow=A.ow
 cE:B.cE=A.cE
 cC:B.cC=A.cC
 runs:B.runs=A.runs
 wd:∀x,x/32/16∉l->sp'.wd x=sp.wd x
 gf:∀p,p/16∉l->gf sp'.st p=gf sp.st p
 pk:sp'.pk=sp.pk
theorem OD (h:GA A)(hw:Ow A sp){g:Nat}(hg:16*g+16<=A.n)(hi:∀p,p/16=g->2<=A.f p):CP A (Vn (A,sp) g).1 sp (Vn (A,sp) g).2 [g]:=by
 have w:∀p,16*g<=p/\p<16*g+16↔p/16=g:=λp=>by omega
 have D:(Vn (A,sp) g).1.st=fY A.st (16*g) (16*g+16) 0:=by
  show jS A.st (g:Int)=_;have B:vp A.st g=true:=by
   unfold vp;have u:=hi (16*g) O;have i:=(Ht (st:=A.st) (a:=16*g) (b:=16*g+16) (v:=1) O (by rw[h.pg.len];exact hg)).2 λp F E e=>by
    have:=hi p O;unfold AR.f at this;omega
   unfold AR.f gf at u;have C:A.st.getD (16*g) 0≠0:=by omega
   rw[i,bne_iff_ne.2 C];rfl
  unfold jS lO;rw[UE (by rw[h.pg.len];exact hg),zB rfl,dC,B];rfl
 have H:(Vn (A,sp) g).1.S=take A.S (g*16) (g*16+16):=Υ (n:=A.n) (S:=A.S) (a:=g*16) (m:=16) O O λp F E=>by rw[h.pg.fr];exact hi p O
 have y:(Vn (A,sp) g).2=sp.set (g*16) 16 0:=IA (sp:=sp) (s:=g*16) (m:=16) (v:=0) O (by rw[hw.l];omega) λp F E=>hw.own p (by have:=hi p O;omega);have z:g*16+16<=sp.st.length:=by rw[hw.l];omega
 have j:∀p,(Vn (A,sp) g).1.f p=if p/16=g then 0 else A.f p:=λp=>by
  unfold AR.f;rw[D,Hs (by rw[h.pg.len];exact hg)];by_cases hp:p/16=g
  ·rw[zB hp,zB ((w p).2 hp)]
  ·rw[zA hp,zA (λd=>hp ((w p).1 d))]
 have r:∀p,gf (Vn (A,sp) g).2.st p=if p/16=g then 0 else gf sp.st p:=λp=>by
  rw[y,EM z];by_cases hp:p/16=g
  ·rw[zB hp,zB O]
  ·rw[zA hp,zA O]
 have pg:PG (Vn (A,sp) g).1:=by
  refine⟨by rw[D,Qj];exact h.pg.len,h.pg.n1,h.pg.n2,h.pg.n16,λp=>?_,λp=>?_,λp=>?_,λp=>?_⟩
  ·rw[j];have:=h.pg.le p;split<;>omega
  ·rw[j];show _↔A.ow p≠0;have:=h.pg.us p;by_cases hp:p/16=g
   ·rw[zB hp];have:=hi p hp;constructor
    ·intro d;omega
    ·intro d;have:=(h.pg.us p).2 d;omega
   ·rw[zA hp];exact this
  ·rw[j,H,Kg];have:=h.pg.fr p;by_cases hp:p/16=g
   ·rw[zB hp];constructor
    ·rintro⟨_,d⟩;exact(d O).elim
    ·intro d;omega
   ·rw[zA hp];constructor
    ·rintro⟨d,_⟩;exact this.1 d
    ·intro d;exact⟨this.2 d,O⟩
  ·rw[j,j];have e:p/16*16/16=p/16:=by omega
   rw[e];split
   ·exact Iff.rfl
   ·exact h.pg.hp p
 have J:GA (Vn (A,sp) g).1:=⟨pg,h.tb,h.lc,h.lt,h.cC,h.one,h.ow,h.jm,h.pa,h.gR,h.jR,h.oQ,h.lG,h.oC⟩;refine⟨⟨J,⟨by rw[y];show(fY _ _ _ _).length=A.n;rw[Qj];exact hw.l,λp hp=>?_,λp hp=>?_,λp=>?_⟩,rfl,rfl,rfl,λp u i=>?_,λp u i=>?_,λp u i=>?_⟩,λp=>?_,rfl,rfl,rfl,rfl,λx d=>?_,λp hp=>?_,?_⟩
 ·rw[j]at hp;rw[r];split at hp
  ·exact(hp rfl).elim
  ·rename_i hn;rw[zA hn];exact hw.own p hp
 ·rw[j]at hp;rw[r];split at hp
  ·cases hp
  ·rename_i hn;rw[zA hn];exact hw.cl p hp
 ·rw[r];have:=hw.le p;split<;>omega
 ·rw[r];by_cases hp:p/16=g
  ·have:=hi p hp;omega
  ·rw[zA hp]
 ·rw[j]at i;rw[r];split at i
  ·rename_i hp;rw[zB hp]
  ·exact(u i).elim
 ·rw[j]at i;split at i
  ·exact(i rfl).elim
  ·exact(i u).elim
 ·rw[j];simp
 ·rw[y];exact EH λG=>d aE
 ·rw[r,zA (by simpa using hp)]
 ·rw[y];rfl
theorem Eo:∀(l:List Nat) {A:AR} {sp:Sp},GA A->Ow A sp->l.Nodup->(∀g∈l,16*g+16<=A.n/\∀p,p/16=g->2<=A.f p)->CP A (l.foldl Vn (A,sp)).1 sp (l.foldl Vn (A,sp)).2 l
 | [],A,sp,h,hw,_,_=>⟨St.refl h hw,λp=>by simp,rfl,rfl,rfl,rfl,λ_ _=>rfl,λ_ _=>rfl,rfl⟩
 | g::l,A,sp,h,hw,hn,hi=>by
  have hn':=zq.1 hn;have t:=OD h hw (hi g aA).1 (hi g aA).2;have k:=Eo l (A:=(Vn (A,sp) g).1) (sp:=(Vn (A,sp) g).2) t.st.ga t.st.ow hn'.2 λe a=>by
   refine⟨by rw[t.st.n];exact(hi e (by simp[a])).1,λp b=>?_⟩;rw[t.f,zA (by simp;rintro rfl;exact hn'.1 (b▸a))];exact(hi e (by simp[a])).2 p b
  rw[lg];refine⟨t.st.trans k.st,λp=>?_,k.ow.trans t.ow,k.cE.trans t.cE,k.cC.trans t.cC,k.runs.trans t.runs,λx d=>?_,λp b=>?_,k.pk.trans t.pk⟩
  ·rw[k.f,t.f];by_cases h1:p/16∈l
   ·rw[zB h1,zB (by simp[h1])]
   ·rw[zA h1];by_cases h2:p/16=g
    ·rw[zB (by simp[h2]),zB (by simp[h2])]
    ·rw[zA (by simp[h2]),zA (by simp[h1,h2])]
  ·simp only[zQ,not_or]at d;exact(k.wd x d.2).trans (t.wd x (by simpa using d.1))
  ·simp only[zQ,not_or]at b;exact(k.gf p b.2).trans (t.gf p (by simpa using b.1))
theorem JR (h:GA A){g:Nat}:g∈Kf A.st 0↔16*g+16<=A.n/\∀p,p/16=g->2<=A.f p:=by
 have r:=h.pg.n16;unfold Kf;rw[zH,zU,h.pg.len];have m:∀(d:16*g+16<=A.n),(KP A.st g==0)=true↔∀p,p/16=g->A.f p≠1:=λd=>by
  have i:=Ht (st:=A.st) (a:=16*g) (b:=16*g+16) (v:=1) O (by rw[h.pg.len];exact d);have e:(KP A.st g==0)=true↔gA A.st (16*g) (16*g+16) 1=0:=by
   unfold KP;split
   ·rename_i hx;simp[hx]
   ·rename_i hx;constructor
    ·intro hy;split at hy<;>simp at hy
    ·intro hy;exact(hx hy).elim
  rw[e,i];constructor
  ·intro hx p j;exact hx p O O
  ·intro hx p p1 p2;exact hx p O
 simp only[zF,bne_iff_ne,ne_eq];constructor
 ·rintro⟨h1,i,h3⟩;have d:16*g+16<=A.n:=by omega
  refine⟨d,λp j=>?_⟩;have u:=(m d).1 h3 p j;have s:A.f p≠0:=λe=>i ((h.pg.ke (q:=16*g) O).1 e);omega
 ·rintro⟨d,i⟩;refine⟨O,λe=>?_,(m d).2 λp j e=>?_⟩
  ·have e:A.f (16*g)=0:=e;have:=i (16*g) O;omega
  ·have:=i p j;omega
theorem MC (st:List Nat)(k:Nat):(Kf st k).Nodup:=List.nodup_range.filter _
theorem S6 (h:GA A)(hw:Ow A sp):CP A (eJ A sp).1 sp (eJ A sp).2 (Kf A.st 0):=Eo _ h hw (MC _ _) λg a=>(JR h).1 a
structure Bd (A B:AR) (sp sp':Sp) (rs:List (Nat×Nat)):Prop where
 st:St A B sp sp'
 i:∀p,iM rs p->A.f p=2/\B.f p=3/\gf sp'.st p=1
 o:∀p,¬iM rs p->B.f p=A.f p/\gf sp'.st p=gf sp.st p
 ow:B.ow=A.ow
 cE:B.cE=A.cE
 cC:B.cC=A.cC
 runs:B.runs=A.runs
 wd:∀x,¬iM rs (x/32)->sp'.wd x=sp.wd x
 pk:sp'.pk=sp.pk
theorem O6 (h:GA A)(hw:Ow A sp){a m:Nat}(h1:1<=m)(hi:∀p,a<=p->p<a+m->A.f p=2):Bd A (fE (A,sp) (a,m)).1 sp (fE (A,sp) (a,m)).2 [(a,m)]:=by
 have y:a+m<=A.n:=by have:=h.pg.lt (p:=a+m-1) (by rw[hi _ O O];omega);omega
 have g:∀p,iM [(a,m)] p↔a<=p/\p<a+m:=λp=>by simp[iM]
 have C:(fE (A,sp) (a,m)).1.st=fY A.st a (a+m) 3:=Cx h1 (by rw[h.pg.len];exact y) λp z w=>by
  have:=hi p z w;unfold AR.f at this;rw[this];simp
 have j:a+m<=sp.st.length:=by rw[hw.l];exact y
 have s:(fE (A,sp) (a,m)).2=sp.set a m 1:=IA h1 j λp z w=>hw.own p (by rw[hi p z w];omega);have d:∀p,(fE (A,sp) (a,m)).1.f p=if a<=p/\p<a+m then 3 else A.f p:=λp=>by unfold AR.f;rw[C,Hs (by rw[h.pg.len];exact y)]
 have i:∀p,gf (fE (A,sp) (a,m)).2.st p=if a<=p/\p<a+m then 1 else gf sp.st p:=λp=>by rw[s,EM j]
 have u:∀p,(fE (A,sp) (a,m)).1.f p=0↔A.f p=0:=λp=>by
  rw[d];split
  ·rename_i b;rw[hi p b.1 b.2];omega
  ·exact Iff.rfl
 have pg:PG (fE (A,sp) (a,m)).1:=by
  refine⟨by rw[C,Qj];exact h.pg.len,h.pg.n1,h.pg.n2,h.pg.n16,λp=>?_,λp=>?_,λp=>?_,BJ h.pg u⟩
  ·rw[d];have:=h.pg.le p;split<;>omega
  ·rw[d];show _↔A.ow p≠0;rw[←h.pg.us p];split
   ·rename_i b;rw[hi p b.1 b.2];omega
   ·exact Iff.rfl
  ·rw[d];show A.S p=true↔_;rw[h.pg.fr p];split
   ·rename_i b;rw[hi p b.1 b.2];omega
   ·exact Iff.rfl
 have D:GA (fE (A,sp) (a,m)).1:=⟨pg,h.tb,h.lc,h.lt,h.cC,h.one,h.ow,h.jm,h.pa,h.gR,h.jR,h.oQ,h.lG,h.oC⟩;refine⟨⟨D,⟨by rw[s];show(fY _ _ _ _).length=A.n;rw[Qj];exact hw.l,λp b=>?_,λp b=>?_,λp=>?_⟩,rfl,rfl,rfl,λp h1 r=>?_,λp h1 r=>(h1 ((u p).1 r)).elim,λp h1 r=>(r ((u p).2 h1)).elim⟩,λp b=>?_,λp b=>?_,rfl,rfl,rfl,rfl,λx B=>?_,?_⟩
 ·rw[i];split
  ·omega
  ·rename_i hn;exact hw.own p λe=>b ((u p).2 e)
 ·rw[d]at b;rw[i];split at b
  ·rename_i hn;rw[zB hn]
  ·rename_i hn;rw[zA hn];exact hw.cl p b
 ·rw[i];have:=hw.le p;split<;>omega
 ·rw[i,zA λb=>by have:=hi p b.1 b.2;omega]
 ·rw[g]at b;rw[d,i,zB b,zB b];exact⟨hi p b.1 b.2,rfl,rfl⟩
 ·rw[g]at b;rw[d,i,zA b,zA b];exact⟨rfl,rfl⟩
 ·rw[g]at B;rw[s];exact EH B
 ·rw[s];rfl
theorem I7:∀(rs:List (Nat×Nat)) {A:AR} {sp:Sp},GA A->Ow A sp->(∀r∈rs,1<=r.2/\∀p,r.1<=p->p<r.1+r.2->A.f p=2)->rs.Pairwise (λa b=>a.1+a.2<=b.1\/b.1+b.2<=a.1) →
 Bd A (rs.foldl fE (A,sp)).1 sp (rs.foldl fE (A,sp)).2 rs
 | [],A,sp,h,hw,_,_=>⟨St.refl h hw,λp ⟨r,hr,_⟩=>by simp at hr,λp _=>⟨rfl,rfl⟩,rfl,rfl,rfl,rfl,λ_ _=>rfl,rfl⟩
 | (a,m)::rs,A,sp,h,hw,hi,hd=>by
  have hd':=mM.1 hd;have j:=hi (a,m) (lf ..);have t:=O6 h hw j.1 j.2;have e:∀p,iM [(a,m)] p↔a<=p/\p<a+m:=λp=>by simp[iM]
  have d:∀p,iM ((a,m)::rs) p↔(a<=p/\p<a+m)\/iM rs p:=λp=>by simp[iM]
  have k:=I7 rs (A:=(fE (A,sp) (a,m)).1) (sp:=(fE (A,sp) (a,m)).2) t.st.ga t.st.ow (λr hr=>by
   have:=hi r (kM _ hr);refine⟨this.1,λp C B=>?_⟩;have w:=hd'.1 r hr;simp only at w;rw[(t.o p (by rw[e];omega)).1];exact this.2 p C B) hd'.2
  rw[lg];refine⟨t.st.trans k.st,λp u=>?_,λp u=>?_,k.ow.trans t.ow,k.cE.trans t.cE,k.cC.trans t.cC,k.runs.trans t.runs,λx w=>?_,k.pk.trans t.pk⟩
  ·by_cases s:iM rs p
   ·have:=k.i p s;refine⟨?_,this.2⟩;by_cases g:a<=p/\p<a+m
    ·exact j.2 p g.1 g.2
    ·rw[←(t.o p (by rw[e];exact g)).1];exact this.1
   ·have g:a<=p/\p<a+m:=((d p).1 u).resolve_right s;have y:=t.i p ((e p).2 g);have z:=k.o p s;exact⟨y.1,z.1.trans y.2.1,z.2.trans y.2.2⟩
  ·rw[d]at u;have s:¬iM rs p:=λh=>u (.inr h);have g:¬iM [(a,m)] p:=λh=>u (.inl ((e p).1 h));exact⟨(k.o p s).1.trans (t.o p g).1,(k.o p s).2.trans (t.o p g).2⟩
  ·rw[d]at w;exact(k.wd x λh=>w (.inr h)).trans (t.wd x λh=>w (.inl ((e _).1 h)))
theorem OO {st:List Nat}{p m:Nat}(hl:p+m<=st.length):gg st p m<=m/\(∀x,p<=x->x<p+gg st p m->gf st x=2)/\(gg st p m<m->gf st (p+gg st p m)≠2):=by
 have key:∀(l:List Nat),(l.takeWhile (· == 2)).length<=l.length/\(∀i,i<(l.takeWhile (· == 2)).length->l[i]?=some 2)/\((l.takeWhile (· == 2)).length<l.length->l[(l.takeWhile (· == 2)).length]?≠some 2):=by
  intro l
  induction l with
  | nil=>simp
  | cons x l ih=>
   rw[xr];by_cases hx:x=2
   ·subst hx;simp only[beq_self_eq_true,zS,zP];refine⟨O,λi g=>?_,λa=>?_⟩
    ·cases i with
     | zero=>rfl
     | succ i=>simpa using ih.2.1 i O
    ·simpa using ih.2.2 O
   ·have:(x==2)=false:=by simpa using hx
    simp[this,hx]
 have k:=key ((st.drop p).take m);have b:((st.drop p).take m).length=m:=by simp;omega
 have get:∀i,i<m->((st.drop p).take m)[i]?=some (gf st (p+i)):=λi g=>by
  rw[zX,zB g,zp];unfold gf;rw[zL,cM O];rfl
 rw[b]at k;refine⟨k.1,λx s j=>?_,λa=>?_⟩
 ·have d:=k.2.1 (x-p) (by unfold gg at j;omega);have r:gg st p m<=m:=k.1;rw[get _ O,show p+(x-p)=x by omega]at d;exact Option.some.inj d
 ·have d:=k.2.2 a;have e:(((st.drop p).take m).takeWhile (· == 2)).length=gg st p m:=rfl;rw[e,get _ a]at d;exact λe=>d (congrArg some e)
theorem Vs {st:List Nat}{e:Nat}(he:e<=st.length):∀(f p:Nat),(∀r∈QX st e f p,1<=r.2/\p<=r.1/\r.1+r.2<=e/\∀x,r.1<=x->x<r.1+r.2->gf st x=2)/\(QX st e f p).Pairwise (λa b=>a.1+a.2<=b.1) ∧
 (e-p<f->∀x,p<=x->x<e->gf st x=2->iM (QX st e f p) x)/\((QX st e f p).map (·.2)).sum<=e-p
 | 0,p=>⟨by simp[QX],by simp[QX],λh=>O,by simp[QX]⟩
 | f+1,p=>by
  rw[QX];split
  ·rename_i hp;exact⟨by simp,by simp,λ_ x h1 h2=>O,by simp⟩
  ·rename_i hp;have hr:=OO (st:=st) (p:=p) (m:=e-p) O;split
   ·rename_i h0;obtain⟨i,s,j,u⟩:=Vs he f (p+1);refine⟨λr d=>?_,s,λw x h1 h2 g=>?_,O⟩
    ·have:=i r d;exact⟨this.1,O,this.2.2⟩
    ·by_cases hx:x=p
     ·subst hx;rw[h0]at hr;exact(hr.2.2 O (by simpa using g)).elim
     ·exact j O x O h2 g
   ·rename_i h0;obtain⟨i,s,j,u⟩:=Vs he f (p+gg st p (e-p)+1);refine⟨λr d=>?_,mM.2 ⟨λr d=>?_,s⟩,λw x h1 h2 g=>?_,?_⟩
    ·rcases zQ.1 d with rfl|d
     ·exact⟨by simp only;omega,zD _,by simp only;omega,hr.2.1⟩
     ·have:=i r d;exact⟨this.1,O,this.2.2⟩
    ·have:=i r d;simp only;omega
    ·by_cases hx:x<p+gg st p (e-p)
     ·exact⟨_,lf ..,h1,hx⟩
     ·by_cases hx2:x=p+gg st p (e-p)
      ·subst hx2;exact(hr.2.2 O g).elim
      ·obtain⟨r,d,y⟩:=j O x O h2 g;exact⟨r,kM _ d,y⟩
    ·simp only[zJ,zj];omega
theorem NZ (st:List Nat)(l:List Nat)(h:Nat):(ng st l h).Perm (h::l):=by
 unfold ng;refine List.perm_middle.trans ?_;rw[Ck]
theorem Eh (st:List Nat):(eO st).Perm ((List.range (st.length/16)).filter λh=>0<gA st (16*h) (16*h+16) 2):=by
 unfold eO;have key:∀(l m:List Nat),(l.foldl (ng st) m).Perm (l++m):=by
  intro l
  induction l with
  | nil=>intro m;exact List.Perm.refl _
  | cons x l ih=>
   intro m;rw[lg,lQ];refine(ih _).trans ?_;refine((NZ st m x).append_left l).trans ?_;exact List.perm_middle
 simpa using key _ []
theorem Bs (want:Int):∀(x:Nat) (l:List (Nat×Nat)),(gM want x l).Sublist l
 | x,[]=>by simp[gM]
 | x,r::l=>by
  rw[gM];split
  ·exact List.nil_sublist _
  ·exact(Bs want (x+r.2) l).cons_cons r
theorem F7 {want:Int}:∀(x:Nat) (l:List (Nat×Nat)),(∀r∈l,1<=r.2)->((x+(l.map (·.2)).sum:Nat):Int)<=want->gM want x l=l
 | x,[],_,_=>by simp[gM]
 | x,r::l,hp,hs=>by
  have:=hp r aA;simp only[zJ,zj]at hs;rw[gM,zA O,F7 (x+r.2) l (λq a=>hp q (by simp[a])) O]
theorem SA {st:List Nat}(h16:st.length%16=0):(∀r∈(eO st).flatMap (KM st),1<=r.2/\∀x,r.1<=x->x<r.1+r.2->gf st x=2)/\((eO st).flatMap (KM st)).Pairwise (λa b=>a.1+a.2<=b.1\/b.1+b.2<=a.1) ∧
 (∀x,gf st x=2->iM ((eO st).flatMap (KM st)) x)/\(((eO st).flatMap (KM st)).map (·.2)).sum<=st.length:=by
 have p:=Eh st;have d:∀h∈eO st,16*h+16<=st.length:=λh u=>by
  have:=(zH.1 (p.subset u)).1;rw[zU]at this;omega
 have w:(eO st).Nodup:=p.nodup_iff.2 (List.nodup_range.filter _);have A:(eO st).length<=st.length/16:=by
  rw[p.length_eq];exact zI (nh _ _) aA
 refine⟨λr j=>?_,?_,λx D=>?_,?_⟩
 ·obtain⟨h,u,j⟩:=qX.1 j;have:=(Vs (d h u) 17 (16*h)).1 r j;exact⟨this.1,this.2.2.2⟩
 ·have key:∀l:List Nat,l.Nodup->(∀h∈l,16*h+16<=st.length)->(l.flatMap (KM st)).Pairwise (λa b=>a.1+a.2<=b.1\/b.1+b.2<=a.1):=by
   intro l
   induction l with
   | nil=>intro _ _;simp
   | cons h l ih=>
    intro s hl;have s:=zq.1 s;rw[mS];refine pS.2 ⟨(Vs (hl h aA) 17 (16*h)).2.1.imp λ{a b} z=>.inl z,ih s.2 λg i=>hl g (by simp[i]),λa G b y=>?_⟩;obtain⟨g,i,y⟩:=qX.1 y;have m:=(Vs (hl h aA) 17 (16*h)).1 a G;have E:=(Vs (hl g (by simp[i])) 17 (16*g)).1 b y;have H:h≠g:=λe=>s.1 (e▸i);omega
  exact key _ w d
 ·have F:x<st.length:=Fe O;have C:x/16∈eO st:=p.symm.subset (zH.2 ⟨zU.2 O,by
   have:gA st (16*(x/16)) (16*(x/16)+16) 2≠0:=λB=>by
    rw[Ht O O]at B;exact B x O O D
   simp;omega⟩)
  obtain⟨r,j,m⟩:=(Vs (d _ C) 17 (16*(x/16))).2.2.1 O x O O D;exact⟨r,qX.2 ⟨_,C,j⟩,m⟩
 ·have key:∀l:List Nat,(∀h∈l,16*h+16<=st.length)->((l.flatMap (KM st)).map (·.2)).sum<=16*l.length:=by
   intro l
   induction l with
   | nil=>intro _;simp
   | cons h l ih=>
    intro hl;have m:=(Vs (hl h aA) 17 (16*h)).2.2.2;have E:=ih λg i=>hl g (by simp[i]);rw[mS,zr,pR,zP];have m:((KM st h).map (·.2)).sum<=16*h+16-16*h:=m;omega
  have:=key _ d;omega
theorem E9 (h:GA A)(hw:Ow A sp){want:Int}(h0:0<=want):Bd (YI A) (dT A sp want).1 sp (dT A sp want).2 (V0 A want)/\(1024<=want->∀p,(dT A sp want).1.f p≠2):=by
 obtain⟨o,_,_⟩:=Up h;have d:(YI A).st.length%16=0:=by rw[o.ga.pg.len];exact o.ga.pg.n16
 obtain⟨m,x,u,w⟩:=SA d;have a:=Bs want 0 ((eO (YI A).st).flatMap (KM (YI A).st));have e:dT A sp want=(V0 A want).foldl fE (YI A,sp):=by unfold dT;rw[zA O]
 rw[e];have t:=I7 (V0 A want) o.ga (hw.kp o.kp) (λr g=>m r (a.subset g)) (x.sublist a);refine⟨t,λs p j=>?_⟩;have y:=o.ga.pg.n2;have b:V0 A want=(eO (YI A).st).flatMap (KM (YI A).st):=F7 0 _ (λr g=>(m r g).1) (by
  rw[o.ga.pg.len]at w;omega)
 by_cases hi:iM (V0 A want) p
 ·rw[(t.i p hi).2.1]at j;omega
 ·rw[(t.o p hi).1]at j;exact hi (by rw[b];exact u p j)
theorem Ot (h:GA A)(hw:Ow A sp)(want:Int):St A (dT A sp want).1 sp (dT A sp want).2/\(dT A sp want).1.runs=A.runs/\(dT A sp want).1.cE=A.cE/\∀j y,eZ (dT A sp want).1 j y↔eZ A j y:=by
 by_cases h0:0<=want
 ·obtain⟨t,_⟩:=E9 h hw h0;obtain⟨o,e,k⟩:=Up h;refine⟨(o.st hw).trans t.st,t.runs.trans o.runs,t.cE.trans e,λj y=>?_⟩;rw[←k];unfold eZ Cl;rw[t.cC,t.st.tb]
 ·have e:dT A sp want=(A,sp):=by unfold dT;rw[zB O]
  rw[e];exact⟨St.refl h hw,rfl,rfl,λ_ _=>Iff.rfl⟩
end Go.Ar
namespace Go.Ar
structure Pc where
 k:Nat
 cls:Int
 addr:Nat
 size:Nat
 eA:Bool
 deriving DecidableEq
structure Wd where
 tb:List bW
 sp:Sp
 bT:List AR
 held:List Pc
structure Act where
 kd:Int
 ar:Int
 cl:Int
 a:Int
 b:Int
 l:List Int
abbrev Key:=Nat×Int×Nat
def Pc.key (p:Pc):Key:=(p.k,p.cls,p.addr)
def mI (k:Nat)(cls x:Int)(p:Pc):Bool:=p.k==k&&(p.cls==cls&&((p.addr:Int)==x && !p.eA))
def vH (held:List Pc)(k:Nat)(cls x:Int):Option Nat:=held.findIdx? (mI k cls x)
def jT (held:List Pc)(k:Nat)(cls:Int)(l:List Int):Bool:=l.all (λx=>(vH held k cls x).isSome)&&decide l.Nodup
def mj (k:Nat)(cls:Int)(held:List Pc)(x:Int):List Pc:=match vH held k cls x with
 | some i=>held.take i++held.drop (i+1)
 | none=>held
def wB (held:List Pc)(k:Nat)(cls:Int)(l:List Int):List Pc:=l.foldl (mj k cls) held
def eH (k:Nat)(cls:Int)(l:List Int)(p:Pc):Bool:=p.k==k&&(p.cls==cls&&l.contains (p.addr:Int))
def H4 (held:List Pc)(k:Nat)(cls:Int)(l:List Int)(m:Bool):List Pc:=held.map λp=>if eH k cls l p then{p with eA:=m}else p
def uP (us:List AR)(held:List Pc):List Pc:=held.filter λp=>!p.eA||(match us[p.k]? with
 | some A=>wJ A (p.addr:Int)
 | none=>false)
def qd (tb:List bW)(k:Int):Nat:=((tb[k.toNat]?).map (·.size)).getD 0
def Wd.put (W:Wd)(k:Nat)(A:AR)(sp:Sp)(held:List Pc):Wd:={W with sp:=sp,bT:=W.bT.set k A,held:=held}
def Hd (A:AR)(p:Pc):Prop:=(p.cls = -1/\p.eA=false/\∃r∈A.runs,p.addr=r.1*256/\p.size=r.2*256) ∨
 ∃(j:Nat) (c:bW),p.cls=j/\A.tb[j]?=some c/\p.size=c.size/\eZ A j (p.addr:Int)/\(p.eA=true↔ie A j (p.addr:Int))
structure WI (W:Wd):Prop where
 ga:∀(k:Nat) (A:AR),W.bT[k]?=some A->GA A
 ow:∀(k:Nat) (A:AR),W.bT[k]?=some A->Ow A W.sp
 tb:∀(k:Nat) (A:AR),W.bT[k]?=some A->A.tb=W.tb
 low:∀(k:Nat) (A:AR),W.bT[k]?=some A->∀p,p<16->A.f p=0
 own:∀p,gf W.sp.st p≠0->∃(k:Nat) (A:AR),W.bT[k]?=some A/\A.f p≠0
 one:∀p (k l:Nat) (A B:AR),W.bT[k]?=some A->W.bT[l]?=some B->A.f p≠0->B.f p≠0->k=l
 hk:(W.held.map Pc.key).Nodup
 hf:∀p∈W.held,∃A,W.bT[p.k]?=some A/\Hd A p
 ht:∀(k:Nat) (A:AR),W.bT[k]?=some A->∀(j:Nat) (y:Int),eZ A j y->∃p∈W.held,p.k=k/\p.cls=j/\(p.addr:Int)=y
 hr:∀(k:Nat) (A:AR),W.bT[k]?=some A->∀r∈A.runs,∃p∈W.held,p.k=k/\p.cls = -1/\p.addr=r.1*256
variable {W:Wd}{k:Nat}{A:AR}
theorem Vo {α:Type}{l:List α}{k j:Nat}{x y:α}(h:(l.set k x)[j]?=some y):(j=k/\y=x/\k<l.length)\/(j≠k/\l[j]?=some y):=by
 by_cases hjk:j=k
 ·subst hjk;have a:j<l.length:=by have:=(cQ.1 h).1;simpa using this
  rw[zM a]at h;exact .inl ⟨rfl,(Option.some.inj h).symm,a⟩
 ·rw[zi (Ne.symm hjk)]at h;exact .inr ⟨hjk,h⟩
theorem WI.unique (h:WI W){p q:Pc}(hp:p∈W.held)(hq:q∈W.held)(e:p.key=q.key):p=q:=by
 obtain⟨i,g⟩:=zN hp;obtain⟨j,d⟩:=zN hq;obtain⟨a,rfl⟩:=cQ.1 g;obtain⟨b,rfl⟩:=cQ.1 d;have:=kj.1 h.hk;rcases qx i j with hl|hl|hl
 ·exact(this i j (by simpa using a) (by simpa using b) hl (by simpa using e)).elim
 ·subst hl;rfl
 ·exact(this j i (by simpa using b) (by simpa using a) hl (by simpa using e.symm)).elim
theorem WI.step (h:WI W)(hk:W.bT[k]?=some A){B:AR}{sp':Sp}{held':List Pc}(s:St A B W.sp sp')(h1:(held'.map Pc.key).Nodup)(h2:∀p∈held',p.k=k->Hd B p)(h3:∀p,p.k≠k->(p∈held'↔p∈W.held))
 (h4:∀(j:Nat) (y:Int),eZ B j y->∃p∈held',p.k=k/\p.cls=j/\(p.addr:Int)=y) (h5:∀r∈B.runs,∃p∈held',p.k=k/\p.cls = -1/\p.addr=r.1*256):WI (W.put k B sp' held'):=by
 have H:=(cQ.1 hk).1;have m:(W.bT.set k B)[k]?=some B:=zM H;have J:∀{j:Nat} {C:AR},j≠k->W.bT[j]?=some C->(W.bT.set k B)[j]?=some C:=λa e=>(zi (Ne.symm a)).trans e;have g:∀{j:Nat} {C:AR},j≠k->W.bT[j]?=some C->∀p,C.f p≠0->A.f p=0/\B.f p=0/\gf sp'.st p=gf W.sp.st p:=by
  intro j C a e p b;have u:A.f p=0:=Classical.byContradiction λx=>a (h.one p j k C A e hk b x);have w:B.f p=0:=Classical.byContradiction λx=>by
   have:=(s.new p u x).1;exact(h.ow j C e).own p b this
  exact⟨u,w,s.same p u w⟩
 refine⟨λj C a=>?_,λj C a=>?_,λj C a=>?_,λj C a p b=>?_,λp b=>?_,λp j l C D a K e F=>?_,h1,λp b=>?_,λj C a i y L=>?_,λj C a r hr=>?_⟩
 ·rcases Vo a with⟨rfl,rfl,_⟩|⟨_,a⟩
  ·exact s.ga
  ·exact h.ga j C a
 ·rcases Vo a with⟨rfl,rfl,_⟩|⟨d,a⟩
  ·exact s.ow
  ·have o:=h.ow j C a;have M:=h.ow k A hk;refine⟨?_,λp b=>?_,λp b=>?_,s.ow.le⟩
   ·show sp'.st.length=C.n;rw[s.ow.l,s.n,←M.l,o.l]
   ·show gf sp'.st p≠0;rw[(g d a p b).2.2];exact o.own p b
   ·show gf sp'.st p=1;rw[(g d a p O).2.2];exact o.cl p b
 ·rcases Vo a with⟨rfl,rfl,_⟩|⟨_,a⟩
  ·exact s.tb.trans (h.tb _ A hk)
  ·exact h.tb j C a
 ·rcases Vo a with⟨rfl,rfl,_⟩|⟨_,a⟩
  ·apply Classical.byContradiction;intro x;have:=s.new p (h.low _ A hk p b) x;omega
  ·exact h.low j C a p b
 ·have b:gf sp'.st p≠0:=b;by_cases w:B.f p=0
  ·by_cases u:A.f p=0
   ·rw[s.same p u w]at b;obtain⟨j,C,a,e⟩:=h.own p b;have d:j≠k:=by
     rintro rfl;rw[hk]at a;cases a;exact e u
    exact⟨j,C,J d a,e⟩
   ·exact(b (s.gone p u w)).elim
  ·exact⟨k,B,m,w⟩
 ·rcases Vo a with⟨rfl,rfl,_⟩|⟨d,hj'⟩
  ·rcases Vo K with⟨rfl,rfl,_⟩|⟨hne2,hl'⟩
   ·rfl
   ·exact(e (g hne2 hl' p F).2.1).elim
  ·rcases Vo K with⟨rfl,rfl,_⟩|⟨hne2,hl'⟩
   ·exact(F (g d hj' p e).2.1).elim
   ·exact h.one p j l C D hj' hl' e F
 ·by_cases hpk:p.k=k
  ·exact⟨B,by rw[hpk];exact m,h2 p b hpk⟩
  ·obtain⟨C,e,N⟩:=h.hf p ((h3 p hpk).1 b);exact⟨C,J hpk e,N⟩
 ·rcases Vo a with⟨rfl,rfl,_⟩|⟨d,a⟩
  ·exact h4 i y L
  ·obtain⟨p,b,z,G,E⟩:=h.ht j C a i y L;exact⟨p,(h3 p (by rw[z];exact d)).2 b,z,G,E⟩
 ·rcases Vo a with⟨rfl,rfl,_⟩|⟨d,a⟩
  ·exact h5 r hr
  ·obtain⟨p,b,z,G,E⟩:=h.hr j C a r hr;exact⟨p,(h3 p (by rw[z];exact d)).2 b,z,G,E⟩
theorem Hd.to {B:AR}{p:Pc}(h:Hd A p)(e1:B.tb=A.tb)(e2:B.runs=A.runs)(e3:∀j y,eZ A j y->eZ B j y)(e4:∀j y,ie B j y↔ie A j y):Hd B p:=by
 rcases h with⟨h1,h2,r,hr,h3⟩|⟨j,c,h1,h2,h3,h4,h5⟩
 ·exact .inl ⟨h1,h2,r,by rw[e2];exact hr,h3⟩
 ·exact .inr ⟨j,c,h1,by rw[e1];exact h2,h3,e3 _ _ h4,by rw[e4];exact h5⟩
theorem WI.hd (h:WI W)(hk:W.bT[k]?=some A){p:Pc}(hp:p∈W.held)(e:p.k=k):Hd A p:=by
 obtain⟨C,a,b⟩:=h.hf p hp;rw[e,hk]at a;cases a;exact b
theorem WI.jl (h:WI W)(hk:W.bT[k]?=some A){B:AR}{sp':Sp}(s:St A B W.sp sp')(e2:B.runs=A.runs)(e3:∀j y,eZ B j y↔eZ A j y)(e4:B.cE=A.cE):WI (W.put k B sp' W.held):=
 h.step hk s h.hk (λp a e=>(h.hd hk a e).to s.tb e2 (λj y=>(e3 j y).2) λj y=>by unfold ie;rw[e4]) (λ_ _=>Iff.rfl) (λj y b=>h.ht k A hk j y ((e3 j y).1 b)) λr hr=>h.hr k A hk r (by rw[←e2];exact hr)
theorem WI.cls (h:WI W){p:Pc}(hp:p∈W.held){j:Nat}(e:p.cls=j)(hk:W.bT[p.k]?=some A):∃c,A.tb[j]?=some c/\p.size=c.size/\eZ A j (p.addr:Int)/\(p.eA=true↔ie A j (p.addr:Int)):=by
 rcases h.hd hk hp rfl with⟨h1,_⟩|⟨i,c,h1,h2,h3,h4,h5⟩
 ·omega
 ·obtain rfl:i=j:=by omega
  exact⟨c,h2,h3,h4,h5⟩
theorem WI.run (h:WI W){p:Pc}(hp:p∈W.held)(e:p.cls = -1)(hk:W.bT[p.k]?=some A):p.eA=false/\∃r∈A.runs,p.addr=r.1*256/\p.size=r.2*256:=by
 rcases h.hd hk hp rfl with⟨_,h2⟩|⟨i,c,h1,_⟩
 ·exact h2
 ·omega
theorem KB {k:Nat}{cls x:Int}{p:Pc}:mI k cls x p=true↔p.k=k/\p.cls=cls/\(p.addr:Int)=x/\p.eA=false:=by
 simp[mI]
theorem Z3 {k:Nat}{cls:Int}{l:List Int}{p:Pc}:eH k cls l p=true↔p.k=k/\p.cls=cls/\(p.addr:Int)∈l:=by
 simp[eH]
theorem SU {held:List Pc}{k:Nat}{cls x:Int}{i:Nat}(h:vH held k cls x=some i):∃p,held[i]?=some p/\mI k cls x p=true:=by
 obtain⟨b,a,_⟩:=oO.1 h;exact⟨held[i],cM b,a⟩
theorem Ω {held:List Pc}{k:Nat}{cls x:Int}{p:Pc}(hp:p∈held)(h:mI k cls x p=true):(vH held k cls x).isSome=true:=by
 unfold vH;rw[List.findIdx?_isSome,j9];exact⟨p,hp,h⟩
theorem KC {held:List Pc}{k:Nat}{cls:Int}{l:List Int}:jT held k cls l=true↔(∀x∈l,∃p∈held,mI k cls x p=true)/\l.Nodup:=by
 unfold jT;rw[zF,kN,zT];refine and_congr_left λ_=>forall_congr' λx=>imp_congr_right λa=>?_;unfold vH;rw[List.findIdx?_isSome,j9]
theorem O8 {held:List Pc}(hn:(held.map Pc.key).Nodup){i:Nat}{p:Pc}(hi:held[i]?=some p):held.take i++held.drop (i+1)=held.filter λq=>!(q.key==p.key):=by
 induction held generalizing i with
 | nil=>simp at hi
 | cons q l ih=>
  rw[zJ,zq]at hn;cases i with
  | zero=>
   simp only[ve,Option.some.injEq]at hi;subst hi;have:l.filter (λr=>!(r.key==q.key))=l:=by
    rw[nT];intro r hr;have:r.key≠q.key:=λe=>hn.1 (zC.2 ⟨r,hr,e⟩);simpa using this
   simp[this]
  | succ i=>
   have hi:l[i]?=some p:=by simpa using hi
   have a:q.key≠p.key:=λe=>hn.1 (zC.2 ⟨p,zE hi,e.symm⟩);rw[sx,yb,lQ,ih hn.2 hi,qU];have:(!(q.key==p.key))=true:=by simpa using a
   rw[this];rfl
theorem Ua {held:List Pc}(hn:(held.map Pc.key).Nodup)(f:Pc->Bool):((held.filter f).map Pc.key).Nodup:=hn.sublist (List.filter_sublist.map _)
theorem IZ {k:Nat}{cls:Int}:∀(l:List Int) {held:List Pc},(held.map Pc.key).Nodup->(∀x∈l,∃p∈held,mI k cls x p=true)->l.Nodup->wB held k cls l=held.filter λp=>!eH k cls l p
 | [],held,_,_,_=>by
  have:∀p,eH k cls [] p=false:=λp=>by simp[eH]
  exact(nT.2 λp _=>by rw[this];rfl).symm
 | x::l,held,hn,ho,hl=>by
  obtain⟨p,A,C⟩:=ho x aA;obtain⟨i,s⟩:=qC.1 (Ω A C);obtain⟨q,B,j⟩:=SU s;have g:=zq.1 hl;have D:mj k cls held x=held.filter λr=>!(r.key==q.key):=by unfold mj;rw[s];exact O8 hn B
  obtain⟨G,H,E,F⟩:=KB.1 j;have m:=IZ l (held:=held.filter λr=>!(r.key==q.key)) (Ua hn _) (λy w=>by
   obtain⟨r,u,d⟩:=ho y (by simp[w]);refine⟨r,zH.2 ⟨u,?_⟩,d⟩;have:r.key≠q.key:=λe=>by
    have J:r.addr=q.addr:=congrArg (λz:Key=>z.2.2) e;have:=(KB.1 d).2.2.1;have:y=x:=by omega
    subst this;exact g.1 w
   simpa using this) g.2
  unfold wB at m ⊢;rw[lg,D,m,Cn];apply zx;intro r u;have e:(r.key==q.key)=(r.k==k&&(r.cls==cls&&(r.addr:Int)==x)):=by
   rw[nL];simp only[Pc.key,zZ,zF,Prod.mk.injEq];constructor
   ·rintro⟨a,b,c⟩;exact⟨O,O,O⟩
   ·rintro⟨a,b,c⟩;exact⟨O,O,O⟩
  rw[e];unfold eH;rw[List.contains_cons];cases r.k==k<;>cases r.cls==cls<;>cases((r.addr:Int)==x)<;>cases l.contains (r.addr:Int)<;>rfl
theorem QJ {held:List Pc}{k:Nat}{cls:Int}{l:List Int}{m:Bool}{p:Pc}:p∈H4 held k cls l m↔∃q∈held,p=if eH k cls l q then{q with eA:=m}else q:=by
 unfold H4;rw[zC];constructor
 ·rintro⟨q,hq,rfl⟩;exact⟨q,hq,rfl⟩
 ·rintro⟨q,hq,rfl⟩;exact⟨q,hq,rfl⟩
theorem Sz {held:List Pc}{k:Nat}{cls:Int}{l:List Int}{m:Bool}:(H4 held k cls l m).map Pc.key=held.map Pc.key:=by
 unfold H4;rw[zm];apply zw;intro p _;simp only[Function.comp];split<;>rfl
theorem G9 (hk:W.bT[k]?=some A)(h:WI W):WI (W.put k A W.sp W.held):=h.jl hk (St.refl (h.ga k A hk) (h.ow k A hk)) rfl (λ_ _=>Iff.rfl) rfl
theorem Ou (h:GA A){j:Nat}{c:bW}{ss:List cH}(hc:Cl A j c ss){l:Nat}{s:cH}{i:Nat}(hs:ss[l]?=some s)(hi:i<c.n){x:Nat}(h1:at_ c s i<=x)(h2:x<at_ c s i+c.size):U8 A (x:Int)=some ((j:Int),at_ c s i):=by
 have d:=h.cC j c ss hc;have b:=Gr d.pos hi h1 h2;have a:=h.used hc (zE hs) b.1 b.2;have e:=h.pg.lt (p:=x/256) (by rw[a.1];omega);have r:=h.pg.n2;have g:=hc.lt;have m:=h.tb;unfold U8;rw[zA O,dC];simp only;rw[zB (show x/256<1024 by omega),a.2,zA O,zA O,C9,hc.1,hc.2];simp only;rw[(Ed d).2 ⟨l,s,i,hs,hi,rfl,O,O⟩];rfl
theorem I8 (h:GA A){r:Nat×Nat}(hr:r∈A.runs){x:Nat}(h1:r.1*256<=x)(h2:x<(r.1+r.2)*256):U8 A (x:Int)=some (-1,r.1*256):=by
 have a:=h.jr hr (p:=x/256) O O;have b:=h.pg.lt (p:=x/256) (by rw[a.1];omega);have d:=h.pg.n2;unfold U8;rw[zA O,dC];simp only;rw[zB (show x/256<1024 by omega),a.2,zA O,zB rfl,Cr h.pT hr O O];rfl
theorem τ (h:GA A){x:Int}{k:Int}{a:Nat}(hf:U8 A x=some (k,a)):(k = -1/\∃r∈A.runs,a=r.1*256/\((r.1*256:Nat):Int)<=x/\x<(((r.1+r.2)*256:Nat):Int)) ∨
 ∃(j:Nat) (c:bW) (ss:List cH) (l:Nat) (s:cH) (i:Nat),k=j/\Cl A j c ss/\ss[l]?=some s/\i<c.n/\a=at_ c s i/\((at_ c s i:Nat):Int)<=x/\x<((at_ c s i+c.size:Nat):Int):=by
 unfold U8 at hf;split at hf
 ·cases hf
 ·rename_i hx;obtain⟨y,rfl⟩:=zk (show 0<=x by omega);rw[dC]at hf;simp only at hf;by_cases hlt:y/256<1024
  ·rw[zB hlt]at hf;split at hf
   ·cases hf
   ·split at hf
    ·rename_i h0 h41;obtain⟨r,d,b⟩:=rF.1 hf;have u:=tZ d;have g:=sI d;simp at g;cases b;exact .inl ⟨rfl,r,u,rfl,O,O⟩
    ·rename_i h0 h41;split at hf
     ·rename_i c ss h1 h2;obtain⟨C,z,b⟩:=rF.1 hf;cases b;have e:Cl A (A.ow (y/256)-1) c ss:=⟨h1,h2⟩;obtain⟨l,s,i,p,m,rfl,w,B⟩:=(Ed (h.cC _ _ _ e)).1 z;exact .inr ⟨_,c,ss,l,s,i,rfl,e,p,m,rfl,w,B⟩
     ·cases hf
  ·rw[zA hlt,zB rfl]at hf;cases hf
theorem eZ.find (h:GA A){j:Nat}{x:Int}(hx:eZ A j x):∃y:Nat,x=y/\U8 A x=some ((j:Int),y):=by
 obtain⟨c,m,b,e⟩:=hx;have a:=h.cC j c m b;obtain⟨l,s,i,d,g,rfl,p⟩:=(Ue a).1 e;exact⟨_,rfl,Ou h b d g (zD _) (by have:=a.pos;omega)⟩
theorem DG (h:GA A){x:Int}:wJ A x=true↔(∃j,eZ A j x)\/∃r∈A.runs,x=((r.1*256:Nat):Int):=by
 constructor
 ·intro hx;unfold wJ at hx;split at hx
  ·rename_i k a d;split at hx
   ·rename_i he;rcases τ h d with⟨rfl,r,hr,rfl,_⟩|⟨j,c,e,l,s,i,rfl,b,hs,hi,rfl,_⟩
    ·exact .inr ⟨r,hr,he.symm⟩
    ·rw[zA O,dC,b.1,b.2]at hx;exact .inl ⟨j,c,e,b,by simpa[Tk]using hx⟩
   ·cases hx
  ·cases hx
 ·rintro(⟨j,hj⟩|⟨r,hr,rfl⟩)
  ·obtain⟨y,rfl,d⟩:=hj.find h;obtain⟨c,e,b,g⟩:=hj;unfold wJ;rw[d];simp only;rw[zB True.intro,zA O,dC,b.1,b.2];unfold Tk at g;show(eI c e (y:Int)==some true)=true;rw[g];rfl
  ·unfold wJ;have:=h.gR r hr;rw[I8 h hr (zD _) O];simp
theorem WI.xw (h:WI W)(hk:W.bT[k]?=some A){cl:Int}{l:List Int}(ho:jT W.held k cl l=true){j:Nat}(e:cl=j):∀x∈l,¬ie A j x:=by
 intro x hx hin;obtain⟨p,g,a⟩:=(KC.1 ho).1 x hx;obtain⟨r,i,m,b⟩:=KB.1 a;obtain⟨c,_,_,_,d⟩:=h.cls g (j:=j) (by rw[i,e]) (by rw[r];exact hk);rw[m]at d;rw[d.2 hin]at b;cases b
theorem WI.grow (h:WI W)(hk:W.bT[k]?=some A)(x:Int):WI (W.put k (cP A W.sp x).1 (cP A W.sp x).2 W.held):=by
 obtain⟨s,d,a,b,_⟩:=θ (h.ga k A hk) (h.ow k A hk) x;exact h.jl hk s d b a
theorem WI.from (h:WI W)(hk:W.bT[k]?=some A)(cl m:Int):WI (W.put k (YO A cl m) W.sp (W.held++(Yt A cl m).map λy=>⟨k,cl,y,qd W.tb cl,false⟩)):=by
 obtain⟨o,E,K,H,F,B⟩:=Fs (h.ga k A hk) cl m;have tb:(YO A cl m).tb=A.tb:=o.kp.tb;have i:∀y∈Yt A cl m,∃j:Nat,cl=j/\j<A.tb.length:=λy g=>H (λe=>by rw[e]at g;simp at g);have u:∀y∈Yt A cl m,∀p∈W.held,¬(p.k=k/\p.cls=cl/\p.addr=y):=by
  rintro y g p d ⟨N,L,Q⟩;obtain⟨j,rfl,_⟩:=i y g;obtain⟨c,_,_,ht,_⟩:=h.cls d L (by rw[N];exact hk);rw[Q]at ht;exact F y g (by rw[dC];exact ht)
 refine h.step hk (o.st (h.ow k A hk)) ?_ (λp d e=>?_) (λp C=>?_) (λj y g=>?_) λr hr=>?_
 ·rw[zr,og];refine⟨h.hk,?_,λa P b M e=>?_⟩
  ·rw[zm];exact List.Pairwise.map (R:=(· ≠ ·)) _ (λa b z e=>z (by simpa[Pc.key]using e)) K
  ·subst e;obtain⟨p,d,rfl⟩:=zC.1 P;obtain⟨q,J,e⟩:=zC.1 M;obtain⟨y,g,rfl⟩:=zC.1 J;simp only[Pc.key,Prod.mk.injEq]at e;exact u y g p d ⟨e.1.symm,e.2.1.symm,e.2.2.symm⟩
 ·rcases zR.1 d with d|d
  ·exact(h.hd hk d e).to tb o.runs (λj y w=>(B j y).2 (.inl w)) λj y=>by unfold ie;rw[E]
  ·obtain⟨y,g,rfl⟩:=zC.1 d;obtain⟨j,rfl,w⟩:=i y g;refine .inr ⟨j,A.tb[j],rfl,by rw[tb];exact cM w,?_,(B j y).2 (.inr ⟨(dC j).symm,y,g,rfl⟩),?_⟩
   ·show qd W.tb (j:Int)=_;unfold qd;rw[dC,←h.tb k A hk,cM w];rfl
   ·constructor
    ·intro hx;cases hx
    ·rintro⟨t,ht,hx⟩;rw[E]at ht;obtain⟨c,G,S,D,s⟩:=(h.ga k A hk).cl w;rw[ht]at s;cases s;exact(F y g (by rw[dC];exact(KR D).2 ((h.ga k A hk).lG j c G t D ht _ hx))).elim
 ·rw[zR];constructor
  ·rintro(d|d)
   ·exact d
   ·obtain⟨y,_,rfl⟩:=zC.1 d;exact(C rfl).elim
  ·exact .inl
 ·rcases(B j y).1 g with g|⟨rfl,x,hx,rfl⟩
  ·obtain⟨p,d,q⟩:=h.ht k A hk j y g;exact⟨p,nI _ d,q⟩
  ·obtain⟨j,rfl,_⟩:=i x hx;exact⟨_,pL _ (zC.2 ⟨x,hx,rfl⟩),rfl,by simp,rfl⟩
 ·rw[o.runs]at hr;obtain⟨p,d,q⟩:=h.hr k A hk r hr;exact⟨p,nI _ d,q⟩
theorem WI.yD (h:WI W){cl:Int}{l:List Int}(ho:jT W.held k cl l=true):wB W.held k cl l=W.held.filter λp=>!eH k cl l p:=
 IZ l h.hk (KC.1 ho).1 (KC.1 ho).2
theorem WI.Mg (h:WI W)(hk:W.bT[k]?=some A){cl:Int}{l:List Int}(ho:jT W.held k cl l=true):WI (W.put k (Zg A cl l) W.sp (if QW A cl l=0 then wB W.held k cl l else W.held)):=by
 have ga:=h.ga k A hk;obtain⟨o,L,u,J⟩:=CU ga (k:=cl) (xs:=l) λg x m=>by
  obtain⟨j,c,H,rfl,_⟩:=CJ ga g;rw[dC];exact h.xw hk ho rfl x m
 by_cases g:QW A cl l=0
 ·rw[zB g,h.yD ho];obtain⟨j,c,H,rfl,N,P⟩:=CJ ga g;have u:=u g;rw[dC]at u;refine h.step hk (o.st (h.ow k A hk)) (Ua h.hk _) (λp w e=>?_) (λp G=>?_) (λi y K=>?_) λr hr=>?_
  ·have s:=zH.1 w;have F:eH k (j:Int) l p=false:=by simpa using s.2
   rcases h.hd hk s.1 e with⟨h1,h2,r,hr,h3⟩|⟨i,d,h1,h2,h3,h4,h5⟩
   ·exact .inl ⟨h1,h2,r,by rw[o.runs];exact hr,h3⟩
   ·refine .inr ⟨i,d,h1,by rw[o.kp.tb];exact h2,h3,(u i _).2 ⟨h4,λ⟨a,b⟩=>?_⟩,by unfold ie at h5 ⊢;rw[L];exact h5⟩;have:eH k (j:Int) l p=true:=Z3.2 ⟨e,by rw[h1,a],b⟩;rw[F]at this;cases this
  ·rw[zH];have:eH k (j:Int) l p=false:=by
    apply mL.2;intro m;exact G (Z3.1 m).1
   rw[this];simp
  ·obtain⟨D,C⟩:=(u i y).1 K;obtain⟨p,w,E,B,z⟩:=h.ht k A hk i y D;refine⟨p,zH.2 ⟨w,?_⟩,E,B,z⟩;have:eH k (j:Int) l p=false:=by
    apply mL.2;intro m;obtain⟨_,Q,M⟩:=Z3.1 m;exact C ⟨O,by rw[←z];exact M⟩
   rw[this];rfl
  ·rw[o.runs]at hr;obtain⟨p,w,E,B,z⟩:=h.hr k A hk r hr;refine⟨p,zH.2 ⟨w,?_⟩,E,B,z⟩;have:eH k (j:Int) l p=false:=by
    apply mL.2;intro m;have:=(Z3.1 m).2.1;omega
   rw[this];rfl
 ·rw[zA g,J g];exact G9 hk h
theorem WI.move (h:WI W)(hk:W.bT[k]?=some A){B:AR}{j:Nat}{l:List Int}{m:Bool}(o:Ob A B)(e1:∀i y,eZ B i y↔eZ A i y)(e2:∀i y,ie B i y↔if i=j/\y∈l then m=true else ie A i y):WI (W.put k B W.sp (H4 W.held k (j:Int) l m)):=by
 refine h.step hk (o.st (h.ow k A hk)) (by rw[Sz];exact h.hk) (λp a e=>?_) (λp b=>?_) (λi y g=>?_) λr hr=>?_
 ·obtain⟨q,u,rfl⟩:=QJ.1 a;have d:q.k=k:=by
   split at e<;>exact e
  rcases h.hd hk u d with⟨h1,h2,r,hr,h3⟩|⟨i,c,h1,h2,h3,h4,h5⟩
  ·have:eH k (j:Int) l q=false:=by
    apply mL.2;intro hx;have:=(Z3.1 hx).2.1;omega
   rw[this];exact .inl ⟨h1,h2,r,by rw[o.runs];exact hr,h3⟩
  ·by_cases hx:eH k (j:Int) l q=true
   ·rw[zB hx];obtain⟨_,D,C⟩:=Z3.1 hx;have w:i=j:=by omega
    refine .inr ⟨i,c,h1,by rw[o.kp.tb];exact h2,h3,(e1 _ _).2 h4,?_⟩;show m=true↔ie B i (q.addr:Int);rw[e2,zB ⟨w,C⟩]
   ·rw[zA hx];refine .inr ⟨i,c,h1,by rw[o.kp.tb];exact h2,h3,(e1 _ _).2 h4,?_⟩;rw[e2,zA λg=>hx (Z3.2 ⟨d,by rw[h1,g.1],g.2⟩)];exact h5
 ·rw[QJ];constructor
  ·rintro⟨q,u,rfl⟩;have:eH k (j:Int) l q=false:=by
    apply mL.2;intro hx;rw[zB hx]at b;exact b (Z3.1 hx).1
   rw[this];exact u
  ·intro a;refine⟨p,a,?_⟩;have:eH k (j:Int) l p=false:=by
    apply mL.2;intro hx;exact b (Z3.1 hx).1
   rw[this];rfl
 ·obtain⟨p,a,s,x,z⟩:=h.ht k A hk i y ((e1 i y).1 g);refine⟨_,QJ.2 ⟨p,a,rfl⟩,?_,?_,?_⟩
  ·split<;>exact s
  ·split<;>exact x
  ·split<;>exact z
 ·rw[o.runs]at hr;obtain⟨p,a,s,x,z⟩:=h.hr k A hk r hr;refine⟨_,QJ.2 ⟨p,a,rfl⟩,?_,?_,?_⟩
  ·split<;>exact s
  ·split<;>exact x
  ·split<;>exact z
theorem L7 {held:List Pc}{k:Nat}{cls:Int}{m:Bool}:H4 held k cls [] m=held:=by
 unfold H4;have:∀p,eH k cls [] p=false:=λp=>by simp[eH]
 simp[this]
theorem WI.wg (h:WI W)(hk:W.bT[k]?=some A)(cl:Int):WI (W.put k (ZR A cl) W.sp (H4 W.held k cl (YL A cl) false)):=by
 obtain⟨o,b,w,u,s,a⟩:=Lr (h.ga k A hk) cl;by_cases hv:YL A cl=[]
 ·rw[hv,L7];have g:∀j y,ie (ZR A cl) j y↔ie A j y:=λj y=>by rw[a,hv];simp
  refine h.step hk (o.st (h.ow k A hk)) h.hk (λp d e=>(h.hd hk d e).to o.kp.tb o.runs (λj y=>(b j y).2) g) (λ_ _=>Iff.rfl) (λj y m=>h.ht k A hk j y ((b j y).1 m)) λr hr=>h.hr k A hk r (by rw[←o.runs];exact hr)
 ·obtain⟨j,rfl,_⟩:=s hv;rw[dC]at a;exact h.move hk o b λi y=>by
   rw[a];split
   ·rename_i hx;simp[hx]
   ·rename_i hx;simp[hx]
theorem WI.Ro (h:WI W)(hk:W.bT[k]?=some A){cl:Int}{l:List Int}(ho:jT W.held k cl l=true):WI (W.put k (Q7 A cl l) W.sp (if Vm A cl l then H4 W.held k cl l true else W.held)):=by
 by_cases a:Vm A cl l=true
 ·have b:∃j:Nat,cl=j:=by
   have g:Hx A cl l=0:=by
    unfold Vm at a;simp only[zF,zT]at a;exact a.1
   have b:A.ck cl=true:=by
    unfold Hx at g;split at g
    ·assumption
    ·cases g
   obtain⟨j,m,_⟩:=Hy.1 b;exact⟨j,m⟩
  obtain⟨j,rfl⟩:=b;obtain⟨o,p,d,_⟩:=RS (h.ga k A hk) (j:Int) (xs:=l) (KC.1 ho).2 (by rw[dC];exact h.xw hk ho rfl);obtain⟨_,_,d⟩:=d a;rw[dC]at d;rw[a,zB rfl];exact h.move hk o p λi y=>by
   rw[d];split
   ·rename_i hx;simp[hx]
   ·rename_i hx;simp[hx]
 ·have a:Vm A cl l=false:=by simpa using a
  have e:Q7 A cl l=A:=by unfold Q7;rw[a];rfl
  rw[a,e];exact G9 hk h
theorem WI.xz (h:WI W)(hk:W.bT[k]?=some A)(m a:Int):WI (W.put k (cD A W.sp m a).1 (cD A W.sp m a).2 (if Qz A W.sp m a=0 then W.held++[⟨k, -1,Z5 A W.sp m a*256,m.toNat*256,false⟩]else W.held)):=by
 rcases Pg (h.ga k A hk) (h.ow k A hk) m a with⟨e,hE,_⟩|⟨x,A1,sp1,g,hE,hV,e,htk,hor,s,et,ek⟩
 ·rw[zA hE,e];exact G9 hk h
 ·rw[zB hE,hV];have w:(cD A W.sp m a).1.runs=A.runs++[(x,m.toNat)]:=by rw[e]
  have u:∀r∈A.runs,r.1≠x:=by
   have hd:=s.ga.jR;rw[w]at hd;intro r hr D;have z:=(pS.1 hd).2.2 r hr (x,m.toNat) aA;have B:=(h.ga k A hk).gR r hr;have i:=s.ga.gR (x,m.toNat) (by rw[w];simp);simp only at z i;omega
  refine h.step hk s ?_ (λp g e=>?_) (λp C=>?_) (λj y F=>?_) λr hr=>?_
  ·rw[zr,og];refine⟨h.hk,by simp,λb E d hd D=>?_⟩;subst D;obtain⟨p,g,rfl⟩:=zC.1 E;simp only[zJ,oY,zV,Pc.key,Prod.mk.injEq]at hd;obtain⟨_,r,hr,i,_⟩:=h.run g hd.2.1 (A:=A) (by rw[hd.1];exact hk);exact u r hr O
  ·rcases zR.1 g with g|g
   ·rcases h.hd hk g e with⟨z,B,r,hr,i⟩|⟨j,c,z,B,i,h4,h5⟩
    ·exact .inl ⟨z,B,r,by rw[w];exact nI _ hr,i⟩
    ·exact .inr ⟨j,c,z,by rw[s.tb];exact B,i,(ek _ _).2 h4,by unfold ie at h5 ⊢;rw[et];exact h5⟩
   ·simp only[zV]at g;subst g;exact .inl ⟨rfl,rfl,(x,m.toNat),by rw[w];simp,rfl,rfl⟩
  ·rw[zR];constructor
   ·rintro(g|g)
    ·exact g
    ·simp only[zV]at g;subst g;exact(C rfl).elim
   ·exact .inl
  ·obtain⟨p,g,q⟩:=h.ht k A hk j y ((ek j y).1 F);exact⟨p,nI _ g,q⟩
  ·rw[w]at hr;rcases zR.1 hr with hr|hr
   ·obtain⟨p,g,q⟩:=h.hr k A hk r hr;exact⟨p,nI _ g,q⟩
   ·simp only[zV]at hr;subst hr;exact⟨_,pL _ (zV.2 rfl),rfl,rfl,rfl⟩
theorem WI.nv (h:WI W)(hk:W.bT[k]?=some A){r:Nat×Nat}(hr:r∈A.runs):jT W.held k (-1) [(r.1:Int)*256]=true:=by
 refine KC.2 ⟨λx d=>?_,by simp⟩;simp only[zV]at d;subst d;obtain⟨p,e,b,a,g⟩:=h.hr k A hk r hr;exact⟨p,e,KB.2 ⟨b,a,O,(h.run e a (by rw[b];exact hk)).1⟩⟩
theorem WI.wb (h:WI W)(hk:W.bT[k]?=some A)(x:Int):WI (W.put k (QE A x) W.sp (if KT A x=0 then wB W.held k (-1) [x*256]else W.held)):=by
 have ga:=h.ga k A hk;obtain⟨⟨kp,g⟩,K,H,N,L⟩:=Nl ga x;by_cases h0:KT A x=0
 ·rw[zB h0];obtain⟨r,hr,rfl,G⟩:=L h0;rw[h.yD (h.nv hk hr)];have m:∀p:Pc,eH k (-1) [(r.1:Int)*256] p=true↔p.k=k/\p.cls = -1/\p.addr=r.1*256:=λp=>by
   rw[Z3];simp only[zV];constructor
   ·rintro⟨a,b,c⟩;exact⟨a,b,O⟩
   ·rintro⟨a,b,c⟩;exact⟨a,b,O⟩
  refine h.step hk (St.kp g (h.ow k A hk) kp) (Ua h.hk _) (λp s e=>?_) (λp D=>?_) (λi y M=>?_) λq d=>?_
  ·have w:=zH.1 s;have u:¬eH k (-1) [(r.1:Int)*256] p=true:=by simpa using w.2
   rw[m]at u;rcases h.hd hk w.1 e with⟨h1,h2,q,d,z⟩|⟨j,c,h1,h2,z,J,C⟩
   ·refine .inl ⟨h1,h2,q,?_,z⟩;rw[G,zH];refine⟨d,?_⟩;have:q≠r:=by rintro rfl;exact u ⟨e,h1,z.1⟩
    simpa using this
   ·exact .inr ⟨j,c,h1,by rw[kp.tb];exact h2,z,(H _ _).2 J,by unfold ie at C ⊢;rw[K];exact C⟩
  ·rw[zH];have:eH k (-1) [(r.1:Int)*256] p=false:=by
    apply mL.2;intro hx;exact D (Z3.1 hx).1
   rw[this];simp
  ·obtain⟨p,s,B,E,F⟩:=h.ht k A hk i y ((H i y).1 M);refine⟨p,zH.2 ⟨s,?_⟩,B,E,F⟩;have:eH k (-1) [(r.1:Int)*256] p=false:=by
    apply mL.2;intro hx;have:=((m p).1 hx).2.1;omega
   rw[this];rfl
  ·rw[G,zH]at d;obtain⟨p,s,B,E,F⟩:=h.hr k A hk q d.1;refine⟨p,zH.2 ⟨s,?_⟩,B,E,F⟩;have:eH k (-1) [(r.1:Int)*256] p=false:=by
    apply mL.2;intro hx;have z:=((m p).1 hx).2.2;have J:=ga.gR q d.1;have C:=ga.gR r hr;have:q=r:=ga.ic d.1 hr (x:=q.1) O O O O;subst this;simp at d
   rw[this];rfl
 ·rw[zA h0,N h0];exact G9 hk h
theorem WI.tick (h:WI W)(hk:W.bT[k]?=some A):WI (W.put k (U7 A) W.sp (uP (W.bT.set k (U7 A)) W.held)):=by
 have ga:=h.ga k A hk;have t:=Sa ga;have D:=(cQ.1 hk).1;have d:(W.bT.set k (U7 A))[k]?=some (U7 A):=zM D;have bU:∀p∈W.held,p∈uP (W.bT.set k (U7 A)) W.held↔(p.k=k->∀j:Nat,p.cls=j->eZ (U7 A) j (p.addr:Int)):=by
  intro p a;unfold uP;rw[zH];simp only[a,sS,ot,ni];by_cases hpk:p.k=k
  ·rw[hpk,d];simp only[true_implies];rcases h.hd hk a hpk with⟨h1,h2,r,hr,h3⟩|⟨j,c,h1,h2,h3,h4,h5⟩
   ·exact⟨λ_ j z=>O,λ_=>.inl h2⟩
   ·constructor
    ·intro hx i F;obtain rfl:i=j:=by omega
     rcases hx with hx|hx
     ·refine(t.tk i _).2 ⟨h4,λm=>?_⟩;rw[h5.2 m]at hx;cases hx
     ·rcases(DG t.ob.ga).1 hx with⟨j',hj'⟩|⟨r,hr,e⟩
      ·obtain⟨y,e,hf⟩:=((t.tk j' _).1 hj').1.find ga;obtain⟨K,J,b⟩:=h4.find ga;rw[hf]at b;have:j'=i:=by
        have:=congrArg Prod.fst (Option.some.inj b);simp only at this;omega
       rw[←this];exact hj'
      ·rw[t.ob.runs]at hr;have:=ga.gR r hr;have L:=I8 ga hr (x:=r.1*256) (zD _) O;obtain⟨K,J,b⟩:=h4.find ga;rw[e,L]at b;have:=congrArg Prod.fst (Option.some.inj b);simp only at this;omega
    ·intro hx;by_cases hm:p.eA=true
     ·exact .inr ((DG t.ob.ga).2 (.inl ⟨j,hx j h1⟩))
     ·exact .inl (by simpa using hm)
  ·constructor
   ·intro _ hx;exact(hpk hx).elim
   ·intro _;obtain⟨C,G,H⟩:=h.hf p a;rw[zi (Ne.symm hpk),G];rcases H with⟨h1,h2,_⟩|⟨j,c,_,_,_,h4,_⟩
    ·exact .inl h2
    ·exact .inr ((DG (h.ga _ C G)).2 (.inl ⟨j,h4⟩))
 have sub:∀p,p∈uP (W.bT.set k (U7 A)) W.held->p∈W.held:=λp a=>(zH.1 a).1;refine h.step hk (t.ob.st (h.ow k A hk)) (Ua h.hk _) (λp a e=>?_) (λp B=>⟨sub p,λa=>(bU p a).2 λe=>(B e).elim⟩) (λj y E=>?_) λr hr=>?_
 ·have w:=(bU p (sub p a)).1 a e;rcases h.hd hk (sub p a) e with⟨h1,h2,r,hr,h3⟩|⟨j,c,h1,h2,h3,h4,h5⟩
  ·exact .inl ⟨h1,h2,r,by rw[t.ob.runs];exact hr,h3⟩
  ·have z:=w j h1;refine .inr ⟨j,c,h1,by rw[t.ob.kp.tb];exact h2,h3,z,?_⟩;rw[h5];exact⟨((t.tk j _).1 z).2,t.sub j _⟩
 ·obtain⟨p,a,u,s,g⟩:=h.ht k A hk j y ((t.tk j y).1 E).1;refine⟨p,(bU p a).2 λ_ i F=>?_,u,s,g⟩;obtain rfl:i=j:=by omega
  rw[g];exact E
 ·rw[t.ob.runs]at hr;obtain⟨p,a,u,s,g⟩:=h.hr k A hk r hr;exact⟨p,(bU p a).2 λ_ i F=>O,u,s,g⟩
theorem WI.nX (h:WI W){p:Pc}(hp:p∈W.held)(hk:W.bT[p.k]?=some A){x:Nat}(h1:p.addr<=x)(h2:x<p.addr+p.size):A.f (x/256)=1:=by
 have ga:=h.ga _ A hk;rcases h.hd hk hp rfl with⟨_,_,r,hr,e1,e2⟩|⟨j,c,_,hc,e1,ht,_⟩
 ·exact(ga.jr hr O O).1
 ·obtain⟨d,u,a,b⟩:=ht;have:d=c:=Option.some.inj (a.1.symm.trans hc);subst this;have g:=ga.cC j d u a;obtain⟨l,s,i,w,m,e,_⟩:=(Ue g).1 b;have y:p.addr=at_ d s i:=Int.ofNat.inj e;have:=Gr g.pos m (s:=s) (x:=x) O O;exact(ga.used a (zE w) this.1 this.2).1
theorem eZ.lt (h:GA A){j:Nat}{x:Int}(hx:eZ A j x):∃y:Nat,x=y/\y<262144:=by
 obtain⟨c,r,d,g⟩:=hx;have a:=h.cC j c r d;obtain⟨l,s,i,e,m,rfl,w⟩:=(Ue a).1 g;have b:=Gr a.pos (s:=s) (x:=at_ c s i) m (zD _) (by have:=a.pos;omega);have u:=(h.used d (zE e) b.1 b.2).1;have:=h.pg.lt (p:=at_ c s i/256) O;have:=h.pg.n2;exact⟨_,rfl,O⟩
theorem GA.BG (h:GA A):lP A:=by
 intro t ht xs hxs x hx;obtain⟨k,b⟩:=zN ht;have a:k<A.tb.length:=by rw[←h.lt];exact(cQ.1 b).1
 obtain⟨c,e,i,d,_⟩:=h.cl a;obtain⟨y,rfl,g⟩:=eZ.lt h ((KR d).2 (h.lG k c e t d b x (List.mem_flatten.2 ⟨xs,hxs,hx⟩)));unfold iL;omega
theorem WI.ka (h:WI W){p:Pc}(hp:p∈W.held):p.addr<262144/\p.addr+p.size<=270000:=by
 obtain⟨A,g,i⟩:=h.hf p hp;have ga:=h.ga _ A g;have s:=ga.pg.n2;rcases i with⟨_,_,r,hr,h1,h2⟩|⟨j,c,_,hc,h2,h3,_⟩
 ·have x:=ga.fit hr;have w:=ga.gR r hr;omega
 ·obtain⟨y,e,u⟩:=h3.lt ga;obtain⟨d,m,a,_⟩:=h3;have:d=c:=Option.some.inj (a.1.symm.trans hc);subst this;have b:=(ga.cC j _ m a).ok;unfold bW.ok at b;omega
theorem Cg:∀(N:Nat) (l:List Nat),l.Nodup->(∀x∈l,x<N)->l.length<=N
 | 0,l,_,h=>by
  cases l with
  | nil=>simp
  | cons x l=>have:=h x aA;omega
 | N+1,l,hn,h=>by
  have g:=Cg N (l.filter (· != N)) (hn.sublist rO) λx b=>by
   have b:=zH.1 b;have:=h x b.1;have:x≠N:=by simpa using b.2
   omega
  have d:=List.length_eq_countP_add_countP (l:=l) (p:=(· != N));have i:l.countP (λa=>¬(a != N)=true)<=1:=by
   have e:l.countP (λa=>¬(a != N)=true)=l.count N:=by
    unfold List.count;apply Aw;intro x _;simp
   rw[e];exact Ax.1 hn N
  rw[wq]at d;omega
theorem WI.apart (h:WI W){p q:Pc}(hp:p∈W.held)(hq:q∈W.held){x:Nat}(p1:p.addr<=x)(p2:x<p.addr+p.size)(q1:q.addr<=x)(q2:x<q.addr+q.size):p=q:=by
 obtain⟨A,y,K⟩:=h.hf p hp;obtain⟨B,m,F⟩:=h.hf q hq;have N:=h.nX hp y p1 p2;have M:=h.nX hq m q1 q2;have z:p.k=q.k:=h.one (x/256) p.k q.k A B y m O O;rw[←z,y]at m;cases m;have ga:=h.ga _ A y;have L:=ga.tb;have own:∀{r:Pc},Hd A r->r.addr<=x->x<r.addr+r.size->(r.cls = -1/\A.ow (x/256)=41/\∃u∈A.runs,r.addr=u.1*256/\u.1<=x/256/\x/256<u.1+u.2) ∨
  ∃(j:Nat) (c:bW) (b:List cH) (l:Nat) (s:cH) (i:Nat),r.cls=j/\A.ow (x/256)=j+1/\Cl A j c b/\b[l]?=some s/\i<c.n/\r.addr=at_ c s i/\r.size=c.size:=by
  intro r hr r1 r2;rcases hr with⟨c1,_,u,hu,c2,c3⟩|⟨j,c,c1,c2,c3,c4,_⟩
  ·exact .inl ⟨c1,(ga.jr hu O O).2,u,hu,c2,O,O⟩
  ·obtain⟨d,b,a,H⟩:=c4;have:d=c:=Option.some.inj (a.1.symm.trans c2);subst this;have E:=ga.cC j d b a;obtain⟨l,s,i,D,C,e,_⟩:=(Ue E).1 H;have G:r.addr=at_ d s i:=Int.ofNat.inj e;have g:=Gr E.pos (s:=s) (x:=x) C O O;exact .inr ⟨j,d,b,l,s,i,c1,(ga.used a (zE D) g.1 g.2).2,a,D,C,G,c3⟩
 refine h.unique hp hq ?_;rcases own K p1 p2 with⟨a1,a2,u,hu,a3,a4,a5⟩|⟨j,c,b,l,s,i,a1,a2,a3,a4,a5,a6,a7⟩
 ·rcases own F q1 q2 with⟨b1,b2,w,hw,b3,b4,b5⟩|⟨j',d,ss',l',s',i',b1,b2,b3,b4,b5,b6,b7⟩
  ·have:=ga.ic hu hw a4 a5 b4 b5;subst this;unfold Pc.key;rw[z,a1,b1,a3,b3]
  ·have:=b3.lt;omega
 ·rcases own F q1 q2 with⟨b1,b2,w,hw,b3,b4,b5⟩|⟨j',d,ss',l',s',i',b1,b2,b3,b4,b5,b6,b7⟩
  ·have:=a3.lt;omega
  ·have J:j=j':=by omega
   subst J;obtain⟨rfl,rfl⟩:=a3.eq b3;have:=Uw (ga.cC j c b a3) a4 b4 a5 b5 (x:=x) O O O O;unfold Pc.key;rw[z,a1,b1,a6,b6,this.2.1,this.2.2]
theorem WI.size_pos (h:WI W){p:Pc}(hp:p∈W.held):8<=p.size/\p.size%8=0:=by
 obtain⟨A,e,g⟩:=h.hf p hp;have ga:=h.ga _ A e;rcases g with⟨_,_,r,hr,h1,h2⟩|⟨j,c,_,hc,h2,h3,_⟩
 ·have m:=ga.gR r hr;omega
 ·obtain⟨d,i,a,_⟩:=h3;have:d=c:=Option.some.inj (a.1.symm.trans hc);subst this;have b:=(ga.cC j _ i a).ok;unfold bW.ok at b;omega
theorem WI.len (h:WI W):W.held.length<=262144:=by
 have m:(W.held.map (·.addr)).Nodup:=by
  have u:=kj.1 h.hk;refine kj.2 λi j g s d e=>?_;have b:i<W.held.length:=by simpa using g
  have a:j<W.held.length:=by simpa using s
  refine u i j (by simpa using b) (by simpa using a) d ?_;simp only[sE]at e ⊢;have s1:=(h.size_pos (zc b)).1;have y:=(h.size_pos (zc a)).1;rw[h.apart (zc b) (zc a) (x:=W.held[i].addr) (zD _) O O O]
 have:=Cg 262144 _ m λx w=>by
  obtain⟨p,r,rfl⟩:=zC.1 w;exact(h.ka r).1
 simpa using this
end Go.Ar
namespace Go.Ar
open Go.Vc (bV dF cT)
def mP (live:List (Int×Bk))(k x:Int):Nat:=live.countP λe=>e.2.2.2.1==k&&e.1==x
def mD (ls:List Li)(k x:Int):Nat:=if 0<=k then(ls.getD k.toNat iv).os.count x else 0
def my (bs:List Bt)(k x:Int):Nat:=(bs.map λb=>if(b.1:Int)=k then b.2.count x else 0).sum
def j4 (p:Option Ph)(k x:Int):Nat:=match p with
 | some (.dJ s _)=>if k = -1/\x=s*256 then 1 else 0
 | _=>0
def gW (g:Th)(k x:Int):Nat:=mD g.ls k x+my g.bP k x+j4 g.ph k x
def rh (H:Hw)(k x:Int):Nat:=mP H.live k x+(H.bQ.map λg=>gW g k x).sum
def Um (held:List Pc)(k x:Int):Prop:=∃p∈held,p.eA=false/\p.cls=k/\(p.addr:Int)=x
open Classical in
noncomputable def k5 (held:List Pc)(k x:Int):Nat:=if Um held k x then 1 else 0
theorem FE (held:List Pc)(k x:Int):k5 held k x<=1:=by unfold k5;split<;>omega
theorem BQ {held:List Pc}{k x:Int}(h:1<=k5 held k x):Um held k x:=by
 unfold k5 at h;split at h
 ·assumption
 ·omega
theorem KO {held:List Pc}{k x:Int}(h:Um held k x):k5 held k x=1:=by unfold k5;rw[zB h]
theorem QO {held:List Pc}{k x:Int}(h:¬Um held k x):k5 held k x=0:=by unfold k5;rw[zA h]
theorem NX {held held':List Pc}(h:∀k x,Um held' k x↔Um held k x)(k x:Int):k5 held' k x=k5 held k x:=by
 by_cases hu:Um held k x
 ·rw[KO hu,KO ((h k x).2 hu)]
 ·rw[QO hu,QO λa=>hu ((h k x).1 a)]
theorem La {l:List Int}(hn:l.Nodup)(x:Int):l.count x=if x∈l then 1 else 0:=by
 split
 ·rename_i h;have b:=Ax.1 hn x;have a:=CL.2 h;omega
 ·rename_i h;exact wy.2 h
theorem CX {held held':List Pc}{cl:Int}{l:List Int}(hn:l.Nodup)(h0:∀x∈l,¬Um held cl x)(h:∀k x,Um held' k x↔Um held k x\/(k=cl/\x∈l))(k x:Int):k5 held' k x=k5 held k x+(if cl=k then l.count x else 0):=by
 by_cases hk:cl=k
 ·subst hk;rw[zB rfl,La hn];by_cases hx:x∈l
  ·rw[zB hx,QO (h0 x hx),KO ((h _ _).2 (.inr ⟨rfl,hx⟩))]
  ·rw[zA hx,zt];by_cases hu:Um held cl x
   ·rw[KO hu,KO ((h _ _).2 (.inl hu))]
   ·rw[QO hu,QO λa=>by rcases(h _ _).1 a with a|⟨_,a⟩;exact hu a;exact hx a]
 ·rw[zA hk,zt];by_cases hu:Um held k x
  ·rw[KO hu,KO ((h _ _).2 (.inl hu))]
  ·rw[QO hu,QO λa=>by rcases(h _ _).1 a with a|⟨a,_⟩;exact hu a;exact hk a.symm]
theorem Fm {held held':List Pc}{cl:Int}{l:List Int}(hn:l.Nodup)(h0:∀x∈l,Um held cl x)(h:∀k x,Um held' k x↔Um held k x/\¬(k=cl/\x∈l))(k x:Int):k5 held k x=k5 held' k x+(if cl=k then l.count x else 0):=by
 by_cases hk:cl=k
 ·subst hk;rw[zB rfl,La hn];by_cases hx:x∈l
  ·rw[zB hx,KO (h0 x hx),QO λa=>((h _ _).1 a).2 ⟨rfl,hx⟩]
  ·rw[zA hx,zt];by_cases hu:Um held cl x
   ·rw[KO hu,KO ((h _ _).2 ⟨hu,λa=>hx a.2⟩)]
   ·rw[QO hu,QO λa=>hu ((h _ _).1 a).1]
 ·rw[zA hk,zt];by_cases hu:Um held k x
  ·rw[KO hu,KO ((h _ _).2 ⟨hu,λa=>hk a.1.symm⟩)]
  ·rw[QO hu,QO λa=>hu ((h _ _).1 a).1]
theorem Fj {α:Type}(f:α->Nat):∀{l:List α} {t:Nat} {g:α} (g':α),l[t]?=some g->((l.set t g').map f).sum+f g=(l.map f).sum+f g'
 | [],t,g,g',h=>by simp at h
 | a::l,0,g,g',h=>by
  simp only[ve,Option.some.injEq]at h;subst h;simp only[List.set_cons_zero,zJ,zj];omega
 | a::l,t+1,g,g',h=>by
  have:=Fj f (l:=l) (t:=t) g' (by simpa using h);simp only[si,zJ,zj];omega
theorem D4 {α:Type}(f:α->Nat){l:List α}{g:α}(h:g∈l):f g<=(l.map f).sum:=by
 induction l with
 | nil=>simp at h
 | cons a l ih=>
  simp only[zJ,zj];rcases zQ.1 h with rfl|h
  ·omega
  ·have:=ih h;omega
theorem vT (ls:List Li)(k:Nat)(x:Int):mD ls (k:Int) x=(ls.getD k iv).os.count x:=by
 unfold mD;rw[zB O,dC]
theorem Ee {ls:List Li}{j:Nat}(l:Li)(k:Nat)(h:j<ls.length):(ls.set j l).getD k iv=if k=j then l else ls.getD k iv:=by
 rw[zL,oc];by_cases hkj:k=j
 ·subst hkj;simp[h]
 ·rw[zA hkj,zA (Ne.symm hkj),zL]
theorem Te {ls:List Li}{j:Nat}(l:Li)(h:j<ls.length)(k x:Int):mD (ls.set j l) k x+(if(j:Int)=k then(ls.getD j iv).os.count x else 0)=mD ls k x+(if(j:Int)=k then l.os.count x else 0):=by
 by_cases hk:0<=k
 ·obtain⟨k,rfl⟩:=zk hk;rw[vT,vT,Ee l k h];by_cases hjk:j=k
  ·subst hjk;simp;omega
  ·have:¬(j:Int)=(k:Int):=by omega
   rw[zA (Ne.symm hjk),zA this,zA this]
 ·unfold mD;rw[zA hk,zA hk,zA O,zA O]
theorem VF (k x:Int):my [] k x=0:=rfl
theorem Kz (b:Bt)(bs:List Bt)(k x:Int):my (b::bs) k x=(if(b.1:Int)=k then b.2.count x else 0)+my bs k x:=by
 unfold my;rw[zJ,zj]
theorem E8 (a b:List Bt)(k x:Int):my (a++b) k x=my a k x+my b k x:=by
 unfold my;rw[zr,pR]
theorem Lg {f:bW->Li->List Int×Li}(hf:∀c l x,(f c l).1.count x+(f c l).2.os.count x=l.os.count x){tb:List bW}{ls:List Li}(hl:ls.length=tb.length)(k x:Int):my (Ka f tb ls) k x+mD (Q6 f tb ls) k x=mD ls k x:=by
 have key:∀n,n<=tb.length->my ((List.range n).filterMap λk=>match tb[k]?,ls[k]? with
  | some c,some l=>if(f c l).1=[]then none else some (k,(f c l).1)
  | _,_=>none) k x=if 0<=k/\k<(n:Int)then(match tb[k.toNat]?,ls[k.toNat]? with
  | some c,some l=>(f c l).1.count x
  | _,_=>0)else 0:=by
  intro n
  induction n with
  | zero=>intro _;rw[zA O];rfl
  | succ n i=>
   intro hn;have i:=i O;rw[j7,uL,E8,i];have d:tb[n]?=some tb[n]:=cM O;have a:ls[n]?=some ls[n]:=cM O;have e:my ([n].filterMap λk=>match tb[k]?,ls[k]? with
    | some c,some l=>if(f c l).1=[]then none else some (k,(f c l).1)
    | _,_=>none) k x=if(n:Int)=k then(f tb[n] ls[n]).1.count x else 0:=by
    rw[AK,d,a];simp only;by_cases he:(f tb[n] ls[n]).1=[]
    ·rw[zB he,he];simp[VF]
    ·rw[zA he];simp only[List.filterMap_nil,Kz,VF,zt]
   rw[e];by_cases b:0<=k/\k<(n:Int)
   ·rw[zB b,zA (show ¬(n:Int)=k by omega),zt,zB (show 0<=k/\k<((n+1:Nat):Int)from⟨b.1,O⟩)]
   ·rw[zA b,zG];by_cases g:(n:Int)=k
    ·subst g;rw[zB rfl,zB (show(0:Int)<=(n:Int)/\(n:Int)<((n+1:Nat):Int)from⟨O,O⟩),dC,d,a]
    ·rw[zA g,zA O]
 have b:=key tb.length (zD _);have e:Ka f tb ls=(List.range tb.length).filterMap λk=>match tb[k]?,ls[k]? with
  | some c,some l=>if(f c l).1=[]then none else some (k,(f c l).1)
  | _,_=>none:=rfl
 rw[e,b];by_cases hk:0<=k
 ·obtain⟨k,rfl⟩:=zk hk;rw[vT,vT,dC];by_cases hkl:k<tb.length
  ·have d:tb[k]?=some tb[k]:=cM hkl;have a:ls[k]?=some ls[k]:=cM O;rw[zB ⟨O,O⟩,d,a];simp only;have:(Q6 f tb ls).getD k iv=(f tb[k] ls[k]).2:=by
    unfold Q6;rw[zL,BV,d,a];rfl
   rw[this,zL,a];exact hf _ _ _
  ·rw[zA O,zG];have b:(Q6 f tb ls).getD k iv=iv:=by
    unfold Q6;rw[zL,zY (by rw[List.length_zipWith];omega)];rfl
   have g:ls.getD k iv=iv:=by rw[zL,zY O];rfl
   rw[b,g]
 ·rw[zA O,zG];unfold mD;rw[zA hk,zA hk]
theorem C6 (m:Nat)(l:Li)(x:Int):(gQ m l).1.count x+(gQ m l).2.os.count x=l.os.count x:=by
 show(l.os.take m).count x+(l.os.drop m).count x=_;rw[←vE,mZ]
theorem Sm (c:bW)(l:Li)(x:Int):(KH c l).1.count x+(KH c l).2.os.count x=l.os.count x:=C6 _ l x
theorem Rx (c:bW)(l:Li)(x:Int):(ZX c l).1.count x+(ZX c l).2.os.count x=l.os.count x:=C6 _ l x
theorem NN (c:bW)(y:Int)(l:Li)(hl:l.os.length<=255)(x:Int):(dQ c y l).1.count x+(dQ c y l).2.os.count x=l.os.count x + [y].count x:=by
 have a:(eL [y] l).os=l.os++[y]:=by
  unfold eL;rw[zA aE]
 unfold dQ;rw[zA O];split
 ·rw[a,List.count_nil,zG,vE]
 ·rw[C6];have:(nf c (eL [y] l)).os=(eL [y] l).os:=by unfold nf;split<;>rfl
  rw[this,a,vE]
theorem F0 {c:bW}{l l':Li}{y:Int}(h:Kb c l=(some y,l'))(x:Int):l.os.count x=l'.os.count x + [y].count x:=by
 unfold Kb at h;split at h
 ·simp at h
 ·rename_i z hz;cases h;have:l.os=l.os.dropLast++[y]:=by
   obtain⟨b,a⟩:=List.getLast?_eq_some_iff.1 hz;rw[a];simp
  conv=>lhs;rw[this]
  rw[vE]
theorem Si {c:bW}{l l':Li}(h:Kb c l=(none,l')):l.os=[]/\l'.os=[]:=by
 unfold Kb at h;split at h
 ·rename_i hz;have:l.os=[]:=by simpa using hz
  cases h;refine⟨this,?_⟩;split<;>exact this
 ·simp at h
theorem CS {live:List (Int×Bk)}{x:Int}(b:Bk)(h:bV live x=none)(k y:Int):mP (dF live x b) k y=mP live k y+(if b.2.2.1=k then[x].count y else 0):=by
 have a:live.any (λe=>e.1==x)=false:=by
  rw[np];intro e he hx;unfold bV at h;rw[rq,n4]at h;exact h e he hx
 unfold dF;rw[a,zA aA];unfold mP;rw[uV]
 congr 1
 rw[qR,List.countP_nil,zG];by_cases h1:b.2.2.1=k
 ·by_cases h2:x=y
  ·subst h2;simp[h1]
  ·simp[h1,h2]
 ·simp[h1]
theorem Du {live:List (Int×Bk)}{x:Int}{b:Bk}(h:bV live x=none){e:Int×Bk}:e∈dF live x b↔e∈live\/e=(x,b):=by
 have a:live.any (λe=>e.1==x)=false:=by
  rw[np];intro e he hx;unfold bV at h;rw[rq,n4]at h;exact h e he hx
 unfold dF;rw[a,zA aA,zR,zV]
theorem Cq {live:List (Int×Bk)}{x:Int}{e:Int×Bk}:e∈cT live x↔e∈live/\e.1≠x:=by
 unfold cT;rw[zH];simp
theorem Ay:∀{live:List (Int×Bk)} {x:Int} {b:Bk},(live.map (·.1)).Nodup->bV live x=some b->∀k y,mP live k y=mP (cT live x) k y+(if b.2.2.1=k then[x].count y else 0)
 | [],x,b,_,h,_,_=>by simp[bV]at h
 | e::l,x,b,hn,h,k,y=>by
  rw[zJ,zq]at hn;by_cases he:e.1=x
  ·have hb:e.2=b:=by
    unfold bV at h;rw[List.find?_cons_of_pos (by simpa using he)]at h;simpa using h
   have hd:cT (e::l) x=l:=by
    unfold cT;rw[uo (by simpa using he),nT];intro a ha;have:a.1≠x:=λi=>hn.1 (zC.2 ⟨a,ha,i.trans he.symm⟩);simpa using this
   rw[hd];unfold mP;rw[qR,hb,he]
   congr 1
   by_cases h1:b.2.2.1=k
   ·by_cases h2:x=y
    ·subst h2;simp[h1]
    ·simp[h1,h2]
   ·simp[h1]
  ·have g:bV l x=some b:=by
    unfold bV at h ⊢
    rwa [List.find?_cons_of_neg (by simpa using he)]at h
   have d:=Ay hn.2 g k y;have hd:cT (e::l) x=e::cT l x:=by
    unfold cT;rw[tj (by simpa using he)]
   rw[hd];unfold mP at d ⊢;rw[qR,qR,d];omega
theorem EW {live:List (Int×Bk)}{e:Int×Bk}(h:e∈live):1<=mP live e.2.2.2.1 e.1:=by
 unfold mP;exact List.countP_pos_iff.2 ⟨e,h,by simp⟩
structure gJ (s s':Sp):Prop where
 l:s'.st.length=s.st.length
 z:∀p,gf s'.st p=0↔gf s.st p=0
 w:s'.wd=s.wd
def iB (m:Nat)(g:Th):Prop:=match g.ph with
 | none=>g.bP=[]
 | some (.take k)=>g.bP=[]/\k<m
 | some (.cN k w)=>g.bP=[]/\k<m/\(g.li k).os=[]/\1<=w/\w<=32
 | some (.cO k w)=>g.bP=[]/\k<m/\(g.li k).os=[]/\1<=w/\w<=32
 | some (.grow k w)=>g.bP=[]/\k<m/\(g.li k).os=[]/\1<=w/\w<=32
 | some .fill=>∃k x xs,g.bP=[(k,x::xs)]/\k<m/\(g.li k).os=[]/\xs.length<=128
 | some (.eV n)=>g.bP=[]/\1<=n/\n<=64
 | some (.find x)=>g.bP=[]/\iL x
 | some (.put k x)=>g.bP=[(k,[x])]/\k<m
 | some .back=>g.bP≠[]
 | some (.dJ _ _)=>g.bP=[]
 | some .drain=>g.bP=[]
structure sY (m:Nat) (g:Th):Prop where
 ll:g.ls.length=m
 lo:∀l∈g.ls,fR l/\l.os.length<=128
 hb:∀b∈g.bP,b.1<m/\b.2≠[]/\b.2.length<=256
 hl:g.bP.length<=41
 ph:iB m g
def Lv (held:List Pc)(e:Int×Bk):Prop:=e.2.1=e.1/\∃p∈held,p.eA=false/\p.cls=e.2.2.2.1/\(p.addr:Int)=e.1/\e.2.2.1=(p.size:Int)/\e.2.2.2.2=(p.k:Int)
def Gv (held:List Pc)(s a:Int):Prop:=∃p∈held,p.eA=false/\p.cls = -1/\(p.addr:Int)=s*256/\a=(p.k:Int)
structure HI (H:Hw) (held:List Pc) (s0:Sp):Prop where
 wi:WI ⟨H.tb,s0,H.bT,held⟩
 kZ:gJ s0 H.sp
 cn:∀k x,rh H k x=k5 held k x
 lk:(H.live.map (·.1)).Nodup
 lv:∀e∈H.live,Lv held e
 gv:∀g∈H.bQ,∀s a,g.ph=some (.dJ s a)->Gv held s a
 th:∀g∈H.bQ,sY H.tb.length g
 ok:∀c∈H.tb,c.ok
 a1:1<=H.bT.length
 sl:H.sp.st.length=H.cf.aF
variable {H:Hw}{held:List Pc}{s0:Sp}{t k:Nat}{g:Th}{A:AR}
theorem gJ.refl (s:Sp):gJ s s:=⟨rfl,λ_=>Iff.rfl,rfl⟩
theorem HI.apart (h:HI H held s0){p q:Pc}(hp:p∈held)(hq:q∈held){x:Nat}(p1:p.addr<=x)(p2:x<p.addr+p.size)(q1:q.addr<=x)(q2:x<q.addr+q.size):p=q:=h.wi.apart hp hq p1 p2 q1 q2
theorem WI.same {W:Wd}(h:WI W){p q:Pc}(hp:p∈W.held)(hq:q∈W.held)(e:p.addr=q.addr):p=q:=by
 have b:=(h.size_pos hp).1;have a:=(h.size_pos hq).1;exact h.apart hp hq (x:=p.addr) (zD _) O O O
theorem WI.um {W:Wd}(h:WI W){p:Pc}(hp:p∈W.held){k x:Int}(hu:Um W.held k x)(e:(p.addr:Int)=x):p.eA=false/\p.cls=k:=by
 obtain⟨q,a,d,b,g⟩:=hu;obtain rfl:=h.same hp a O;exact⟨d,b⟩
theorem HI.nO (h:HI H held s0){e:Int×Bk}(he:e∈H.live):Um held e.2.2.2.1 e.1:=by
 obtain⟨_,p,a,d,b,g,_⟩:=h.lv e he;exact⟨p,a,d,b,g⟩
theorem HI.py (h:HI H held s0){g:Th}(hg:g∈H.bQ)(k x:Int):gW g k x<=k5 held k x:=by
 rw[←h.cn];unfold rh;have:=D4 (λg=>gW g k x) hg;omega
theorem HI.qP (h:HI H held s0){g:Th}(hg:g∈H.bQ){k x:Int}(hc:1<=gW g k x):Um held k x:=BQ (zI hc (h.py hg k x))
theorem HI.mJ (h:HI H held s0){g:Th}(hg:g∈H.bQ){k x:Int}(hc:1<=gW g k x):bV H.live x=none:=by
 cases hm:bV H.live x with
 | none=>rfl
 | some b=>
  have a:=KA hm;have i:=h.qP hg hc;obtain⟨q,j,w,s,u⟩:=h.nO a;have m:k=b.2.2.1:=by
   have:=(h.wi.um (W:=⟨H.tb,s0,H.bT,held⟩) j i u).2;exact this.symm.trans s
  have r:=EW a;have d:=h.cn k x;have p:=FE held k x;have e:=D4 (λg=>gW g k x) hg;simp only at r e;unfold rh at d;rw[m]at d p e hc;omega
theorem HI.tE (h:HI H held s0){x:Int}(hn:∀k,¬Um held k x):bV H.live x=none:=by
 cases hm:bV H.live x with
 | none=>rfl
 | some b=>exact(hn _ (h.nO (KA hm))).elim
theorem HI.fO (h:HI H held s0)(hg:H.bQ[t]?=some g){g':Th}{live':List (Int×Bk)}{s0' sp':Sp}{ars':List AR}{held':List Pc}(wi:WI ⟨H.tb,s0',ars',held'⟩)(kZ:gJ s0' sp')(hsl:sp'.st.length=H.sp.st.length)(hl:ars'.length=H.bT.length)
 (sub:∀p∈held',p.eA=false->p∈held\/∀k,¬Um held k (p.addr:Int))
 (cn:∀k x,mP live' k x+gW g' k x+k5 held k x=mP H.live k x+gW g k x+k5 held' k x)
 (lk:(live'.map (·.1)).Nodup) (lv:∀e∈live',e∈H.live\/Lv held' e) (gv:∀s a,g'.ph=some (.dJ s a)->Gv held' s a) (th:sY H.tb.length g') :
 HI {H with live:=live',sp:=sp',bT:=ars',bQ:=H.bQ.set t g'} held' s0':=by
 have r:∀k x,rh {H with live:=live',sp:=sp',bT:=ars',bQ:=H.bQ.set t g'} k x=k5 held' k x:=λk x=>by
  have d:=h.cn k x;have u:=cn k x;have i:=Fj (λg=>gW g k x) g' hg;unfold rh at d ⊢;simp only at i ⊢;omega
 have F:=(cQ.1 hg).1;have bU:∀p∈held,p.eA=false->Um held' p.cls (p.addr:Int)->p∈held':=λp m D ⟨q,A,d,u,i⟩=>by
  rcases sub q A d with hs|hs
  ·have:q=p:=h.wi.same (W:=⟨H.tb,s0,H.bT,held⟩) hs m O;rw[←this];exact A
  ·exact(hs p.cls ⟨p,m,D,rfl,i.symm⟩).elim
 refine⟨wi,kZ,r,lk,λe B=>?_,λw b s a m=>?_,λw b=>?_,h.ok,by simp only;rw[hl];exact h.a1,hsl.trans h.sl⟩
 ·rcases lv e B with he'|he'
  ·obtain⟨C,p,m,d,u,i,z⟩:=h.lv e he';refine⟨C,p,bU p m d ?_,d,u,i,z⟩;rw[u,i];apply BQ;rw[←r];have:1<=mP live' e.2.2.2.1 e.1:=EW B;unfold rh;simp only;omega
  ·exact he'
 ·rcases List.mem_iff_getElem?.1 b with⟨j,hj⟩;rcases Vo hj with⟨rfl,rfl,_⟩|⟨hne,hj'⟩
  ·exact gv s a m
  ·obtain⟨p,y,d,u,i,z⟩:=h.gv w (zE hj') s a m;refine⟨p,bU p y d ?_,d,u,i,z⟩;rw[u,i];apply BQ;rw[←r];have E:=D4 (λg=>gW g (-1) (s*256)) b;have G:1<=gW w (-1) (s*256):=by unfold gW;rw[m];simp[j4]
   unfold rh;simp only at E ⊢;omega
 ·rcases List.mem_iff_getElem?.1 b with⟨j,hj⟩;rcases Vo hj with⟨rfl,rfl,_⟩|⟨hne,hj'⟩
  ·exact th
  ·exact h.th w (zE hj')
theorem HI.kO (h:HI H held s0)(hg:H.bQ[t]?=some g){g':Th}{live':List (Int×Bk)}(cn:∀k x,mP live' k x+gW g' k x=mP H.live k x+gW g k x)(lk:(live'.map (·.1)).Nodup)(lv:∀e∈live',e∈H.live\/Lv held e)
 (gv:∀s a,g'.ph=some (.dJ s a)->Gv held s a) (th:sY H.tb.length g'):HI {H with live:=live',bQ:=H.bQ.set t g'} held s0:=
 h.fO hg h.wi h.kZ rfl rfl (λp b _=>.inl b) (λk x=>by have:=cn k x;omega) lk lv gv th
theorem HI.tn (h:HI H held s0){s0' sp':Sp}{ars':List AR}{held':List Pc}(wi:WI ⟨H.tb,s0',ars',held'⟩)(kZ:gJ s0' sp')(hsl:sp'.st.length=H.sp.st.length)(hl:ars'.length=H.bT.length)(um:∀k x,Um held' k x↔Um held k x)(sub:∀p∈held',p.eA=false->p∈held) :
 HI {H with sp:=sp',bT:=ars'} held' s0':=by
 have bU:∀p∈held,p.eA=false->p∈held':=λp d u=>by
  obtain⟨q,m,b,i,z⟩:=(um p.cls (p.addr:Int)).2 ⟨p,d,u,rfl,rfl⟩;have:q=p:=h.wi.same (W:=⟨H.tb,s0,H.bT,held⟩) (sub q m b) d O;rw[←this];exact m
 refine⟨wi,kZ,λk x=>(h.cn k x).trans (NX um k x).symm,h.lk,λe w=>?_,λg y s a d=>?_,h.th,h.ok,by simp only;rw[hl];exact h.a1,hsl.trans h.sl⟩
 ·obtain⟨r,p,d,b,i⟩:=h.lv e w;exact⟨r,p,bU p d b,b,i⟩
 ·obtain⟨p,j,b,i⟩:=h.gv g y s a d;exact⟨p,bU p j b,b,i⟩
theorem Np {A:AR}{x:Int}:US A x=true↔0<=x/\A.f x.toNat≠0:=by
 unfold US AR.f gf;simp
theorem WI.owner {W:Wd}(h:WI W){p:Pc}(hp:p∈W.held){x:Nat}(h1:p.addr<=x)(h2:x<p.addr+p.size):YJ W.bT (x:Int)=(p.k:Int):=by
 obtain⟨A,b,_⟩:=h.hf p hp;have g:=h.nX hp b h1 h2;have a:=(cQ.1 b).1;have own:∀(j:Nat) (B:AR),W.bT[j]?=some B->(US B ((x:Int)/256)=true↔j=p.k):=λj B d=>by
  have e:((x:Int)/256).toNat=x/256:=by omega
  rw[Np,e];constructor
  ·rintro⟨_,hf⟩;exact h.one (x/256) j p.k B A d b hf O
  ·rintro rfl;rw[b]at d;cases d;exact⟨O,O⟩
 unfold YJ;rw[zA O];have hf:W.bT.findIdx? (λA=>US A ((x:Int)/256))=some p.k:=by
  rw[oO];refine⟨a,(own p.k _ (cM a)).2 rfl,λj i=>?_⟩;have:=own j W.bT[j] (cM O);intro hx;have:=this.1 hx;omega
 rw[hf]
theorem HI.owner (h:HI H held s0){p:Pc}(hp:p∈held){x:Nat}(h1:p.addr<=x)(h2:x<p.addr+p.size):YJ H.bT (x:Int)=(p.k:Int):=h.wi.owner (W:=⟨H.tb,s0,H.bT,held⟩) hp h1 h2
theorem HI.pW (h:HI H held s0){p:Pc}(hp:p∈held):YJ H.bT (p.addr:Int)=(p.k:Int):=h.owner hp (zD _) (by have:=(h.wi.size_pos (W:=⟨H.tb,s0,H.bT,held⟩) hp).1;omega)
theorem HI.i63 (h:HI H held s0){k x:Int}(hu:Um held k x):iL x/\0<=x/\0<=YJ H.bT x:=by
 obtain⟨p,a,_,_,rfl⟩:=hu;have:=(h.wi.ka (W:=⟨H.tb,s0,H.bT,held⟩) a).1;refine⟨by unfold iL;omega,O,?_⟩;rw[h.pW a];omega
end Go.Ar